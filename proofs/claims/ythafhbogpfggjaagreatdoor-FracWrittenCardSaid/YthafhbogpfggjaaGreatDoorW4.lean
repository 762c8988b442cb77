/-
  Contracts of package wide: subtract, difference, Add, Sub.
-/
import Derived.Test.YthafhbogpfggjaaGreatDoorW3
namespace Go.Proofs.YthafhbogpfggjaaGreatDoor
open Go.RowKit Mag

structure SubSt (w : World) (g : Nat) (a b : List Nat) (k : Nat) (ds : List Nat) (cy : Nat) (wr : World) : Prop where
  len : ds.length = k
  ws : Ws ds
  cy1 : cy ≤ 1
  eq : val ds + val (b.take k) = val (a.take k) + cy * 4294967296 ^ k
  out : Own wr g 153 ((ds ++ a.drop k).map w32)
  grw : w.grownBy wr (some g)
theorem SubSt.step {w : World} {g : Nat} {a b : List Nat} {k : Nat} {ds : List Nat} {cy : Nat} {wr : World} (h : SubSt w g a b k ds cy wr) (hk : k < a.length)
    {s : Int} {d c' : Nat} (hs : s = (d : Int)) (hd : d < 4294967296) (hc : c' ≤ 1) (he : d + (cy + b.getD k 0) = a.getD k 0 + c' * 4294967296) :
    SubSt w g a b (k + 1) (ds ++ [d]) c' (wr.setCell ⟨g, k, none⟩ (.int .u32 s)) := by
  subst hs
  refine ⟨by simp [h.len], h.ws.append (Ws.cons hd Ws.nil), hc, sub_step h.len h.eq he, ?_, grown_trans' h.grw (grown_set _ _ _ _)⟩
  have := h.out.set_ k (w32 d)
  rw [mid_set2 h.len hk] at this
  exact this
def SubPost (w : World) (g : Nat) (a b : List Nat) (e : Ending) (w' : World) : Prop :=
  ∃ ds r, e = .returned (.int .u32 r) ∧ Own w' g 153 (ds.map w32) ∧ Ws ds ∧ val ds = val a - val b ∧ ds.length = a.length ∧ w.grownBy w' (some g)

set_option maxHeartbeats 1000000 in
theorem subtract_any {B : Option Addr} {c d g : Nat} {a b : List Nat} {w : World} (hA : Own w g 153 (a.map w32)) (hB : Sl w g B (b.map w32)) (hwa : Ws a) (hwb : Ws b) (hl : b.length ≤ a.length) (hb : a.length ≤ 1048576) (hge : val b ≤ val a) :
    Calls Tryz.prog 173 #[.slice (some ⟨g, 0, none⟩) a.length c, .slice B b.length d] w (SubPost w g a b) := by
  go_enter Tryz.func173, Tryz.ntmps173
  go_wp2
  go_loopw [11, 5] (fun i bo wr => ∃ (k : Nat) (ds : List Nat) (cy : Nat), k ≤ a.length ∧ i = .int .i64 k ∧ bo = .int .u64 (cy : Nat) ∧ SubSt w g a b k ds cy wr)
    (fun i _ _ => a.length - (intOf i).toNat)
  case atStart => exact ⟨0, [], 0, by omega, rfl, rfl, rfl, Ws.nil, by omega, by simp [val], by simpa using hA, World.grownBy.refl _ _⟩
  case round =>
    obtain ⟨k, ds, cy, hk, rfl, rfl, hst⟩ := hrel
    have hcy := hst.cy1
    have hgb := hwb.getD k
    by_cases hlt : k < a.length
    · have ba := hwa.get hlt
      have HEA := Lib.hid (getD_lt hlt)
      have hcell : wr.cell? ⟨g, k, none⟩ = some (.int .u32 (a[k] : Nat)) := by rw [hst.out.cell, mid_cell2 hst.len hlt]; rfl
      have hfr := hst.out.frozen k
      rcases Nat.lt_or_ge k b.length with hbk | hbk
      · obtain ⟨g2, o2, rfl, hg2, hc2⟩ := (hB.keep (w' := wr) (fun p hp => World.cell?_of_block (hst.grw.block p.block (by have := hA.lt; omega) (fun e => by injection e; omega)))).w32at (i := k) hbk
        have HEB := Lib.hid (getD_lt hbk)
        have bb := hwb.get hbk
        rcases Nat.lt_or_ge (a[k]) (cy + b[k]) with hgt | hgt
        · skip
          have hn := fun (s : Int) (hs : s = ((a[k] + 4294967296 - (cy + b[k]) : Nat) : Int)) => hst.step hlt (d := a[k] + 4294967296 - (cy + b[k])) (c' := 1) hs (by omega) (by omega) (by rw [HEA.out, HEB.out]; omega)
          have HN := Lib.hid hn
          clear hn
          go_wp2
          go_roundw
          case rel => exact ⟨k + 1, _, 1, by omega, by go_num, rfl, HN.out _ (by omega)⟩
          case measure => simp [intOf] <;> omega
        · skip
          have hn := fun (s : Int) (hs : s = ((a[k] - (cy + b[k]) : Nat) : Int)) => hst.step hlt (d := a[k] - (cy + b[k])) (c' := 0) hs (by omega) (by omega) (by rw [HEA.out, HEB.out]; omega)
          have HN := Lib.hid hn
          clear hn
          go_wp2
          go_roundw
          case rel => exact ⟨k + 1, _, 0, by omega, by go_num, rfl, HN.out _ (by omega)⟩
          case measure => simp [intOf] <;> omega
      · have HEB := Lib.hid (getD_ge hbk)
        rcases Nat.lt_or_ge (a[k]) (cy) with hgt | hgt
        · skip
          have hn := fun (s : Int) (hs : s = ((a[k] + 4294967296 - (cy) : Nat) : Int)) => hst.step hlt (d := a[k] + 4294967296 - (cy)) (c' := 1) hs (by omega) (by omega) (by rw [HEA.out, HEB.out]; omega)
          have HN := Lib.hid hn
          clear hn
          go_wp2
          go_roundw
          case rel => exact ⟨k + 1, _, 1, by omega, by go_num, rfl, HN.out _ (by omega)⟩
          case measure => simp [intOf] <;> omega
        · skip
          have hn := fun (s : Int) (hs : s = ((a[k] - (cy) : Nat) : Int)) => hst.step hlt (d := a[k] - (cy)) (c' := 0) hs (by omega) (by omega) (by rw [HEA.out, HEB.out]; omega)
          have HN := Lib.hid hn
          clear hn
          go_wp2
          go_roundw
          case rel => exact ⟨k + 1, _, 0, by omega, by go_num, rfl, HN.out _ (by omega)⟩
          case measure => simp [intOf] <;> omega
    · obtain rfl : k = a.length := by omega
      have hO := hst.out
      rw [List.drop_length, List.append_nil] at hO
      have hv := sub_end hl hst.len hst.ws hst.eq hge
      have HP := fun r => (⟨ds, r, rfl, hO, hst.ws, hv, hst.len, hst.grw⟩ : SubPost w g a b (.returned (.int .u32 r)) wr)
      have HQ := Lib.hid HP
      clear HP hv hO hst
      go_wp2
      go_ret
      exact HQ.out _

theorem addr_add (g o j : Nat) : (⟨g, o, none⟩ : Addr).add j = ⟨g, o + j, none⟩ := by
  unfold Addr.add
  split
  · subst_vars; rfl
  · rfl
theorem u32_size : (Tryz.prog.info? 153).map (·.size) = some 1 := by kernel_rfl
theorem w32_one (l : List Nat) : ∀ v ∈ l.map w32, v.oneCell' = true := by
  intro v hv
  obtain ⟨x, _, rfl⟩ := List.mem_map.1 hv
  rfl
theorem Sl.copies {w w' : World} {B : Nat} {A : Option Addr} {xs : List Value} (h : Sl w B A xs) (hk : ∀ p : Addr, p.block < B → w'.cell? p = w.cell? p) (h0 : 0 < xs.length) :
    ∃ ad, A = some ad ∧ ∀ (j : Nat) (v : Value), xs[j]? = some v → w'.cell? (ad.add j) = some v := by
  obtain ⟨g, off, rfl, hg, hc⟩ := h (by intro e; subst e; simp at h0)
  exact ⟨_, rfl, fun j v hj => by rw [addr_add]; exact (hk _ hg).trans (hc j v hj)⟩
theorem splice_all {α : Type} (L cs : List α) (h : L.length = cs.length) : splice L 0 cs = cs := by
  unfold splice
  rw [List.take_zero, List.nil_append, Nat.zero_add, ← h, List.drop_length, List.append_nil]

def DiffPost (w : World) (a b : List Nat) (e : Ending) (w' : World) : Prop :=
  ∃ g ds, e = .returned (.slice (some ⟨g, 0, none⟩) ds.length ds.length) ∧ Own w' g 153 (ds.map w32) ∧ Ws ds ∧ Hid (val ds = val a - val b) ∧ ds.length ≤ a.length ∧ Below w.heap.size w w' ∧ w.heap.size ≤ g

set_option maxHeartbeats 1000000 in
theorem difference_any {A B : Option Addr} {c d : Nat} {a b : List Nat} {w : World} (hA : Sl w w.heap.size A (a.map w32)) (hB : Sl w w.heap.size B (b.map w32)) (hwa : Ws a) (hwb : Ws b) (hl : b.length ≤ a.length) (hb : a.length ≤ 1048576) (hge : val b ≤ val a) :
    Calls Tryz.prog 131 #[.slice A a.length c, .slice B b.length d] w (DiffPost w a b) := by
  have hmk := make_u32 a.length (by omega) (a.length : Int) rfl
  obtain ⟨cs, hcs⟩ : ∃ cs, cs = a.map w32 := ⟨_, rfl⟩
  have hcl : cs.length = a.length := by rw [hcs]; simp
  have HCL := Lib.hid hcl
  have HCS := Lib.hid hcs
  clear hcl hcs
  have h1 : ∀ v ∈ cs, v.oneCell' = true := by rw [HCS.out]; exact w32_one a
  have H1 := Lib.hid h1
  clear h1
  go_enter Tryz.func131, Tryz.ntmps131
  go_wp2_with (refine wpList_copy_splice rfl (.tmp 9) (.tmp 10) _ _ rfl 153 Tryz.underlying27 u32_size _ _ _ _ _ _ rfl rfl w.heap.size 0 (List.replicate a.length (w32 0)) 153 (Own.rep w _ _ _) cs ?c1 ?c2 ?c3 H1.out w.heap.size w ?c4 (Nat.le_refl _) ?_)
  case c1 => rw [HCL.out]; simp
  case c2 =>
    intro h0
    have h := (HCS.out ▸ hA : Sl w w.heap.size A cs).copies (w' := w.alloc (.cells (Array.replicate a.length (w32 0)) 153)) (fun p hp => World.cell?_alloc_lt w _ p hp) h0
    first | exact h | exact ⟨rfl, h⟩
  case c3 => rw [HCL.out]; simp
  case c4 => go_grown
  intro w2 HG2 hB2
  have hO : Own w2 w.heap.size 153 (a.map w32) := by
    have := HG2.out
    rw [splice_all _ _ (by rw [HCL.out]; simp), HCS.out] at this
    exact this
  clear HG2 HCS HCL H1
  go_wp2_with fail
  refine (subtract_any hO (hB.below hB2) hwa hwb hl hb hge).mono ?_
  rintro e w3 ⟨ds, r, rfl, h3, h4, h5, h6, h7⟩
  have HP : DiffPost w a b (.returned (.slice (some ⟨w.heap.size, 0, none⟩) ds.length ds.length)) w3 := ⟨_, ds, rfl, h3, h4, Lib.hid h5, by omega, below_grown hB2 h7 (Nat.le_refl _) hB2.size, Nat.le_refl _⟩
  rw [h6] at HP
  have HQ := Lib.hid HP
  clear HP h3 h4 h5 h6 h7 hO
  go_wp2
  go_ret
  exact HQ.out
end Go.Proofs.YthafhbogpfggjaaGreatDoor
