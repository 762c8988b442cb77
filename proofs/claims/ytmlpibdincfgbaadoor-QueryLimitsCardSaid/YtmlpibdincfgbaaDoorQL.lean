/-
  Queries, plain: two texts are read (the document's examples).
  Queries, plain: the texts of regions and queries; which queries are valid.
  Queries, plain: what is parsed is small and valid.
  Chapter 38's law: regions from one package to the other.
  Chapter 38's law: queries from one package to the other; the reference's Same, SameInts, SameQuery.
  Chapter 38's law: the two examples.
  Chapter 38's law QueryLimits.
-/
import Derived.Test.YtmlpibdincfgbaaDoorK4
import Derived.KernelRfl
import Derived.Test.YtmlpibdincfgbaaDoorL34
import Derived.Lib.ItoaNum
import Derived.Test.YtmlpibdincfgbaaDoorK18
import Derived.Test.YtmlpibdincfgbaaDoorM4
import Derived.Test.YtmlpibdincfgbaaDoorK21
import Derived.Test.YtmlpibdincfgbaaDoorM11
import Derived.Test.YtmlpibdincfgbaaDoorA4
namespace Qy
open Go

/-- The tokens, by fuel. -/
def toksF : Nat → Bs → Nat → List Tok
  | 0, _, i => [⟨[], i⟩]
  | _ + 1, [], i => [⟨[], i⟩]
  | f + 1, c :: s, i => if c = 32 then toksF f s (i + 1) else ⟨c :: s.takeWhile (more c), i⟩ :: toksF f (s.dropWhile (more c)) (i + 1 + (s.takeWhile (more c)).length)
theorem toks_fuel : ∀ (f : Nat) (s : Bs) (i : Nat), s.length ≤ f → toks s i = toksF f s i := by
  intro f
  induction f with
  | zero =>
    intro s i h
    obtain rfl : s = [] := List.eq_nil_of_length_eq_zero (by omega)
    rw [toks]
    rfl
  | succ f ih =>
    intro s i h
    match s, h with
    | [], _ => rw [toks]; rfl
    | c :: s, h =>
      simp only [List.length_cons] at h
      rw [toks, toksF]
      split
      · exact ih s (i + 1) (by omega)
      · have hd := drop_le (more c) s
        rw [ih _ _ (by omega)]
/-- What a text's tokens lead to. -/
def parseT (n : Nat) (l : List Tok) : Qry × Nat × Int :=
  match pQuery FU l with
  | .bad x e => (Qry.none, x, e)
  | .ok q _ => if 256 < nodes q.reg ∨ 16 < nest q.reg then (Qry.none, n, 4) else (q, 0, 0)
theorem parse_eq (s : Bs) (f : Nat) (h : s.length ≤ f) (hf : f ≤ 4096) : parse s = parseT s.length (toksF f s 0) := by
  unfold parse
  rw [if_neg (by omega), toks_fuel f s 0 h]
  rfl
/-- count 3 of named aa and not at 5,-7 in coalition 2,1 on 100 at 0 -/
def text1 : Bs := [99, 111, 117, 110, 116, 32, 51, 32, 111, 102, 32, 110, 97, 109, 101, 100, 32, 97, 97, 32, 97, 110, 100, 32, 110, 111, 116, 32, 97, 116, 32, 53, 44, 45, 55, 32, 105, 110, 32, 99, 111, 97, 108, 105, 116, 105, 111, 110, 32, 50, 44, 49, 32, 111, 110, 32, 49, 48, 48, 32, 97, 116, 32, 48]
/-- count 3 of aa -/
def text2 : Bs := [99, 111, 117, 110, 116, 32, 51, 32, 111, 102, 32, 97, 97]
theorem read1 : parse text1 = (⟨3, kidsR 4 [.mk 1 [97, 97] 0 0 0 0 0 0 [], kidsR 6 [.mk 2 [] 5 (-7) 0 0 0 0 []]], 1, [2, 1], 100, 0⟩, 0, 0) := by
  rw [parse_eq text1 100 (by decide) (by decide)]
  kernel_rfl
theorem read2 : parse text2 = (Qry.none, 11, 2) := by
  rw [parse_eq text2 100 (by decide) (by decide)]
  kernel_rfl
end Qy
namespace Qy
open Go

def coordsT (x y : Int) : Bs := Lib.itoa x ++ (44 :: Lib.itoa y)
/-- Texts with something between them. -/
def join (w : Bs) : List Bs → Bs
  | [] => []
  | t :: l => t ++ l.flatMap fun u => w ++ u
theorem join_snoc (w : Bs) (l : List Bs) (t : Bs) : join w (l ++ [t]) = if l = [] then t else join w l ++ (w ++ t) := by
  cases l with
  | nil => simp [join]
  | cons x l => simp [join]
mutual
/-- The text of a region; as an item. -/
def text : Reg → Bool → Bs
  | .mk k nm ax ay b0 b1 b2 b3 kids, item =>
    if k = 0 then [119, 104, 111, 108, 101]
    else if k = 1 then [110, 97, 109, 101, 100, 32] ++ nm
    else if k = 2 then [97, 116, 32] ++ coordsT ax ay
    else if k = 3 then [119, 105, 116, 104, 105, 110, 32] ++ (coordsT b0 b1 ++ ([32, 116, 111, 32] ++ coordsT b2 b3))
    else if k = 6 then [110, 111, 116, 32] ++ (texts kids true).headD []
    else if 1 < kids.length then (if item = true then 40 :: (join (if k = 4 then [32, 97, 110, 100, 32] else [32, 111, 114, 32]) (texts kids true) ++ [41]) else join (if k = 4 then [32, 97, 110, 100, 32] else [32, 111, 114, 32]) (texts kids true))
    else (if k = 4 then [97, 108, 108, 40] else [97, 110, 121, 40]) ++ ((texts kids false).headD [] ++ [41])
def texts : List Reg → Bool → List Bs
  | [], _ => []
  | r :: l, b => text r b :: texts l b
end
theorem texts_len (l : List Reg) (b : Bool) : (texts l b).length = l.length := by
  induction l with
  | nil => rfl
  | cons r l ih => rw [texts, List.length_cons, List.length_cons, ih]
theorem texts_append (l m : List Reg) (b : Bool) : texts (l ++ m) b = texts l b ++ texts m b := by
  induction l with
  | nil => rw [texts]; rfl
  | cons r l ih => rw [List.cons_append, texts, texts, ih]; rfl
theorem decDigits_len : ∀ (k u : Nat), u < 10 ^ (k + 1) → (Lib.decDigits u).length ≤ k + 1 := by
  intro k
  induction k with
  | zero =>
    intro u h
    rw [Lib.decDigits, dif_pos (by omega)]
    simp
  | succ k ih =>
    intro u h
    rw [Lib.decDigits]
    split
    · simp
    · have := ih (u / 10) (by rw [Nat.pow_succ] at h; omega)
      simp only [List.length_append, List.length_cons, List.length_nil]
      omega
theorem itoa_len (n : Int) (h : -1073741824 ≤ n) (h2 : n ≤ 1073741824) : (Lib.itoa n).length ≤ 11 := by
  unfold Lib.itoa
  split
  · have := decDigits_len 9 n.natAbs (by omega)
    simp only [List.length_cons]
    omega
  · have := decDigits_len 9 n.toNat (by omega)
    omega
theorem itoa_len64 (n : Int) (h : -9223372036854775808 ≤ n) (h2 : n ≤ 9223372036854775807) : (Lib.itoa n).length ≤ 20 := by
  unfold Lib.itoa
  split
  · have := decDigits_len 18 n.natAbs (by omega)
    simp only [List.length_cons]
    omega
  · have := decDigits_len 18 n.toNat (by omega)
    omega
theorem coords_len {x y : Int} (h : ptOK x y = true) : (coordsT x y).length ≤ 23 := by
  unfold ptOK at h
  simp only [Bool.and_eq_true, decide_eq_true_eq] at h
  have h1 := itoa_len x (by omega) (by omega)
  have h2 := itoa_len y (by omega) (by omega)
  unfold coordsT
  simp only [List.length_append, List.length_cons]
  omega
theorem join_len (w : Bs) (hw : w.length ≤ 5) : ∀ (l : List Bs) (n : Nat), (l.map fun t => t.length + 5).sum ≤ n → (join w l).length ≤ n := by
  intro l n h
  cases l with
  | nil => simp [join]
  | cons t l =>
    rw [join, List.length_append]
    simp only [List.map_cons, List.sum_cons] at h
    suffices (l.flatMap fun u => w ++ u).length ≤ (l.map fun t => t.length + 5).sum by omega
    clear h
    induction l with
    | nil => simp
    | cons u l ih =>
      simp only [List.flatMap_cons, List.length_append, List.map_cons, List.sum_cons]
      omega
mutual
theorem text_len : ∀ (R : Reg) (b : Bool), nodeE R = 0 → (text R b).length + 5 ≤ 65 * nodes R
  | .mk k nm ax ay b0 b1 b2 b3 kids, b, h => by
    rw [nodeE] at h
    split at h
    · cases h
    rename_i h1
    split at h
    · cases h
    split at h
    · cases h
    rename_i h3
    split at h
    · cases h
    rename_i h4
    have hk := texts_len1 kids (nodesE_of h)
    have hp : ptOK ax ay = true := by
      cases e : ptOK ax ay
      · exact absurd (.inl e) h4
      · rfl
    have hq : boxOK b0 b1 b2 b3 = true := by
      cases e : boxOK b0 b1 b2 b3
      · exact absurd (.inr e) h4
      · rfl
    have c1 := coords_len hp
    unfold boxOK at hq
    simp only [Bool.and_eq_true] at hq
    have c2 := coords_len hq.1.1.1
    have c3 := coords_len hq.1.1.2
    rw [nodes, text]
    split
    · simp only [List.length_cons, List.length_nil]; omega
    split
    · rename_i e
      have hn : nameOK nm = true := by
        cases e2 : nameOK nm
        · exact absurd ⟨e, e2⟩ h3
        · rfl
      unfold nameOK at hn
      simp only [Bool.and_eq_true, decide_eq_true_eq] at hn
      simp only [List.length_append, List.length_cons, List.length_nil]
      omega
    split
    · simp only [List.length_append, List.length_cons, List.length_nil]; omega
    split
    · simp only [List.length_append, List.length_cons, List.length_nil]; omega
    have hd : ∀ b', ((texts kids b').headD []).length ≤ 65 * nodesL kids := fun b' => by
      have := hk b'
      cases hx : texts kids b' with
      | nil => simp
      | cons t l =>
        rw [hx] at this
        simp only [List.map_cons, List.sum_cons] at this
        simp only [List.headD_cons]
        omega
    split
    · have := hd true
      simp only [List.length_append, List.length_cons, List.length_nil]
      omega
    split
    · have hj := join_len (if k = 4 then [32, 97, 110, 100, 32] else [32, 111, 114, 32]) (by split <;> simp) (texts kids true) _ (hk true)
      split
      · simp only [List.length_append, List.length_cons, List.length_nil]
        omega
      · omega
    · have := hd false
      have : (if k = 4 then [97, 108, 108, 40] else [97, 110, 121, 40] : Bs).length = 4 := by split <;> rfl
      simp only [List.length_append, List.length_cons, List.length_nil]
      omega
theorem texts_len1 : ∀ (l : List Reg), (∀ r ∈ l, nodeE r = 0) → ∀ b : Bool, ((texts l b).map fun t => t.length + 5).sum ≤ 65 * nodesL l
  | [], _, b => by rw [texts]; simp
  | r :: l, h, b => by
    have h1 := text_len r b (h r (by simp))
    have h2 := texts_len1 l (fun x hx => h x (List.mem_cons_of_mem _ hx)) b
    rw [texts, nodesL]
    simp only [List.map_cons, List.sum_cons]
    omega
end
/-- Which views are valid. -/
def viewOK (k : Int) (l : List Int) : Bool := (decide (k = 0 ∧ l.length = 1) || decide (k = 1 ∧ 1 ≤ l.length ∧ l.length ≤ 8) || decide (k = 2 ∧ l.length = 0)) && decide ((∀ n ∈ l, 0 ≤ n ∧ n ≤ 63) ∧ l.Nodup)
/-- The error of a query. -/
def validE (q : Qry) : Int :=
  if q.kind < 0 ∨ 255 < q.kind ∨ q.day < 0 ∨ 73048 < q.day ∨ q.scale < 0 ∨ 23 < q.scale then 5 else if viewOK q.vkind q.offs = false then 1 else regE q.reg
def vtext (k : Int) : Bs := if k = 0 then [111, 102, 102, 105, 99, 101, 32] else if k = 1 then [99, 111, 97, 108, 105, 116, 105, 111, 110, 32] else [99, 111, 110, 116, 114, 111, 108]
/-- The text of a query. -/
def printT (q : Qry) : Bs := [99, 111, 117, 110, 116, 32] ++ (Lib.itoa q.kind ++ ([32, 111, 102, 32] ++ (text q.reg false ++ ([32, 105, 110, 32] ++ (vtext q.vkind ++ (join [44] (q.offs.map Lib.itoa) ++ ([32, 111, 110, 32] ++ (Lib.itoa q.day ++ ([32, 97, 116, 32] ++ Lib.itoa q.scale)))))))))
/-- What Print gives. -/
def printQ (q : Qry) : Bs × Int := if validE q ≠ 0 then ([], validE q) else if 4096 < (printT q).length then ([], 4) else (printT q, 0)
theorem printQ_len (q : Qry) : (printQ q).1.length ≤ 4096 := by
  unfold printQ
  split
  · simp
  split
  · simp
  · simp only; omega
end Qy
namespace Qy

theorem pOff_view : ∀ (f : Nat) (acc : List Int) (l : List Tok) (o : List Int) (l' : List Tok), acc.length ≤ 8 → (∀ n ∈ acc, 0 ≤ n ∧ n ≤ 63) → acc.Nodup → Good l → pOff f acc l = .ok o l' →
    (1 ≤ o.length ∧ o.length ≤ 8) ∧ (∀ n ∈ o, 0 ≤ n ∧ n ≤ 63) ∧ o.Nodup := by
  intro f
  induction f with
  | zero => intro acc l o l' _ _ _ _ h; cases h
  | succ f ih =>
    intro acc l o l' h8 hr hd hg h
    rw [pOff] at h
    obtain ⟨n, l1, h1, h⟩ := Res.on_ok h
    obtain ⟨g1, n0, n1⟩ := pNum_ok hg h1
    split at h
    · cases h
    rename_i hn
    split at h
    · cases h
    rename_i h9
    have k1 : (acc ++ [n]).length ≤ 8 := by simp; omega
    have k2 : ∀ x ∈ acc ++ [n], 0 ≤ x ∧ x ≤ 63 := fun x hx => by
      rcases List.mem_append.1 hx with hx | hx
      · exact hr x hx
      · rw [List.mem_singleton.1 hx]; exact ⟨n0, n1⟩
    have k3 : (acc ++ [n]).Nodup := by
      rw [List.nodup_append]
      refine ⟨hd, by simp, fun a ha b hb e => ?_⟩
      rw [List.mem_singleton.1 hb] at e
      exact hn (e ▸ ha)
    split at h
    · exact ih _ _ _ _ k1 k2 k3 g1.1.stp h
    · injection h with h _
      rw [← h]
      exact ⟨⟨by simp, k1⟩, k2, k3⟩
theorem pView_view {f : Nat} {v : Int × List Int} {l l' : List Tok} (hg : Good l) (h : pView f l = .ok v l') : viewOK v.1 v.2 = true ∧ v.2.length ≤ 8 := by
  unfold pView at h
  split at h
  · injection h with h _
    rw [← h]
    decide
  split at h
  · obtain ⟨n, l1, h1, h⟩ := Res.on_ok h
    obtain ⟨_, n0, n1⟩ := pNum_ok hg.stp h1
    injection h with h _
    rw [← h]
    unfold viewOK
    simp
    omega
  · obtain ⟨n, l1, h1, h⟩ := Res.on_ok h
    obtain ⟨o, l2, h2, h⟩ := Res.on_ok h
    have g1 := need_ok hg (by simp) h1
    obtain ⟨k1, k2, k3⟩ := pOff_view _ _ _ _ _ (by simp) (by simp) (by simp) g1.1 h2
    injection h with h _
    rw [← h]
    unfold viewOK
    simp only [Bool.and_eq_true, Bool.or_eq_true, decide_eq_true_eq]
    exact ⟨⟨.inl (.inr ⟨trivial, k1⟩), k2, k3⟩, k1.2⟩
/-- A query that is parsed has its parts in their ranges. -/
theorem query_parts {f : Nat} {l l' : List Tok} {q : Qry} (hg : Good l) (h : pQuery f l = .ok q l') :
    (0 ≤ q.kind ∧ q.kind ≤ 255) ∧ (0 ≤ q.day ∧ q.day ≤ 73048) ∧ (0 ≤ q.scale ∧ q.scale ≤ 23) ∧ viewOK q.vkind q.offs = true ∧ q.offs.length ≤ 8 ∧ nodeE q.reg = 0 ∧ nodes q.reg ≤ l.length := by
  unfold pQuery at h
  obtain ⟨a, l1, h1, h⟩ := Res.on_ok h
  have g1 := need_ok hg (by simp) h1
  obtain ⟨k, l2, h2, h⟩ := Res.on_ok h
  obtain ⟨n2, r2⟩ := pNum_ok g1.1 h2
  have g2 := g1.trans n2.le
  obtain ⟨b, l3, h3, h⟩ := Res.on_ok h
  have g3 := g2.trans (need_ok g2.1 (by simp) h3).le
  obtain ⟨r, l4, h4, h⟩ := Res.on_ok h
  obtain ⟨f1, f2⟩ := (fines f).reg _ _ _ g3.1 h4
  have g4 := g3.trans ((eats f).reg _ _ _ g3.1 h4).le
  obtain ⟨c, l5, h5, h⟩ := Res.on_ok h
  have g5 := g4.trans (need_ok g4.1 (by simp) h5).le
  obtain ⟨v, l6, h6, h⟩ := Res.on_ok h
  obtain ⟨v1, v2⟩ := pView_view g5.1 h6
  have g6 := g5.trans (pView_ok g5.1 h6).le
  obtain ⟨d, l7, h7, h⟩ := Res.on_ok h
  have g7 := g6.trans (need_ok g6.1 (by simp) h7).le
  obtain ⟨e, l8, h8, h⟩ := Res.on_ok h
  obtain ⟨n8, r8⟩ := pNum_ok g7.1 h8
  have g8 := g7.trans n8.le
  obtain ⟨x, l9, h9, h⟩ := Res.on_ok h
  have g9 := g8.trans (need_ok g8.1 (by simp) h9).le
  obtain ⟨s, l10, h10, h⟩ := Res.on_ok h
  obtain ⟨n10, r10⟩ := pNum_ok g9.1 h10
  obtain ⟨y, l11, h11, h⟩ := Res.on_ok h
  injection h with h _
  rw [← h]
  exact ⟨r2, r8, r10, v1, v2, f1, by have := g3.2; show nodes r ≤ _; omega⟩
/-- What Parse gives is valid, or the zero query. -/
theorem parse_valid (s : Bs) : ((parse s).2.2 = 0 → validE (parse s).1 = 0) ∧ nodes (parse s).1.reg ≤ 4097 ∧ (parse s).1.offs.length ≤ 8 ∧ ((parse s).2.2 ≠ 0 → (parse s).1 = Qry.none) := by
  have hz : nodes Qry.none.reg ≤ 4097 := by
    show nodes (kidsR 0 []) ≤ 4097
    rw [nodes_kidsR, nodesL]
    omega
  unfold parse
  by_cases hl : 4096 < s.length
  · rw [if_pos hl]
    exact ⟨fun h => absurd h (by simp), hz, by show ([] : List Int).length ≤ 8; simp, fun _ => rfl⟩
  rw [if_neg hl]
  have hg := (toks_good s.length s 0 (Nat.le_refl _)).1
  have ht := toks_le s.length s 0 (Nat.le_refl _)
  cases hq : pQuery FU (toks s 0) with
  | ok q l =>
    simp only
    obtain ⟨k1, k2, k3, k4, k5, k6, k7⟩ := query_parts hg hq
    by_cases hn : 256 < nodes q.reg ∨ 16 < nest q.reg
    · rw [if_pos hn]
      exact ⟨fun h => absurd h (by simp), hz, by show ([] : List Int).length ≤ 8; simp, fun _ => rfl⟩
    · rw [if_neg hn]
      refine ⟨fun _ => ?_, by show nodes q.reg ≤ 4097; omega, k5, fun h => absurd h (by simp)⟩
      show validE q = 0
      unfold validE regE
      rw [if_neg (by omega), if_neg (by rw [k4]; simp), if_neg hn, k6]
  | bad x e =>
    simp only
    refine ⟨fun h => ?_, hz, by show ([] : List Int).length ≤ 8; simp, fun _ => trivial⟩
    have := query_nz hg (by unfold FU; omega) hq
    exact absurd h this
end Qy
namespace Go.Proofs.YtmlpibdincfgbaaDoor
open Go.RowKit
set_option linter.unusedSimpArgs false
set_option linter.unusedVariables false

theorem below_put {a w w' : World} {g : Nat} (h : Below a.heap.size a w) (k : At1 g w w') (hg : a.heap.size ≤ g) : Below a.heap.size a w' := Below.grown h k h.size fun j hj => by cases hj; exact hg
/-- The worlds of a round: blocks older than w stay; the box g1, the result's g2, the region's own g3. -/
structure JG (T1 T2 : TypeId) (g1 g2 g3 : Nat) (c1 c2 c3 : List Value) (N : Nat → Prop) (w wi : World) (v : Value) (acc : List Qy.Reg) (D : Nat → Prop) (wz : World) : Prop where
  bl : Below w.heap.size w wz
  sz : wi.heap.size ≤ wz.heap.size
  o1 : Own wz g1 T1 c1
  o2 : Own wz g2 T2 c2
  o3 : Own wz g3 T2 c3
  row : ¬ D 9 → KRow T2 N wz v acc
section
variable {T1 T2 : TypeId} {g1 g2 g3 : Nat} {c1 c2 c3 : List Value} {N : Nat → Prop} {w wi : World} {v : Value} {acc : List Qy.Reg} {D : Nat → Prop} {wz wy : World} {i : Nat}
theorem JG.on (h : JG T1 T2 g1 g2 g3 c1 c2 c3 N w wi v acc D wz) (k : Below wz.heap.size wz wy) (_ : i ≠ 9) : JG T1 T2 g1 g2 g3 c1 c2 c3 N w wi v acc (fun k => D k ∨ k = i) wy :=
  ⟨Below.call h.bl k, Nat.le_trans h.sz k.size, h.o1.on k, h.o2.on k, h.o3.on k, fun hn => (h.row fun hd => hn (.inl hd)).on k⟩
theorem JG.pure (h : JG T1 T2 g1 g2 g3 c1 c2 c3 N w wi v acc D wz) (h9 : i ≠ 9) : JG T1 T2 g1 g2 g3 c1 c2 c3 N w wi v acc (fun k => D k ∨ k = i) wz := h.on (Below.refl _ _) h9
theorem JG.push (h : JG T1 T2 g1 g2 g3 c1 c2 c3 N w wi v acc D wz) (k : wz.grownBy wy v.ownBlock) (hv : ∀ g, v.ownBlock = some g → w.heap.size ≤ g ∧ g ≠ g1 ∧ g ≠ g2 ∧ g ≠ g3) :
    JG T1 T2 g1 g2 g3 c1 c2 c3 N w wi v acc (fun k => D k ∨ k = 9) wy :=
  ⟨Below.grown h.bl k h.bl.size fun g hg => (hv g hg).1, Nat.le_trans h.sz k.size, h.o1.grown k (fun e => (hv _ e.symm).2.1 rfl), h.o2.grown k (fun e => (hv _ e.symm).2.2.1 rfl), h.o3.grown k (fun e => (hv _ e.symm).2.2.2 rfl), fun hn => absurd (.inr rfl) hn⟩
end
def sReg5T (T : TypeId) (N : Nat → Prop) (acc : List Qy.Reg) (RI : Qy.Res Qy.Reg) : SpecE := sE fun v w => ∃ x : Value, v = x ∧ ∃ R l3 A c, x = .slice A (acc.length + 1) c ∧ RI = .ok R l3 ∧ KRow T N w x (acc ++ [R])
theorem UpD11 {a0 a1 a2 a3 a4 a5 a6 b0 : Value} {s3 s4 s5 : SpecE} {D : Nat → Prop} {w w' : World} (u3 : D 7 → ∀ x, s3.p x w → s3.p x w') (u4 : D 8 → ∀ x, s4.p x w → s4.p x w') (u5 : D 9 → ∀ x, s5.p x w → s5.p x w') :
    UpD [Spec.eq a0, Spec.eq a1, Spec.eq a2, Spec.eq a3, Spec.eq a4, Spec.eq a5, Spec.eq a6, s3, s4, s5, Spec.eq b0] D w w' := by
  intro k s hD hs
  match k, hD, hs with
  | 0, _, hs => cases hs; exact fun _ h => h
  | 1, _, hs => cases hs; exact fun _ h => h
  | 2, _, hs => cases hs; exact fun _ h => h
  | 3, _, hs => cases hs; exact fun _ h => h
  | 4, _, hs => cases hs; exact fun _ h => h
  | 5, _, hs => cases hs; exact fun _ h => h
  | 6, _, hs => cases hs; exact fun _ h => h
  | 7, hD, hs => cases hs; exact u3 hD
  | 8, hD, hs => cases hs; exact u4 hD
  | 9, hD, hs => cases hs; exact u5 hD
  | 10, _, hs => cases hs; exact fun _ h => h
  | k + 11, _, hs => cases hs
def z9 : List Value := [.int .i64 0, .string ⟨#[]⟩, .int .i64 0, .int .i64 0, .int .i64 0, .int .i64 0, .int .i64 0, .int .i64 0, .slice none 0 0]
set_option maxRecDepth 100000 in
set_option maxHeartbeats 3200000 in
theorem plainRegion_any : ∀ (n : Nat) (R : Qy.Reg), Qy.nodes R ≤ n → n ≤ 1000000 → ∀ (v : Value) (w : World), IsReg w R v →
    Calls Tryd.prog 22 #[v] w fun e w' => ∃ v', e = .returned v' ∧ Below w.heap.size w w' ∧ regV w R v' w' := by
  intro n
  induction n with
  | zero => intro R h; have := Qy.nodes_pos R; omega
  | succ n ih =>
    intro R hn hN v w hv
    obtain ⟨cs, rfl, hR⟩ := hv
    obtain ⟨k, nm, ax, ay, b0, b1, b2, b3, kids⟩ := R
    rw [RegAt] at hR
    obtain ⟨A, c, rfl, hK⟩ := hR
    have HIH : Hid (∀ R ∈ kids, ∀ (v : Value) (w : World), IsReg w R v → Calls Tryd.prog 22 #[v] w fun e w' => ∃ v', e = .returned v' ∧ Below w.heap.size w w' ∧ regV w R v' w') := Lib.hid fun R hR => ih R (by have := Qy.nodes_kid (k := k) (nm := nm) (ax := ax) (ay := ay) (b0 := b0) (b1 := b1) (b2 := b2) (b3 := b3) hR; omega) (by omega)
    have hnn : Qy.nodesL kids ≤ n := by rw [Qy.nodes] at hn; omega
    have hml := Qy.len_nodesL kids
    obtain ⟨m, hm⟩ : ∃ m, kids.length = m := ⟨_, rfl⟩
    have HM := Lib.hid hm
    rw [hm] at hml ⊢
    have hmb : m ≤ 1000000 := by omega
    have HK := Lib.hid hK
    clear hm ih hn hnn hml hN hK
    go_enter Tryd.func22, Tryd.ntmps22
    go_upto_region 1 with fail
    refine wp_new2 fun W0 hA hQ hB => ?_
    obtain ⟨g2, hg2⟩ : ∃ g2, w.heap.size + 1 = g2 := ⟨_, rfl⟩
    rw [hg2] at hQ ⊢
    have hgl := hQ.lt
    obtain ⟨⟨y0, y1, y2, y3, y4, y5, y6, y7, y8⟩, _⟩ := hA.all9
    go_upto_region 2 with fail
    clear y0 y1 y2 y3 y4 y5 y6 y7 y8
    refine wp_new1 fun W1 hG kn => ?_
    obtain ⟨g3, hg3⟩ : ∃ g3, W0.heap.size = g3 := ⟨_, rfl⟩
    rw [hg3] at hG ⊢
    have g13 : w.heap.size < g3 := by omega
    have g23 : g2 < g3 := by omega
    have hg12 : w.heap.size < g2 := by omega
    obtain ⟨N, hN⟩ : ∃ N : Nat → Prop, N = fun g => g3 < g := ⟨_, rfl⟩
    have HN : Hid (∀ g, N g ↔ g3 < g) := Lib.hid fun g => by rw [hN]
    have HS := Lib.hid (And.intro (Below.call hB kn) (And.intro (hA.on kn) (And.intro (hQ.on kn) (And.intro hG (KRow.nil (T := 42) N W1)))))
    clear hB kn hA hQ hG hgl hg2 hg3 hN
    go_wp2_with fail
    go_loopw [4] (fun s4 wr => ∃ (i : Nat) (A3 : Option Addr) (c3 : Nat), i ≤ m ∧ s4 = .int .i64 (i : Int) ∧ Below w.heap.size w wr ∧ Own wr w.heap.size 32 [.int .i64 k, .string (bs nm), .int .i64 ax, .int .i64 ay, .int .i64 b0, .int .i64 b1, .int .i64 b2, .int .i64 b3, .slice A m c] ∧ Own wr g2 42 [.int .i64 0, .string ⟨#[]⟩, .int .i64 0, .int .i64 0, .int .i64 0, .int .i64 0, .int .i64 0, .int .i64 0, .slice none 0 0] ∧ Own wr g3 42 [.int .i64 k, .string (bs nm), .int .i64 ax, .int .i64 ay, .int .i64 b0, .int .i64 b1, .int .i64 b2, .int .i64 b3, .slice A3 i c3] ∧ KRow 42 N wr (.slice A3 i c3) (kids.take i)) (fun s4 _ => m - (intOf s4).toNat)
    case atStart => exact ⟨0, none, 0, by omega, rfl, HS.out.1, HS.out.2.1, HS.out.2.2.1, HS.out.2.2.2.1, by simpa using HS.out.2.2.2.2⟩
    case round =>
      obtain ⟨i, A3, c3, hi, rfl, hB, hA, hQ, hG, hrow⟩ := hrel
      clear HS
      rcases Nat.lt_or_eq_of_le hi with hlt | heq
      · have i0 : (0 : Int) ≤ (i : Int) := by omega
        have i1 : (i : Int) < (m : Int) := by omega
        obtain ⟨Ri, hRi⟩ : ∃ R, kids[i]? = some R := ⟨_, List.getElem?_eq_getElem (by have := HM.out; omega)⟩
        have hKr := KidsAt.keep (S' := fun _ => True) hB.size (fun g hg hl => ⟨trivial, hB.block g hl⟩) A 0 kids HK.out
        obtain ⟨gk, off, n0, s1, n2, n3, n4, n5, n6, n7, A8, l8, c8, rfl, _, hgl, hE, hR⟩ := HK.out.lit hRi
        have HE : Hid (∀ wz, Below w.heap.size w wz → (wz.cell? ⟨gk, off + i * 9, none⟩ = some (.int .i64 n0) ∧ wz.cell? ⟨gk, off + i * 9 + 1, none⟩ = some (.string s1) ∧ wz.cell? ⟨gk, off + i * 9 + 2, none⟩ = some (.int .i64 n2) ∧ wz.cell? ⟨gk, off + i * 9 + 3, none⟩ = some (.int .i64 n3) ∧ wz.cell? ⟨gk, off + i * 9 + 4, none⟩ = some (.int .i64 n4) ∧ wz.cell? ⟨gk, off + i * 9 + 5, none⟩ = some (.int .i64 n5) ∧ wz.cell? ⟨gk, off + i * 9 + 6, none⟩ = some (.int .i64 n6) ∧ wz.cell? ⟨gk, off + i * 9 + 7, none⟩ = some (.int .i64 n7) ∧ wz.cell? ⟨gk, off + i * 9 + 8, none⟩ = some (.slice A8 l8 c8))) := Lib.hid fun wz kz => by
          have e : ∀ o, wz.cell? ⟨gk, o, none⟩ = w.cell? ⟨gk, o, none⟩ := fun o => World.cell?_of_block (a := ⟨gk, o, none⟩) (kz.block gk hgl)
          rw [e, e, e, e, e, e, e, e, e]
          exact hE
        have HREG : Hid (∀ wz, Below w.heap.size w wz → IsReg wz Ri (.agg #[.int .i64 n0, .string s1, .int .i64 n2, .int .i64 n3, .int .i64 n4, .int .i64 n5, .int .i64 n6, .int .i64 n7, .slice A8 l8 c8])) := Lib.hid fun wz kz => (hR.on kz).isReg
        have HC := Lib.hid (HIH.out Ri (List.mem_of_getElem? hRi))
        obtain ⟨acc, hacc⟩ : ∃ acc, kids.take i = acc := ⟨_, rfl⟩
        have hal : acc.length = i := by rw [← hacc, List.length_take]; have := HM.out; omega
        have HT : Hid (kids.take (i + 1) = acc ++ [Ri]) := Lib.hid (by rw [List.take_add_one, hRi, ← hacc]; rfl)
        have HAL := Lib.hid hal
        rw [hacc] at hrow
        rw [show (Value.slice A3 i c3) = .slice A3 acc.length c3 by rw [hal]] at hG hrow
        have hvx := hrow.own
        have c8_ : wr.cell? ⟨w.heap.size, 8, none⟩ = some (.slice (some ⟨gk, off, none⟩) m c) := hA.cell 8
        have hvi : ∀ g, (Value.slice A3 acc.length c3).ownBlock = some g → g < wr.heap.size := fun g e => (hvx g e).2
        have hvn : ∀ g, (Value.slice A3 acc.length c3).ownBlock = some g → w.heap.size ≤ g ∧ g ≠ w.heap.size ∧ g ≠ g2 ∧ g ≠ g3 := fun g e => by have := (HN.out g).1 (hvx g e).1; omega
        have hgr := hG.lt
        have hN5 : ∀ g, New wr g → N g := fun g hg => (HN.out g).2 (Nat.lt_of_lt_of_le hgr hg)
        have hn1 : acc.length + 1 ≤ 1000000 := by omega
        have kd := Below.drew (Below.refl wr.heap.size wr)
        have hJ0 : JG 32 42 w.heap.size g2 g3 [.int .i64 k, .string (bs nm), .int .i64 ax, .int .i64 ay, .int .i64 b0, .int .i64 b1, .int .i64 b2, .int .i64 b3, .slice (some ⟨gk, off, none⟩) m c] [.int .i64 0, .string ⟨#[]⟩, .int .i64 0, .int .i64 0, .int .i64 0, .int .i64 0, .int .i64 0, .int .i64 0, .slice none 0 0] [.int .i64 k, .string (bs nm), .int .i64 ax, .int .i64 ay, .int .i64 b0, .int .i64 b1, .int .i64 b2, .int .i64 b3, .slice A3 acc.length c3] N w wr (.slice A3 acc.length c3) acc (fun _ => False) wr.drew := ⟨Below.call hB kd, Nat.le_refl _, hA.on kd, hQ.on kd, hG.on kd, fun _ => hrow.on kd⟩
        clear hB hA hQ hG hrow hE hR hRi hacc hKr hvx kd hal
        go_upto_region 5 with fail
        clear c8_
        refine wp_region_suffixK (JG 32 42 w.heap.size g2 g3 [.int .i64 k, .string (bs nm), .int .i64 ax, .int .i64 ay, .int .i64 b0, .int .i64 b1, .int .i64 b2, .int .i64 b3, .slice (some ⟨gk, off, none⟩) m c] [.int .i64 0, .string ⟨#[]⟩, .int .i64 0, .int .i64 0, .int .i64 0, .int .i64 0, .int .i64 0, .int .i64 0, .slice none 0 0] [.int .i64 k, .string (bs nm), .int .i64 ax, .int .i64 ay, .int .i64 b0, .int .i64 b1, .int .i64 b2, .int .i64 b3, .slice A3 acc.length c3] N w wr (.slice A3 acc.length c3) acc) 11 [Spec.eq (.pointer (some ⟨g3, 8, none⟩)), Spec.eq (.slice A3 acc.length c3), Spec.eq (.pointer (some ⟨w.heap.size, 8, none⟩)), Spec.eq (.slice (some ⟨gk, off, none⟩) m c), Spec.eq (.int .i64 (i : Int)), Spec.eq (.pointer (some ⟨gk, off + i * 9, none⟩)), Spec.eq (.agg #[.int .i64 n0, .string s1, .int .i64 n2, .int .i64 n3, .int .i64 n4, .int .i64 n5, .int .i64 n6, .int .i64 n7, .slice A8 l8 c8]), sReg3 wr (.ok Ri []), sReg4 wr (.ok Ri []), sReg5T 42 N acc (.ok Ri []), Spec.eq (.pointer (some ⟨g3, 8, none⟩))]
            (by kernel_rfl) (by kernel_rfl) rfl (by kernel_rfl) (by kernel_rfl) hJ0 ?_ ?_
        ·
          refine RegStepsK.cons ?_ ?_
          · intro DD az wz hcl hnd hC hdf hF hD K hK; replace hdf := Lib.hid hdf
            have q3 : az.tmps[3]? = some (.pointer (some ⟨g3, 0, none⟩)) := hF 3 rfl
            clear hF hD
            refine want_none rfl ?_
            go_simp
            exact hK _ _ (hC.pure (by decide)) UpD.refl rfl
          refine RegStepsK.cons ?_ ?_
          · intro DD az wz hcl hnd hC hdf hF hD K hK; replace hdf := Lib.hid hdf
            obtain ⟨_, q21, rfl⟩ := dep hD 0 rfl rfl rfl rfl
            have z8 : wz.cell? ⟨g3, 8, none⟩ = some (.slice A3 acc.length c3) := hC.o3.cell 8
            clear hF hD
            refine want_none rfl ?_
            go_simp
            exact hK _ _ (hC.pure (by decide)) UpD.refl rfl
          refine RegStepsK.cons ?_ ?_
          · intro DD az wz hcl hnd hC hdf hF hD K hK; replace hdf := Lib.hid hdf
            have q1 : az.tmps[1]? = some (.pointer (some ⟨w.heap.size, 0, none⟩)) := hF 1 rfl
            clear hF hD
            refine want_none rfl ?_
            go_simp
            exact hK _ _ (hC.pure (by decide)) UpD.refl rfl
          refine RegStepsK.cons ?_ ?_
          · intro DD az wz hcl hnd hC hdf hF hD K hK; replace hdf := Lib.hid hdf
            obtain ⟨_, q23, rfl⟩ := dep hD 2 rfl rfl rfl rfl
            have z8 : wz.cell? ⟨w.heap.size, 8, none⟩ = some (.slice (some ⟨gk, off, none⟩) m c) := hC.o1.cell 8
            clear hF hD
            refine want_none rfl ?_
            go_simp
            exact hK _ _ (hC.pure (by decide)) UpD.refl rfl
          refine RegStepsK.cons ?_ ?_
          · intro DD az wz hcl hnd hC hdf hF hD K hK; replace hdf := Lib.hid hdf
            have q4 : az.tmps[4]? = some (.int .i64 (i : Int)) := hF 4 rfl
            clear hF hD
            refine want_none rfl ?_
            go_simp
            exact hK _ _ (hC.pure (by decide)) UpD.refl rfl
          refine RegStepsK.cons ?_ ?_
          · intro DD az wz hcl hnd hC hdf hF hD K hK; replace hdf := Lib.hid hdf
            obtain ⟨_, q24, rfl⟩ := dep hD 3 rfl rfl rfl rfl
            obtain ⟨_, q25, rfl⟩ := dep hD 4 rfl rfl rfl rfl
            clear hF hD
            refine want_none rfl ?_
            go_simp
            exact hK _ _ (hC.pure (by decide)) UpD.refl rfl
          refine RegStepsK.cons ?_ ?_
          · intro DD az wz hcl hnd hC hdf hF hD K hK; replace hdf := Lib.hid hdf
            obtain ⟨_, q26, rfl⟩ := dep hD 5 rfl rfl rfl rfl
            obtain ⟨e0, e1, e2, e3, e4, e5, e6, e7, e8⟩ := HE.out wz hC.bl
            clear hF hD
            refine want_none rfl ?_
            go_simp
            exact hK _ _ (hC.pure (by decide)) UpD.refl rfl
          refine RegStepsK.cons ?_ ?_
          · intro DD az wz hcl hnd hC hdf hF hD K hK; replace hdf := Lib.hid hdf
            obtain ⟨_, q27, rfl⟩ := dep hD 6 rfl rfl rfl rfl
            have HJ := Lib.hid hC
            have HND := Lib.hid hnd
            have HCL := Lib.hid hcl
            have hir := HREG.out wz hC.bl
            clear hF hD hC hcl hnd
            refine want_none rfl ?_
            go_simp
            refine (HC.out _ wz hir).mono ?_
            rintro e wy ⟨u, rfl, kb, hu⟩
            clear hir
            obtain ⟨cs, rfl, _⟩ := id hu
            exact hK _ _ (HJ.out.on kb (by decide)) (UpD11 (fun h => absurd h HND.out) (fun h => absurd (HCL.out 8 _ rfl h 7 rfl) HND.out) (fun h => absurd (HCL.out 8 _ rfl (HCL.out 9 _ rfl h 8 rfl) 7 rfl) HND.out)) ⟨cs, rfl, Ri, [], rfl, hu.old HJ.out.sz⟩
          refine RegStepsK.cons ?_ ?_
          · intro DD az wz hcl hnd hC hdf hF hD K hK; replace hdf := Lib.hid hdf
            obtain ⟨_, q28, x28, rfl, hx28⟩ := dep hD 7 rfl rfl rfl rfl
            obtain ⟨R3_, l3, hri, hu⟩ := hx28
            obtain ⟨y0, y1, y2, y3, y4, y5, y6, y7, y8, hcs, one9, hR9, _⟩ := hu.open_
            rw [hcs] at q28
            have kn := below_new wz (.cells #[y0, y1, y2, y3, y4, y5, y6, y7, y8] 42)
            have HP := Lib.hid (hC.on kn (i := 8) (by decide))
            have HKN := Lib.hid kn
            have HCL := Lib.hid hcl
            have HND := Lib.hid hnd
            have HO := Lib.hid (own_news (Own.new wz 42 [y0, y1, y2, y3, y4, y5, y6, y7, y8]))
            have HR9 := Lib.hid (RegAt.keep kn.size (fun g hg hl => ⟨hg, kn.block g hl⟩) _ _ hR9)
            have HSZ := Lib.hid hC.sz
            clear hF hD hC hcl hnd hu hR9 kn hcs
            refine want_none rfl ?_
            go_simp
            exact hK _ _ HP.out (UpD11 (fun _ _ hx => sReg3_on hx HKN.out) (fun h => absurd h HND.out) (fun h => absurd (HCL.out 9 _ rfl h 8 rfl) HND.out)) ⟨wz.heap.size, rfl, HSZ.out, by simp, R3_, l3, y0, y1, y2, y3, y4, y5, y6, y7, y8, hri, one9, HO.out, HR9.out⟩
          refine RegStepsK.cons ?_ ?_
          · intro DD az wz hcl hnd hC hdf hF hD K hK; replace hdf := Lib.hid hdf
            obtain ⟨_, q22, rfl⟩ := dep hD 1 rfl rfl rfl rfl
            obtain ⟨_, q29, x29, rfl, hx29⟩ := dep hD 8 rfl rfl rfl rfl
            obtain ⟨hs1, hs2, R3_, l3, y0, y1, y2, y3, y4, y5, y6, y7, y8, hri, one9, ho9, hR9⟩ := hx29
            clear hF hD
            refine want_none rfl ?_
            obtain ⟨css, p1, p2, p4, p3⟩ := hC.row hnd
            obtain ⟨i0_, hi_, hz0, hz1, hz2⟩ := info_parts reg_infoF
            refine oper_pushO _ _ _ 40 rfl 42 i0_ (.agg #[.int .i64 0, .string ⟨#[]⟩, .int .i64 0, .int .i64 0, .int .i64 0, .int .i64 0, .int .i64 0, .int .i64 0, .slice none 0 0]) 9 96 Tryd.underlying40 hi_ hz0 hz1 hz2 rfl (by decide) 0 _ _ _ (by simp [Act.eval, q22]) p2 ⟨x29, 0, none⟩ 1 [y0, y1, y2, y3, y4, y5, y6, y7, y8] (by simp [Act.eval, q29]) rfl ho9 one9 (by unfold maxLen; omega) (by omega) (Nat.zero_le _) ?_
            intro v' w' hrow3 hgrow hv'
            have hrow4 := KRow.push p1 p4 p3 rfl hR9 hN5 (Nat.le_of_lt (Nat.lt_of_le_of_lt hs1 hs2)) hvi hrow3 hgrow hv'
            obtain ⟨A', c', hA'⟩ := hrow4.slice
            exact hK _ _ (hC.push hgrow hvn) (UpD11 (fun _ _ hx => sReg3_row hx hgrow hvi) (fun _ _ hx => sReg4_row hx hgrow hvi) (fun h => absurd h hnd)) ⟨v', rfl, R3_, l3, A', c', by simpa using hA', hri, hrow4⟩
          refine RegStepsK.cons ?_ ?_
          · intro DD az wz hcl hnd hC hdf hF hD K hK; replace hdf := Lib.hid hdf
            have q3 : az.tmps[3]? = some (.pointer (some ⟨g3, 0, none⟩)) := hF 3 rfl
            clear hF hD
            refine want_none rfl ?_
            go_simp
            exact hK _ _ (hC.pure (by decide)) UpD.refl rfl
          exact RegStepsK.nil
        intro w7 hJ7
        rintro _ rfl _ rfl _ rfl _ rfl _ rfl _ rfl _ rfl _ ⟨y28, rfl, _⟩ _ ⟨y29, rfl, _⟩ _ ⟨y30, rfl, hy30⟩ _ rfl
        simp only [List.take, FinOK, Act.put, List.setIfInBounds_toArray, List.set_cons_zero, List.set_cons_succ]
        simp only [List.drop, TailOK]
        obtain ⟨R7, l7, A7, c7, hv7, hri7, hrow7⟩ := hy30
        subst hv7
        obtain rfl : Ri = R7 := by cases hri7; rfl
        have q8 := hJ7.o3.cell 8
        have q9 := hJ7.o3.frozen 8
        have hk := At1.set_ (r := g3) w7 (p := ⟨g3, 8, none⟩) rfl (.slice A7 (acc.length + 1) c7)
        have hN3 : ¬ N g3 := fun h => Nat.lt_irrefl _ ((HN.out g3).1 h)
        have HS := Lib.hid (And.intro (below_put hJ7.bl hk (Nat.le_of_lt g13)) (And.intro (hJ7.o1.at1 hk (Nat.ne_of_lt g13)) (And.intro (hJ7.o2.at1 hk (Nat.ne_of_lt g23)) (And.intro (hJ7.o3.set_ 8 (.slice A7 (acc.length + 1) c7)) (hrow7.at1 hk hN3)))))
        clear hJ7 hk hrow7 hri7 hJ0
        intro K hK
        refine want_none rfl ?_
        go_simp
        refine hK _ _ ?_
        clear hK K
        go_wp2_with fail
        go_roundw
        case rel =>
          have e1 := HAL.out
          exact ⟨i + 1, A7, c7, by omega, by go_num, HS.out.1, HS.out.2.1, HS.out.2.2.1, by rw [← e1]; exact HS.out.2.2.2.1, by rw [HT.out, ← e1]; exact HS.out.2.2.2.2⟩
        case measure => simp [intOf]; omega
      · have h1 : kids.take i = kids := List.take_of_length_le (by have := HM.out; omega)
        rw [h1] at hrow
        subst heq
        have c8_ : wr.cell? ⟨w.heap.size, 8, none⟩ = some (.slice A i c) := hA.cell 8
        obtain ⟨⟨y0, y1, y2, y3, y4, y5, y6, y7, y8⟩, _⟩ := hG.all9
        obtain ⟨⟨z0, z1, z2, z3, z4, z5, z6, z7, z8⟩, f0, f1, f2, f3, f4, f5, f6, f7, f8⟩ := hQ.all9
        have HF := Lib.hid (And.intro hQ (And.intro hB hrow))
        clear h1 hA hQ hG hB hrow
        go_wp2_with fail
        obtain ⟨hO, hk⟩ := HF.out.1.put9 (x0 := .int .i64 k) (x1 := .string (bs nm)) (x2 := .int .i64 ax) (x3 := .int .i64 ay) (x4 := .int .i64 b0) (x5 := .int .i64 b1) (x6 := .int .i64 b2) (x7 := .int .i64 b3) (x8 := .slice A3 i c3)
        clear y0 y1 y2 y3 y4 y5 y6 y7 y8 z0 z1 z2 z3 z4 z5 z6 z7 z8 f0 f1 f2 f3 f4 f5 f6 f7 f8 c8_
        revert hO hk
        generalize (((((((((wr.setCell _ _).setCell _ _).setCell _ _).setCell _ _).setCell _ _).setCell _ _).setCell _ _).setCell _ _).setCell _ _) = W9
        intro hO hk
        obtain ⟨⟨q0, q1, q2, q3, q4, q5, q6, q7, q8⟩, _⟩ := hO.all9
        refine bodyPost_ret (v := .agg #[.int .i64 k, .string (bs nm), .int .i64 ax, .int .i64 ay, .int .i64 b0, .int .i64 b1, .int .i64 b2, .int .i64 b3, .slice A3 i c3]) (by simp [results, Tryd.results22, go_sem, q0, q1, q2, q3, q4, q5, q6, q7, q8]) rfl ?_
        have hN2 : ¬ N g2 := fun h => by have := (HN.out g2).1 h; omega
        obtain ⟨A', c', hA', hkids⟩ := ((HF.out.2.2.at1 hk hN2).listV (w0 := w) (fun g hg => by have := (HN.out g).1 hg; show w.heap.size ≤ g; omega))
        have hm9 := HM.out
        refine ⟨_, rfl, below_put HF.out.2.1 hk (Nat.le_of_lt hg12), ⟨_, rfl, ?_⟩⟩
        rw [RegAt]
        rw [hm9] at hA'
        cases hA'
        exact ⟨_, _, by rw [hm9], hkids⟩
set_option maxRecDepth 100000 in
set_option maxHeartbeats 3200000 in
theorem ownRegion_any : ∀ (n : Nat) (R : Qy.Reg), Qy.nodes R ≤ n → n ≤ 1000000 → ∀ (v : Value) (w : World), IsReg w R v →
    Calls Tryd.prog 21 #[v] w fun e w' => ∃ v', e = .returned v' ∧ Below w.heap.size w w' ∧ regV w R v' w' := by
  intro n
  induction n with
  | zero => intro R h; have := Qy.nodes_pos R; omega
  | succ n ih =>
    intro R hn hN v w hv
    obtain ⟨cs, rfl, hR⟩ := hv
    obtain ⟨k, nm, ax, ay, b0, b1, b2, b3, kids⟩ := R
    rw [RegAt] at hR
    obtain ⟨A, c, rfl, hK⟩ := hR
    have HIH : Hid (∀ R ∈ kids, ∀ (v : Value) (w : World), IsReg w R v → Calls Tryd.prog 21 #[v] w fun e w' => ∃ v', e = .returned v' ∧ Below w.heap.size w w' ∧ regV w R v' w') := Lib.hid fun R hR => ih R (by have := Qy.nodes_kid (k := k) (nm := nm) (ax := ax) (ay := ay) (b0 := b0) (b1 := b1) (b2 := b2) (b3 := b3) hR; omega) (by omega)
    have hnn : Qy.nodesL kids ≤ n := by rw [Qy.nodes] at hn; omega
    have hml := Qy.len_nodesL kids
    obtain ⟨m, hm⟩ : ∃ m, kids.length = m := ⟨_, rfl⟩
    have HM := Lib.hid hm
    rw [hm] at hml ⊢
    have hmb : m ≤ 1000000 := by omega
    have HK := Lib.hid hK
    clear hm ih hn hnn hml hN hK
    go_enter Tryd.func21, Tryd.ntmps21
    go_upto_region 1 with fail
    refine wp_new2 fun W0 hA hQ hB => ?_
    obtain ⟨g2, hg2⟩ : ∃ g2, w.heap.size + 1 = g2 := ⟨_, rfl⟩
    rw [hg2] at hQ ⊢
    have hgl := hQ.lt
    obtain ⟨⟨y0, y1, y2, y3, y4, y5, y6, y7, y8⟩, _⟩ := hA.all9
    go_upto_region 2 with fail
    clear y0 y1 y2 y3 y4 y5 y6 y7 y8
    refine wp_new1 fun W1 hG kn => ?_
    obtain ⟨g3, hg3⟩ : ∃ g3, W0.heap.size = g3 := ⟨_, rfl⟩
    rw [hg3] at hG ⊢
    have g13 : w.heap.size < g3 := by omega
    have g23 : g2 < g3 := by omega
    have hg12 : w.heap.size < g2 := by omega
    obtain ⟨N, hN⟩ : ∃ N : Nat → Prop, N = fun g => g3 < g := ⟨_, rfl⟩
    have HN : Hid (∀ g, N g ↔ g3 < g) := Lib.hid fun g => by rw [hN]
    have HS := Lib.hid (And.intro (Below.call hB kn) (And.intro (hA.on kn) (And.intro (hQ.on kn) (And.intro hG (KRow.nil (T := 32) N W1)))))
    clear hB kn hA hQ hG hgl hg2 hg3 hN
    go_wp2_with fail
    go_loopw [4] (fun s4 wr => ∃ (i : Nat) (A3 : Option Addr) (c3 : Nat), i ≤ m ∧ s4 = .int .i64 (i : Int) ∧ Below w.heap.size w wr ∧ Own wr w.heap.size 42 [.int .i64 k, .string (bs nm), .int .i64 ax, .int .i64 ay, .int .i64 b0, .int .i64 b1, .int .i64 b2, .int .i64 b3, .slice A m c] ∧ Own wr g2 32 [.int .i64 0, .string ⟨#[]⟩, .int .i64 0, .int .i64 0, .int .i64 0, .int .i64 0, .int .i64 0, .int .i64 0, .slice none 0 0] ∧ Own wr g3 32 [.int .i64 k, .string (bs nm), .int .i64 ax, .int .i64 ay, .int .i64 b0, .int .i64 b1, .int .i64 b2, .int .i64 b3, .slice A3 i c3] ∧ KRow 32 N wr (.slice A3 i c3) (kids.take i)) (fun s4 _ => m - (intOf s4).toNat)
    case atStart => exact ⟨0, none, 0, by omega, rfl, HS.out.1, HS.out.2.1, HS.out.2.2.1, HS.out.2.2.2.1, by simpa using HS.out.2.2.2.2⟩
    case round =>
      obtain ⟨i, A3, c3, hi, rfl, hB, hA, hQ, hG, hrow⟩ := hrel
      clear HS
      rcases Nat.lt_or_eq_of_le hi with hlt | heq
      · have i0 : (0 : Int) ≤ (i : Int) := by omega
        have i1 : (i : Int) < (m : Int) := by omega
        obtain ⟨Ri, hRi⟩ : ∃ R, kids[i]? = some R := ⟨_, List.getElem?_eq_getElem (by have := HM.out; omega)⟩
        have hKr := KidsAt.keep (S' := fun _ => True) hB.size (fun g hg hl => ⟨trivial, hB.block g hl⟩) A 0 kids HK.out
        obtain ⟨gk, off, n0, s1, n2, n3, n4, n5, n6, n7, A8, l8, c8, rfl, _, hgl, hE, hR⟩ := HK.out.lit hRi
        have HE : Hid (∀ wz, Below w.heap.size w wz → (wz.cell? ⟨gk, off + i * 9, none⟩ = some (.int .i64 n0) ∧ wz.cell? ⟨gk, off + i * 9 + 1, none⟩ = some (.string s1) ∧ wz.cell? ⟨gk, off + i * 9 + 2, none⟩ = some (.int .i64 n2) ∧ wz.cell? ⟨gk, off + i * 9 + 3, none⟩ = some (.int .i64 n3) ∧ wz.cell? ⟨gk, off + i * 9 + 4, none⟩ = some (.int .i64 n4) ∧ wz.cell? ⟨gk, off + i * 9 + 5, none⟩ = some (.int .i64 n5) ∧ wz.cell? ⟨gk, off + i * 9 + 6, none⟩ = some (.int .i64 n6) ∧ wz.cell? ⟨gk, off + i * 9 + 7, none⟩ = some (.int .i64 n7) ∧ wz.cell? ⟨gk, off + i * 9 + 8, none⟩ = some (.slice A8 l8 c8))) := Lib.hid fun wz kz => by
          have e : ∀ o, wz.cell? ⟨gk, o, none⟩ = w.cell? ⟨gk, o, none⟩ := fun o => World.cell?_of_block (a := ⟨gk, o, none⟩) (kz.block gk hgl)
          rw [e, e, e, e, e, e, e, e, e]
          exact hE
        have HREG : Hid (∀ wz, Below w.heap.size w wz → IsReg wz Ri (.agg #[.int .i64 n0, .string s1, .int .i64 n2, .int .i64 n3, .int .i64 n4, .int .i64 n5, .int .i64 n6, .int .i64 n7, .slice A8 l8 c8])) := Lib.hid fun wz kz => (hR.on kz).isReg
        have HC := Lib.hid (HIH.out Ri (List.mem_of_getElem? hRi))
        obtain ⟨acc, hacc⟩ : ∃ acc, kids.take i = acc := ⟨_, rfl⟩
        have hal : acc.length = i := by rw [← hacc, List.length_take]; have := HM.out; omega
        have HT : Hid (kids.take (i + 1) = acc ++ [Ri]) := Lib.hid (by rw [List.take_add_one, hRi, ← hacc]; rfl)
        have HAL := Lib.hid hal
        rw [hacc] at hrow
        rw [show (Value.slice A3 i c3) = .slice A3 acc.length c3 by rw [hal]] at hG hrow
        have hvx := hrow.own
        have c8_ : wr.cell? ⟨w.heap.size, 8, none⟩ = some (.slice (some ⟨gk, off, none⟩) m c) := hA.cell 8
        have hvi : ∀ g, (Value.slice A3 acc.length c3).ownBlock = some g → g < wr.heap.size := fun g e => (hvx g e).2
        have hvn : ∀ g, (Value.slice A3 acc.length c3).ownBlock = some g → w.heap.size ≤ g ∧ g ≠ w.heap.size ∧ g ≠ g2 ∧ g ≠ g3 := fun g e => by have := (HN.out g).1 (hvx g e).1; omega
        have hgr := hG.lt
        have hN5 : ∀ g, New wr g → N g := fun g hg => (HN.out g).2 (Nat.lt_of_lt_of_le hgr hg)
        have hn1 : acc.length + 1 ≤ 1000000 := by omega
        have kd := Below.drew (Below.refl wr.heap.size wr)
        have hJ0 : JG 42 32 w.heap.size g2 g3 [.int .i64 k, .string (bs nm), .int .i64 ax, .int .i64 ay, .int .i64 b0, .int .i64 b1, .int .i64 b2, .int .i64 b3, .slice (some ⟨gk, off, none⟩) m c] [.int .i64 0, .string ⟨#[]⟩, .int .i64 0, .int .i64 0, .int .i64 0, .int .i64 0, .int .i64 0, .int .i64 0, .slice none 0 0] [.int .i64 k, .string (bs nm), .int .i64 ax, .int .i64 ay, .int .i64 b0, .int .i64 b1, .int .i64 b2, .int .i64 b3, .slice A3 acc.length c3] N w wr (.slice A3 acc.length c3) acc (fun _ => False) wr.drew := ⟨Below.call hB kd, Nat.le_refl _, hA.on kd, hQ.on kd, hG.on kd, fun _ => hrow.on kd⟩
        clear hB hA hQ hG hrow hE hR hRi hacc hKr hvx kd hal
        go_upto_region 5 with fail
        clear c8_
        refine wp_region_suffixK (JG 42 32 w.heap.size g2 g3 [.int .i64 k, .string (bs nm), .int .i64 ax, .int .i64 ay, .int .i64 b0, .int .i64 b1, .int .i64 b2, .int .i64 b3, .slice (some ⟨gk, off, none⟩) m c] [.int .i64 0, .string ⟨#[]⟩, .int .i64 0, .int .i64 0, .int .i64 0, .int .i64 0, .int .i64 0, .int .i64 0, .slice none 0 0] [.int .i64 k, .string (bs nm), .int .i64 ax, .int .i64 ay, .int .i64 b0, .int .i64 b1, .int .i64 b2, .int .i64 b3, .slice A3 acc.length c3] N w wr (.slice A3 acc.length c3) acc) 11 [Spec.eq (.pointer (some ⟨g3, 8, none⟩)), Spec.eq (.slice A3 acc.length c3), Spec.eq (.pointer (some ⟨w.heap.size, 8, none⟩)), Spec.eq (.slice (some ⟨gk, off, none⟩) m c), Spec.eq (.int .i64 (i : Int)), Spec.eq (.pointer (some ⟨gk, off + i * 9, none⟩)), Spec.eq (.agg #[.int .i64 n0, .string s1, .int .i64 n2, .int .i64 n3, .int .i64 n4, .int .i64 n5, .int .i64 n6, .int .i64 n7, .slice A8 l8 c8]), sReg3 wr (.ok Ri []), sReg4 wr (.ok Ri []), sReg5T 32 N acc (.ok Ri []), Spec.eq (.pointer (some ⟨g3, 8, none⟩))]
            (by kernel_rfl) (by kernel_rfl) rfl (by kernel_rfl) (by kernel_rfl) hJ0 ?_ ?_
        ·
          refine RegStepsK.cons ?_ ?_
          · intro DD az wz hcl hnd hC hdf hF hD K hK; replace hdf := Lib.hid hdf
            have q3 : az.tmps[3]? = some (.pointer (some ⟨g3, 0, none⟩)) := hF 3 rfl
            clear hF hD
            refine want_none rfl ?_
            go_simp
            exact hK _ _ (hC.pure (by decide)) UpD.refl rfl
          refine RegStepsK.cons ?_ ?_
          · intro DD az wz hcl hnd hC hdf hF hD K hK; replace hdf := Lib.hid hdf
            obtain ⟨_, q21, rfl⟩ := dep hD 0 rfl rfl rfl rfl
            have z8 : wz.cell? ⟨g3, 8, none⟩ = some (.slice A3 acc.length c3) := hC.o3.cell 8
            clear hF hD
            refine want_none rfl ?_
            go_simp
            exact hK _ _ (hC.pure (by decide)) UpD.refl rfl
          refine RegStepsK.cons ?_ ?_
          · intro DD az wz hcl hnd hC hdf hF hD K hK; replace hdf := Lib.hid hdf
            have q1 : az.tmps[1]? = some (.pointer (some ⟨w.heap.size, 0, none⟩)) := hF 1 rfl
            clear hF hD
            refine want_none rfl ?_
            go_simp
            exact hK _ _ (hC.pure (by decide)) UpD.refl rfl
          refine RegStepsK.cons ?_ ?_
          · intro DD az wz hcl hnd hC hdf hF hD K hK; replace hdf := Lib.hid hdf
            obtain ⟨_, q23, rfl⟩ := dep hD 2 rfl rfl rfl rfl
            have z8 : wz.cell? ⟨w.heap.size, 8, none⟩ = some (.slice (some ⟨gk, off, none⟩) m c) := hC.o1.cell 8
            clear hF hD
            refine want_none rfl ?_
            go_simp
            exact hK _ _ (hC.pure (by decide)) UpD.refl rfl
          refine RegStepsK.cons ?_ ?_
          · intro DD az wz hcl hnd hC hdf hF hD K hK; replace hdf := Lib.hid hdf
            have q4 : az.tmps[4]? = some (.int .i64 (i : Int)) := hF 4 rfl
            clear hF hD
            refine want_none rfl ?_
            go_simp
            exact hK _ _ (hC.pure (by decide)) UpD.refl rfl
          refine RegStepsK.cons ?_ ?_
          · intro DD az wz hcl hnd hC hdf hF hD K hK; replace hdf := Lib.hid hdf
            obtain ⟨_, q24, rfl⟩ := dep hD 3 rfl rfl rfl rfl
            obtain ⟨_, q25, rfl⟩ := dep hD 4 rfl rfl rfl rfl
            clear hF hD
            refine want_none rfl ?_
            go_simp
            exact hK _ _ (hC.pure (by decide)) UpD.refl rfl
          refine RegStepsK.cons ?_ ?_
          · intro DD az wz hcl hnd hC hdf hF hD K hK; replace hdf := Lib.hid hdf
            obtain ⟨_, q26, rfl⟩ := dep hD 5 rfl rfl rfl rfl
            obtain ⟨e0, e1, e2, e3, e4, e5, e6, e7, e8⟩ := HE.out wz hC.bl
            clear hF hD
            refine want_none rfl ?_
            go_simp
            exact hK _ _ (hC.pure (by decide)) UpD.refl rfl
          refine RegStepsK.cons ?_ ?_
          · intro DD az wz hcl hnd hC hdf hF hD K hK; replace hdf := Lib.hid hdf
            obtain ⟨_, q27, rfl⟩ := dep hD 6 rfl rfl rfl rfl
            have HJ := Lib.hid hC
            have HND := Lib.hid hnd
            have HCL := Lib.hid hcl
            have hir := HREG.out wz hC.bl
            clear hF hD hC hcl hnd
            refine want_none rfl ?_
            go_simp
            refine (HC.out _ wz hir).mono ?_
            rintro e wy ⟨u, rfl, kb, hu⟩
            clear hir
            obtain ⟨cs, rfl, _⟩ := id hu
            exact hK _ _ (HJ.out.on kb (by decide)) (UpD11 (fun h => absurd h HND.out) (fun h => absurd (HCL.out 8 _ rfl h 7 rfl) HND.out) (fun h => absurd (HCL.out 8 _ rfl (HCL.out 9 _ rfl h 8 rfl) 7 rfl) HND.out)) ⟨cs, rfl, Ri, [], rfl, hu.old HJ.out.sz⟩
          refine RegStepsK.cons ?_ ?_
          · intro DD az wz hcl hnd hC hdf hF hD K hK; replace hdf := Lib.hid hdf
            obtain ⟨_, q28, x28, rfl, hx28⟩ := dep hD 7 rfl rfl rfl rfl
            obtain ⟨R3_, l3, hri, hu⟩ := hx28
            obtain ⟨y0, y1, y2, y3, y4, y5, y6, y7, y8, hcs, one9, hR9, _⟩ := hu.open_
            rw [hcs] at q28
            have kn := below_new wz (.cells #[y0, y1, y2, y3, y4, y5, y6, y7, y8] 32)
            have HP := Lib.hid (hC.on kn (i := 8) (by decide))
            have HKN := Lib.hid kn
            have HCL := Lib.hid hcl
            have HND := Lib.hid hnd
            have HO := Lib.hid (own_news (Own.new wz 32 [y0, y1, y2, y3, y4, y5, y6, y7, y8]))
            have HR9 := Lib.hid (RegAt.keep kn.size (fun g hg hl => ⟨hg, kn.block g hl⟩) _ _ hR9)
            have HSZ := Lib.hid hC.sz
            clear hF hD hC hcl hnd hu hR9 kn hcs
            refine want_none rfl ?_
            go_simp
            exact hK _ _ HP.out (UpD11 (fun _ _ hx => sReg3_on hx HKN.out) (fun h => absurd h HND.out) (fun h => absurd (HCL.out 9 _ rfl h 8 rfl) HND.out)) ⟨wz.heap.size, rfl, HSZ.out, by simp, R3_, l3, y0, y1, y2, y3, y4, y5, y6, y7, y8, hri, one9, HO.out, HR9.out⟩
          refine RegStepsK.cons ?_ ?_
          · intro DD az wz hcl hnd hC hdf hF hD K hK; replace hdf := Lib.hid hdf
            obtain ⟨_, q22, rfl⟩ := dep hD 1 rfl rfl rfl rfl
            obtain ⟨_, q29, x29, rfl, hx29⟩ := dep hD 8 rfl rfl rfl rfl
            obtain ⟨hs1, hs2, R3_, l3, y0, y1, y2, y3, y4, y5, y6, y7, y8, hri, one9, ho9, hR9⟩ := hx29
            clear hF hD
            refine want_none rfl ?_
            obtain ⟨css, p1, p2, p4, p3⟩ := hC.row hnd
            obtain ⟨i0_, hi_, hz0, hz1, hz2⟩ := info_parts reg_info
            refine oper_pushO _ _ _ 30 rfl 32 i0_ (.agg #[.int .i64 0, .string ⟨#[]⟩, .int .i64 0, .int .i64 0, .int .i64 0, .int .i64 0, .int .i64 0, .int .i64 0, .slice none 0 0]) 9 96 Tryd.underlying30 hi_ hz0 hz1 hz2 rfl (by decide) 0 _ _ _ (by simp [Act.eval, q22]) p2 ⟨x29, 0, none⟩ 1 [y0, y1, y2, y3, y4, y5, y6, y7, y8] (by simp [Act.eval, q29]) rfl ho9 one9 (by unfold maxLen; omega) (by omega) (Nat.zero_le _) ?_
            intro v' w' hrow3 hgrow hv'
            have hrow4 := KRow.push p1 p4 p3 rfl hR9 hN5 (Nat.le_of_lt (Nat.lt_of_le_of_lt hs1 hs2)) hvi hrow3 hgrow hv'
            obtain ⟨A', c', hA'⟩ := hrow4.slice
            exact hK _ _ (hC.push hgrow hvn) (UpD11 (fun _ _ hx => sReg3_row hx hgrow hvi) (fun _ _ hx => sReg4_row hx hgrow hvi) (fun h => absurd h hnd)) ⟨v', rfl, R3_, l3, A', c', by simpa using hA', hri, hrow4⟩
          refine RegStepsK.cons ?_ ?_
          · intro DD az wz hcl hnd hC hdf hF hD K hK; replace hdf := Lib.hid hdf
            have q3 : az.tmps[3]? = some (.pointer (some ⟨g3, 0, none⟩)) := hF 3 rfl
            clear hF hD
            refine want_none rfl ?_
            go_simp
            exact hK _ _ (hC.pure (by decide)) UpD.refl rfl
          exact RegStepsK.nil
        intro w7 hJ7
        rintro _ rfl _ rfl _ rfl _ rfl _ rfl _ rfl _ rfl _ ⟨y28, rfl, _⟩ _ ⟨y29, rfl, _⟩ _ ⟨y30, rfl, hy30⟩ _ rfl
        simp only [List.take, FinOK, Act.put, List.setIfInBounds_toArray, List.set_cons_zero, List.set_cons_succ]
        simp only [List.drop, TailOK]
        obtain ⟨R7, l7, A7, c7, hv7, hri7, hrow7⟩ := hy30
        subst hv7
        obtain rfl : Ri = R7 := by cases hri7; rfl
        have q8 := hJ7.o3.cell 8
        have q9 := hJ7.o3.frozen 8
        have hk := At1.set_ (r := g3) w7 (p := ⟨g3, 8, none⟩) rfl (.slice A7 (acc.length + 1) c7)
        have hN3 : ¬ N g3 := fun h => Nat.lt_irrefl _ ((HN.out g3).1 h)
        have HS := Lib.hid (And.intro (below_put hJ7.bl hk (Nat.le_of_lt g13)) (And.intro (hJ7.o1.at1 hk (Nat.ne_of_lt g13)) (And.intro (hJ7.o2.at1 hk (Nat.ne_of_lt g23)) (And.intro (hJ7.o3.set_ 8 (.slice A7 (acc.length + 1) c7)) (hrow7.at1 hk hN3)))))
        clear hJ7 hk hrow7 hri7 hJ0
        intro K hK
        refine want_none rfl ?_
        go_simp
        refine hK _ _ ?_
        clear hK K
        go_wp2_with fail
        go_roundw
        case rel =>
          have e1 := HAL.out
          exact ⟨i + 1, A7, c7, by omega, by go_num, HS.out.1, HS.out.2.1, HS.out.2.2.1, by rw [← e1]; exact HS.out.2.2.2.1, by rw [HT.out, ← e1]; exact HS.out.2.2.2.2⟩
        case measure => simp [intOf]; omega
      · have h1 : kids.take i = kids := List.take_of_length_le (by have := HM.out; omega)
        rw [h1] at hrow
        subst heq
        have c8_ : wr.cell? ⟨w.heap.size, 8, none⟩ = some (.slice A i c) := hA.cell 8
        obtain ⟨⟨y0, y1, y2, y3, y4, y5, y6, y7, y8⟩, _⟩ := hG.all9
        obtain ⟨⟨z0, z1, z2, z3, z4, z5, z6, z7, z8⟩, f0, f1, f2, f3, f4, f5, f6, f7, f8⟩ := hQ.all9
        have HF := Lib.hid (And.intro hQ (And.intro hB hrow))
        clear h1 hA hQ hG hB hrow
        go_wp2_with fail
        obtain ⟨hO, hk⟩ := HF.out.1.put9 (x0 := .int .i64 k) (x1 := .string (bs nm)) (x2 := .int .i64 ax) (x3 := .int .i64 ay) (x4 := .int .i64 b0) (x5 := .int .i64 b1) (x6 := .int .i64 b2) (x7 := .int .i64 b3) (x8 := .slice A3 i c3)
        clear y0 y1 y2 y3 y4 y5 y6 y7 y8 z0 z1 z2 z3 z4 z5 z6 z7 z8 f0 f1 f2 f3 f4 f5 f6 f7 f8 c8_
        revert hO hk
        generalize (((((((((wr.setCell _ _).setCell _ _).setCell _ _).setCell _ _).setCell _ _).setCell _ _).setCell _ _).setCell _ _).setCell _ _) = W9
        intro hO hk
        obtain ⟨⟨q0, q1, q2, q3, q4, q5, q6, q7, q8⟩, _⟩ := hO.all9
        refine bodyPost_ret (v := .agg #[.int .i64 k, .string (bs nm), .int .i64 ax, .int .i64 ay, .int .i64 b0, .int .i64 b1, .int .i64 b2, .int .i64 b3, .slice A3 i c3]) (by simp [results, Tryd.results21, go_sem, q0, q1, q2, q3, q4, q5, q6, q7, q8]) rfl ?_
        have hN2 : ¬ N g2 := fun h => by have := (HN.out g2).1 h; omega
        obtain ⟨A', c', hA', hkids⟩ := ((HF.out.2.2.at1 hk hN2).listV (w0 := w) (fun g hg => by have := (HN.out g).1 hg; show w.heap.size ≤ g; omega))
        have hm9 := HM.out
        refine ⟨_, rfl, below_put HF.out.2.1 hk (Nat.le_of_lt hg12), ⟨_, rfl, ?_⟩⟩
        rw [RegAt]
        rw [hm9] at hA'
        cases hA'
        exact ⟨_, _, by rw [hm9], hkids⟩
end Go.Proofs.YtmlpibdincfgbaaDoor
namespace Go.Proofs.YtmlpibdincfgbaaDoor
open Go.RowKit
set_option linter.unusedSimpArgs false
set_option linter.unusedVariables false

theorem regV.on {w0 w w' : World} {R : Qy.Reg} {v : Value} (h : regV w0 R v w) (k : Below w.heap.size w w') : regV w0 R v w' := by
  obtain ⟨cs, e, hR⟩ := h
  exact ⟨cs, e, hR.on k⟩
theorem regV.isReg {w0 w : World} {R : Qy.Reg} {v : Value} (h : regV w0 R v w) : IsReg w R v := by
  obtain ⟨cs, rfl, hR⟩ := h
  exact hR.isReg
theorem IsReg.on {w w' : World} {R : Qy.Reg} {v : Value} (h : IsReg w R v) (k : Below w.heap.size w w') : IsReg w' R v := by
  obtain ⟨cs, e, hR⟩ := h
  exact ⟨cs, e, hR.on k⟩
/-- A slot that holds a region. -/
def sRegB (wi : World) (R : Qy.Reg) : Spec Bel := ⟨fun v w => ∃ x : Value, v = x ∧ regV wi R x w, fun ⟨x, e, h⟩ k => ⟨x, e, h.on k⟩⟩
theorem IntsAt.on {w w' : World} {S : Nat → Prop} {A : Option Addr} {l : List Int} (h : IntsAt w S A l) (k : Below w.heap.size w w') : IntsAt w' S A l := h.keep k.size fun g hg hl => ⟨hg, k.block g hl⟩
/-- A value that is a query. -/
def IsQry (w : World) (q : Qy.Qry) (v : Value) : Prop := ∃ n0 s1 n2 n3 n4 n5 n6 n7 A8 l8 c8 vA vl vc, v = .agg #[.int .i64 q.kind, .int .i64 n0, .string s1, .int .i64 n2, .int .i64 n3, .int .i64 n4, .int .i64 n5, .int .i64 n6, .int .i64 n7, .slice A8 l8 c8, .int .i64 q.vkind, .slice vA vl vc, .int .i64 q.day, .int .i64 q.scale] ∧ vl = q.offs.length ∧
    RegAt w (fun _ => True) [.int .i64 n0, .string s1, .int .i64 n2, .int .i64 n3, .int .i64 n4, .int .i64 n5, .int .i64 n6, .int .i64 n7, .slice A8 l8 c8] q.reg ∧ IntsAt w (fun _ => True) vA q.offs ∧ q.offs.length ≤ vc ∧ vc ≤ maxLen
theorem qryV.isQry {w0 w : World} {q : Qy.Qry} {v : Value} (h : qryV w0 q v w) : IsQry w q v := by
  obtain ⟨n0, s1, n2, n3, n4, n5, n6, n7, A8, l8, c8, vA, vl, vc, e, hvl, hR, hI, h1, h2⟩ := h.lit
  exact ⟨n0, s1, n2, n3, n4, n5, n6, n7, A8, l8, c8, vA, vl, vc, e, hvl, RegAt.keep (Nat.le_refl _) (fun _ _ _ => ⟨trivial, rfl⟩) _ _ hR, hI.keep (Nat.le_refl _) fun _ _ _ => ⟨trivial, rfl⟩, h1, h2⟩
theorem IsQry.on {w w' : World} {q : Qy.Qry} {v : Value} (h : IsQry w q v) (k : Below w.heap.size w w') : IsQry w' q v := by
  obtain ⟨n0, s1, n2, n3, n4, n5, n6, n7, A8, l8, c8, vA, vl, vc, e, hvl, hR, hI, h1, h2⟩ := h
  exact ⟨n0, s1, n2, n3, n4, n5, n6, n7, A8, l8, c8, vA, vl, vc, e, hvl, hR.on k, hI.on k, h1, h2⟩
set_option maxRecDepth 100000 in
set_option maxHeartbeats 3200000 in
theorem plain_any (q : Qy.Qry) (hn : Qy.nodes q.reg ≤ 1000000) (v : Value) (w : World) (hv : IsQry w q v) : Calls Tryd.prog 12 #[v] w fun e w' => ∃ v', e = .returned v' ∧ Below w.heap.size w w' ∧ IsQry w' q v' := by
  obtain ⟨n0, s1, n2, n3, n4, n5, n6, n7, A8, l8, c8, vA, vl, vc, rfl, hvl, hR, hI, hv1, hv2⟩ := hv
  obtain ⟨qk, QR, qv, qo, qd, qs⟩ := q
  simp only at hn hvl hR hI hv1 hv2 ⊢
  have HPL := Lib.hid (plainRegion_any _ QR (Nat.le_refl _) hn)
  have HV := Lib.hid (And.intro hvl (And.intro hv1 hv2))
  have HR := Lib.hid (And.intro hR hI)
  clear hn hvl hv1 hv2 hR hI
  go_enter Tryd.func12, Tryd.ntmps12
  go_upto_region 1 with fail
  refine wp_new2 fun W0 hA hQ hB => ?_
  obtain ⟨g2, hg2⟩ : ∃ g2, w.heap.size + 1 = g2 := ⟨_, rfl⟩
  rw [hg2] at hQ ⊢
  have hg12 : w.heap.size < g2 := by omega
  have HA := Lib.hid hA
  have HQ := Lib.hid (And.intro hQ hB)
  have HRG : Hid (∀ wz, Below W0.heap.size W0 wz → IsReg wz QR (.agg #[.int .i64 n0, .string s1, .int .i64 n2, .int .i64 n3, .int .i64 n4, .int .i64 n5, .int .i64 n6, .int .i64 n7, .slice A8 l8 c8])) := Lib.hid fun wz kz => (HR.out.1.on (Below.call hB kz)).isReg
  clear hA hQ hB hg2
  refine wp_region_suffix (R := Bel) W0 11 [Spec.eq (.pointer (some ⟨w.heap.size, 0, none⟩)), Spec.eq (.int .i64 qk), Spec.eq (.pointer (some ⟨w.heap.size, 1, none⟩)), Spec.eq (.agg #[.int .i64 n0, .string s1, .int .i64 n2, .int .i64 n3, .int .i64 n4, .int .i64 n5, .int .i64 n6, .int .i64 n7, .slice A8 l8 c8]), sRegB W0 QR, Spec.eq (.pointer (some ⟨w.heap.size, 10, none⟩)), Spec.eq (.agg #[.int .i64 qv, .slice vA vl vc]), Spec.eq (.pointer (some ⟨w.heap.size, 12, none⟩)), Spec.eq (.int .i64 qd), Spec.eq (.pointer (some ⟨w.heap.size, 13, none⟩)), Spec.eq (.int .i64 qs)]
      (by kernel_rfl) (by kernel_rfl) rfl (by kernel_rfl) (by kernel_rfl) (Below.drew (Below.refl _ _)) ?_ ?_
  ·
    refine RegSteps.cons ?_ ?_
    · intro _ az wz hC hF hD _ K hK
      have q1 : az.tmps[1]? = some (.pointer (some ⟨w.heap.size, 0, none⟩)) := hF 1 rfl
      clear hF hD
      refine want_none rfl ?_
      go_simp
      exact hK _ _ hC (Below.refl _ _) rfl
    refine RegSteps.cons ?_ ?_
    · intro _ az wz hC hF hD _ K hK
      obtain ⟨_, q3, rfl⟩ := dep hD 0 rfl rfl rfl rfl
      obtain ⟨⟨z0, z1, z2, z3, z4, z5, z6, z7, z8, z9, z10, z11, z12, z13⟩, _⟩ := (HA.out.on hC).all14
      clear hF hD
      refine want_none rfl ?_
      go_simp
      exact hK _ _ hC (Below.refl _ _) rfl
    refine RegSteps.cons ?_ ?_
    · intro _ az wz hC hF hD _ K hK
      have q1 : az.tmps[1]? = some (.pointer (some ⟨w.heap.size, 0, none⟩)) := hF 1 rfl
      clear hF hD
      refine want_none rfl ?_
      go_simp
      exact hK _ _ hC (Below.refl _ _) rfl
    refine RegSteps.cons ?_ ?_
    · intro _ az wz hC hF hD _ K hK
      obtain ⟨_, q5, rfl⟩ := dep hD 2 rfl rfl rfl rfl
      obtain ⟨⟨z0, z1, z2, z3, z4, z5, z6, z7, z8, z9, z10, z11, z12, z13⟩, _⟩ := (HA.out.on hC).all14
      clear hF hD
      refine want_none rfl ?_
      go_simp
      exact hK _ _ hC (Below.refl _ _) rfl
    refine RegSteps.cons ?_ ?_
    · intro _ az wz hC hF hD _ K hK
      obtain ⟨_, q6, rfl⟩ := dep hD 3 rfl rfl rfl rfl
      clear hF hD
      refine want_none rfl ?_
      go_simp
      refine (HPL.out _ _ (HRG.out wz hC)).mono ?_
      rintro e wy ⟨x, rfl, k, hx⟩
      exact hK _ _ (Below.call hC k) k ⟨x, rfl, hx.old hC.size⟩
    refine RegSteps.cons ?_ ?_
    · intro _ az wz hC hF hD _ K hK
      have q1 : az.tmps[1]? = some (.pointer (some ⟨w.heap.size, 0, none⟩)) := hF 1 rfl
      clear hF hD
      refine want_none rfl ?_
      go_simp
      exact hK _ _ hC (Below.refl _ _) rfl
    refine RegSteps.cons ?_ ?_
    · intro _ az wz hC hF hD _ K hK
      obtain ⟨_, q8, rfl⟩ := dep hD 5 rfl rfl rfl rfl
      obtain ⟨⟨z0, z1, z2, z3, z4, z5, z6, z7, z8, z9, z10, z11, z12, z13⟩, _⟩ := (HA.out.on hC).all14
      clear hF hD
      refine want_none rfl ?_
      go_simp
      exact hK _ _ hC (Below.refl _ _) rfl
    refine RegSteps.cons ?_ ?_
    · intro _ az wz hC hF hD _ K hK
      have q1 : az.tmps[1]? = some (.pointer (some ⟨w.heap.size, 0, none⟩)) := hF 1 rfl
      clear hF hD
      refine want_none rfl ?_
      go_simp
      exact hK _ _ hC (Below.refl _ _) rfl
    refine RegSteps.cons ?_ ?_
    · intro _ az wz hC hF hD _ K hK
      obtain ⟨_, q10, rfl⟩ := dep hD 7 rfl rfl rfl rfl
      obtain ⟨⟨z0, z1, z2, z3, z4, z5, z6, z7, z8, z9, z10, z11, z12, z13⟩, _⟩ := (HA.out.on hC).all14
      clear hF hD
      refine want_none rfl ?_
      go_simp
      exact hK _ _ hC (Below.refl _ _) rfl
    refine RegSteps.cons ?_ ?_
    · intro _ az wz hC hF hD _ K hK
      have q1 : az.tmps[1]? = some (.pointer (some ⟨w.heap.size, 0, none⟩)) := hF 1 rfl
      clear hF hD
      refine want_none rfl ?_
      go_simp
      exact hK _ _ hC (Below.refl _ _) rfl
    refine RegSteps.cons ?_ ?_
    · intro _ az wz hC hF hD _ K hK
      obtain ⟨_, q12, rfl⟩ := dep hD 9 rfl rfl rfl rfl
      obtain ⟨⟨z0, z1, z2, z3, z4, z5, z6, z7, z8, z9, z10, z11, z12, z13⟩, _⟩ := (HA.out.on hC).all14
      clear hF hD
      refine want_none rfl ?_
      go_simp
      exact hK _ _ hC (Below.refl _ _) rfl
    exact RegSteps.nil
  intro w7 hC7
  rintro _ rfl _ rfl _ rfl _ rfl _ ⟨y7, rfl, hy7⟩ _ rfl _ rfl _ rfl _ rfl _ rfl _ rfl
  simp only [List.take, FinOK, Act.put, List.setIfInBounds_toArray, List.set_cons_zero, List.set_cons_succ]
  simp only [List.drop, TailOK]
  obtain ⟨m0, t1, m2, m3, m4, m5, m6, m7, B8, k8, d8, hx7, hR7, _⟩ := hy7.lit
  subst hx7
  have HR7 := Lib.hid hR7
  clear hR7 hy7
  have hQ := HQ.out.1.on hC7
  have hB := Below.call HQ.out.2 hC7
  obtain ⟨⟨z0, z1, z2, z3, z4, z5, z6, z7, z8, z9, z10, z11, z12, z13⟩, f0, f1, f2, f3, f4, f5, f6, f7, f8, f9, f10, f11, f12, f13⟩ := hQ.all14
  have HF := Lib.hid (And.intro hQ (And.intro hB (HR.out.2.on hB)))
  clear hQ hB hC7
  intro K hK
  refine want_none rfl ?_
  go_simp
  refine hK _ _ ?_
  clear hK K
  intro K hK
  refine want_none rfl ?_
  go_simp
  refine hK _ _ ?_
  clear hK K
  obtain ⟨hO, hk⟩ := HF.out.1.put14 (x0 := .int .i64 qk) (x1 := .int .i64 m0) (x2 := .string t1) (x3 := .int .i64 m2) (x4 := .int .i64 m3) (x5 := .int .i64 m4) (x6 := .int .i64 m5) (x7 := .int .i64 m6) (x8 := .int .i64 m7) (x9 := .slice B8 k8 d8) (x10 := .int .i64 qv) (x11 := .slice vA vl vc) (x12 := .int .i64 qd) (x13 := .int .i64 qs)
  clear z0 z1 z2 z3 z4 z5 z6 z7 z8 z9 z10 z11 z12 z13 f0 f1 f2 f3 f4 f5 f6 f7 f8 f9 f10 f11 f12 f13
  revert hO hk
  generalize (((((((((((((World.setCell _ _ _).setCell _ _).setCell _ _).setCell _ _).setCell _ _).setCell _ _).setCell _ _).setCell _ _).setCell _ _).setCell _ _).setCell _ _).setCell _ _).setCell _ _).setCell _ _ = W9
  intro hO hk
  obtain ⟨⟨q0, q1, q2, q3, q4, q5, q6, q7, q8, q9, q10, q11, q12, q13⟩, _⟩ := hO.all14
  go_wp2_with fail
  refine bodyPost_ret (v := .agg #[.int .i64 qk, .int .i64 m0, .string t1, .int .i64 m2, .int .i64 m3, .int .i64 m4, .int .i64 m5, .int .i64 m6, .int .i64 m7, .slice B8 k8 d8, .int .i64 qv, .slice vA vl vc, .int .i64 qd, .int .i64 qs]) (by simp [results, Tryd.results12, go_sem, q0, q1, q2, q3, q4, q5, q6, q7, q8, q9, q10, q11, q12, q13]) rfl ?_
  have hB9 := below_put HF.out.2.1 hk (Nat.le_of_lt hg12)
  refine ⟨_, rfl, hB9, m0, t1, m2, m3, m4, m5, m6, m7, B8, k8, d8, vA, vl, vc, rfl, HV.out.1, ?_, ?_, HV.out.2.1, HV.out.2.2⟩
  · exact RegAt.keep hk.size (fun g hg hl => ⟨trivial, hk.heap hl (fun e => by have hg9 : W0.heap.size ≤ g := hg; have := HQ.out.1.lt; omega)⟩) _ _ HR7.out
  · exact HR.out.2.keep hB9.size (fun g hg hl => ⟨trivial, hB9.block g hl⟩)
set_option maxRecDepth 100000 in
set_option maxHeartbeats 1600000 in
theorem SameInts_any {w : World} {S S' : Nat → Prop} {A A' : Option Addr} {c c' : Nat} {l l' : List Int} (h : IntsAt w S A l) (h' : IntsAt w S' A' l') (hl : l.length ≤ 1000000000) (hl' : l'.length ≤ 1000000000) :
    Calls Tryd.prog 38 #[.slice A l.length c, .slice A' l'.length c'] w (RetB w (decide (l = l'))) := by
  obtain ⟨n, hn⟩ : ∃ n, l.length = n := ⟨_, rfl⟩
  obtain ⟨n', hn'⟩ : ∃ n, l'.length = n := ⟨_, rfl⟩
  rw [hn] at hl
  rw [hn'] at hl'
  rw [hn, hn']
  obtain ⟨bb, hbb⟩ : ∃ b, decide (l = l') = b := ⟨_, rfl⟩
  have HBB := Lib.hid hbb
  rw [hbb]
  clear hbb
  by_cases he : n = n'
  · subst he
    have HN := Lib.hid (And.intro hn hn')
    have HH := Lib.hid (And.intro h h')
    have hget : ∀ (S : Nat → Prop) (A : Option Addr) (l : List Int), IntsAt w S A l → 0 < l.length → ∃ g off, A = some ⟨g, off, none⟩ ∧ g < w.heap.size ∧ ∀ (i : Nat) (z : Int), l[i]? = some z → w.cell? ⟨g, off + i, none⟩ = some (.int .i64 z) := fun S A l h h0 => by
      rcases h with h | ⟨g, off, e, _, hg, hc⟩
      · rw [h] at h0; cases h0
      · exact ⟨g, off, e, hg, hc⟩
    have HG := Lib.hid hget
    clear hn hn' h h' hl' hget
    go_enter Tryd.func38, Tryd.ntmps38
    go_wp2_with fail
    go_loopw [5] (fun s wr => ∃ i : Nat, i ≤ n ∧ s = .int .i64 (i : Int) ∧ l.take i = l'.take i ∧ Below w.heap.size w wr) (fun s _ => n - (intOf s).toNat)
    case atStart => exact ⟨0, by omega, rfl, by simp, Below.refl _ _⟩
    case round =>
      obtain ⟨i, hi, rfl, htk, hbw⟩ := hrel
      rcases Nat.lt_or_eq_of_le hi with hlt | heq
      · have i0 : (0 : Int) ≤ (i : Int) := by omega
        have i1 : (i : Int) < (n : Int) := by omega
        obtain ⟨hn, hn'⟩ := HN.out
        obtain ⟨g, off, rfl, hgl, hg⟩ := HG.out _ _ _ HH.out.1 (by omega)
        obtain ⟨g', off', rfl, hgl', hg'⟩ := HG.out _ _ _ HH.out.2 (by omega)
        obtain ⟨a, ha⟩ : ∃ a, l[i]? = some a := ⟨_, List.getElem?_eq_getElem (by omega)⟩
        obtain ⟨b, hb⟩ : ∃ b, l'[i]? = some b := ⟨_, List.getElem?_eq_getElem (by omega)⟩
        have x1 := (World.cell?_of_block (a := ⟨g, off + i, none⟩) (hbw.block g hgl)).trans (hg i a ha)
        have x2 := (World.cell?_of_block (a := ⟨g', off' + i, none⟩) (hbw.block g' hgl')).trans (hg' i b hb)
        have HT := Lib.hid (And.intro (show l.take (i + 1) = l.take i ++ [a] by rw [List.take_add_one, ha]; rfl) (show l'.take (i + 1) = l'.take i ++ [b] by rw [List.take_add_one, hb]; rfl))
        have HI := Lib.hid (And.intro ha hb)
        have HTK := Lib.hid htk
        clear hg hg' ha hb hn hn' htk hgl hgl'
        by_cases hab : a = b
        · subst hab
          go_wp2_with fail
          go_region
          go_wp2_with fail
          go_roundw
          case rel => exact ⟨i + 1, by omega, by go_num, by rw [HT.out.1, HT.out.2, HTK.out], Below.drew hbw⟩
          case measure => simp [intOf]; omega
        · have hd : bb = false := HBB.out.symm.trans (decide_eq_false fun e => by
            subst e
            have := HI.out.1.symm.trans HI.out.2
            injection this with this
            exact hab this)
          subst hd
          go_wp2_with fail
          go_region
          go_wp2
          go_returns
          exact ⟨rfl, Below.drew hbw⟩
      · subst heq
        have hd : bb = true := HBB.out.symm.trans (decide_eq_true (by
          have h1 := HN.out
          rw [List.take_of_length_le (by omega), List.take_of_length_le (by omega)] at htk
          exact htk))
        subst hd
        clear htk
        go_wp2
        go_returns
        exact ⟨rfl, hbw⟩
  · have hd : bb = false := HBB.out.symm.trans (decide_eq_false fun e => he (by rw [← hn, ← hn', e]))
    subst hd
    have hz : ¬ (n : Int) = (n' : Int) := by omega
    clear h h' hn hn'
    go_enter Tryd.func38, Tryd.ntmps38
    go_wp2
    go_returns
    exact ⟨rfl, Below.refl _ _⟩
set_option maxRecDepth 100000 in
set_option maxHeartbeats 6400000 in
theorem Same_any : ∀ (n : Nat) (R R' : Qy.Reg), Qy.nodes R ≤ n → n ≤ 1000000 → Qy.nodes R' ≤ 1000000 → ∀ (v v' : Value) (w : World), IsReg w R v → IsReg w R' v' → Calls Tryd.prog 23 #[v, v'] w (RetB w (Qy.sameR R R')) := by
  intro n
  induction n with
  | zero => intro R R' h; have := Qy.nodes_pos R; omega
  | succ n ih =>
    intro R R' hn hN hn' v v' w hv hv'
    obtain ⟨cs, rfl, hR⟩ := hv
    obtain ⟨cs', rfl, hR'⟩ := hv'
    obtain ⟨k, nm, ax, ay, b0, b1, b2, b3, kids⟩ := R
    obtain ⟨k', nm', ax', ay', d0, d1, d2, d3, kids'⟩ := R'
    rw [RegAt] at hR hR'
    obtain ⟨A, c, rfl, hK⟩ := hR
    obtain ⟨A', c', rfl, hK'⟩ := hR'
    have HIH : Hid (∀ R ∈ kids, ∀ R' ∈ kids', ∀ (v v' : Value) (w : World), IsReg w R v → IsReg w R' v' → Calls Tryd.prog 23 #[v, v'] w (RetB w (Qy.sameR R R'))) := Lib.hid fun R hR R' hR' => ih R R' (by have := Qy.nodes_kid (k := k) (nm := nm) (ax := ax) (ay := ay) (b0 := b0) (b1 := b1) (b2 := b2) (b3 := b3) hR; omega) (by omega) (by have := Qy.nodes_kid (k := k') (nm := nm') (ax := ax') (ay := ay') (b0 := d0) (b1 := d1) (b2 := d2) (b3 := d3) hR'; omega)
    have hml := Qy.len_nodesL kids
    have hml' := Qy.len_nodesL kids'
    rw [Qy.nodes] at hn hn'
    obtain ⟨E, hE⟩ : ∃ E, Qy.sameR (.mk k nm ax ay b0 b1 b2 b3 kids) (.mk k' nm' ax' ay' d0 d1 d2 d3 kids') = E := ⟨_, rfl⟩
    rw [hE]
    rw [Qy.sameR] at hE
    obtain ⟨m, hm⟩ : ∃ m, kids.length = m := ⟨_, rfl⟩
    obtain ⟨m', hm'⟩ : ∃ m, kids'.length = m := ⟨_, rfl⟩
    have HM := Lib.hid (And.intro hm hm')
    rw [hm] at hml
    rw [hm'] at hml'
    rw [hm, hm'] at hE
    rw [hm, hm']
    have HE := Lib.hid hE
    have HK := Lib.hid (And.intro hK hK')
    have hb1 : m ≤ 1000000 := by omega
    have hb2 : m' ≤ 1000000 := by omega
    clear hm hm' ih hn hn' hN hml hml' hE hK hK'
    go_enter Tryd.func23, Tryd.ntmps23
    go_upto_region 1 with fail
    refine wp_new2 fun W0 hA hQ hB => ?_
    obtain ⟨g2, hg2⟩ : ∃ g2, w.heap.size + 1 = g2 := ⟨_, rfl⟩
    rw [hg2] at hQ ⊢
    have HB := Lib.hid hB
    obtain ⟨⟨y0, y1, y2, y3, y4, y5, y6, y7, y8⟩, _⟩ := hA.all9
    obtain ⟨⟨z0, z1, z2, z3, z4, z5, z6, z7, z8⟩, _⟩ := hQ.all9
    have HAQ := Lib.hid (And.intro hA hQ)
    clear hA hQ hB hg2
    by_cases hv : k = k'
    rotate_left
    ·
      have HF : Hid (E = false) := Lib.hid (by rw [← HE.out]; simp [hv])
      go_wp2
      go_returns
      exact ⟨by rw [HF.out]; simp, HB.out⟩
    subst hv
    by_cases hv : nm = nm'
    rotate_left
    ·
      have HF : Hid (E = false) := Lib.hid (by rw [← HE.out]; simp [hv])
      have hs1 : ((bs nm).toList == (bs nm').toList) = false := by rw [bs_toList, bs_toList]; simpa using hv
      go_wp2
      go_returns
      exact ⟨by rw [HF.out]; simp, HB.out⟩
    subst hv
    have hs1 : ((bs nm).toList == (bs nm).toList) = true := by simp
    by_cases hv : ax = ax'
    rotate_left
    ·
      have HF : Hid (E = false) := Lib.hid (by rw [← HE.out]; simp [hv])
      go_wp2
      go_returns
      exact ⟨by rw [HF.out]; simp, HB.out⟩
    subst hv
    by_cases hv : ay = ay'
    rotate_left
    ·
      have HF : Hid (E = false) := Lib.hid (by rw [← HE.out]; simp [hv])
      go_wp2
      go_returns
      exact ⟨by rw [HF.out]; simp, HB.out⟩
    subst hv
    by_cases hv : b0 = d0
    rotate_left
    ·
      have HF : Hid (E = false) := Lib.hid (by rw [← HE.out]; simp [hv])
      go_wp2
      go_returns
      exact ⟨by rw [HF.out]; simp, HB.out⟩
    subst hv
    by_cases hv : b1 = d1
    rotate_left
    ·
      have HF : Hid (E = false) := Lib.hid (by rw [← HE.out]; simp [hv])
      go_wp2
      go_returns
      exact ⟨by rw [HF.out]; simp, HB.out⟩
    subst hv
    by_cases hv : b2 = d2
    rotate_left
    ·
      have HF : Hid (E = false) := Lib.hid (by rw [← HE.out]; simp [hv])
      go_wp2
      go_returns
      exact ⟨by rw [HF.out]; simp, HB.out⟩
    subst hv
    by_cases hv : b3 = d3
    rotate_left
    ·
      have HF : Hid (E = false) := Lib.hid (by rw [← HE.out]; simp [hv])
      go_wp2
      go_returns
      exact ⟨by rw [HF.out]; simp, HB.out⟩
    subst hv
    by_cases hv : m = m'
    rotate_left
    ·
      have HF : Hid (E = false) := Lib.hid (by rw [← HE.out]; simp [hv])
      have hv0 : ¬ (m : Int) = (m' : Int) := by omega
      go_wp2
      go_returns
      exact ⟨by rw [HF.out]; simp, HB.out⟩
    subst hv
    have HF : Hid (Qy.sameL kids kids' = E) := Lib.hid (by rw [← HE.out]; simp)
    go_wp2_with fail
    clear y0 y1 y2 y3 y4 y5 y6 y7 y8 z0 z1 z2 z3 z4 z5 z6 z7 z8
    go_loopw [5] (fun s wr => ∃ i : Nat, i ≤ m ∧ s = .int .i64 (i : Int) ∧ Qy.sameL (kids.drop i) (kids'.drop i) = E ∧ Below w.heap.size w wr ∧ Own wr w.heap.size 42 [.int .i64 k, .string (bs nm), .int .i64 ax, .int .i64 ay, .int .i64 b0, .int .i64 b1, .int .i64 b2, .int .i64 b3, .slice A m c] ∧ Own wr g2 42 [.int .i64 k, .string (bs nm), .int .i64 ax, .int .i64 ay, .int .i64 b0, .int .i64 b1, .int .i64 b2, .int .i64 b3, .slice A' m c']) (fun s _ => m - (intOf s).toNat)
    case atStart => exact ⟨0, Nat.zero_le _, rfl, HF.out, HB.out, HAQ.out.1, HAQ.out.2⟩
    case round =>
      obtain ⟨i, hi, rfl, hdr, hB, hA, hQ⟩ := hrel
      clear HB HAQ
      have HB := Lib.hid hB
      have HA := Lib.hid hA
      have HQ := Lib.hid hQ
      have y8 := hA.cell 8
      have z8 := hQ.cell 8
      clear hA hQ
      rcases Nat.lt_or_eq_of_le hi with hlt | heq
      · have i0 : (0 : Int) ≤ (i : Int) := by omega
        have i1 : (i : Int) < (m : Int) := by omega
        obtain ⟨R1, hR1⟩ : ∃ R, kids[i]? = some R := ⟨_, List.getElem?_eq_getElem (by have := HM.out; omega)⟩
        obtain ⟨R2, hR2⟩ : ∃ R, kids'[i]? = some R := ⟨_, List.getElem?_eq_getElem (by have := HM.out; omega)⟩
        obtain ⟨ag, af, an0, as1, an2, an3, an4, an5, an6, an7, aA8, al8, ac8, rfl, _, agl, aE, aR⟩ := HK.out.1.lit hR1
        obtain ⟨bg, bf, bn0, bs1, bn2, bn3, bn4, bn5, bn6, bn7, bA8, bl8, bc8, rfl, _, bgl, bE, bR⟩ := HK.out.2.lit hR2
        obtain ⟨sb, hsb⟩ : ∃ sb, Qy.sameR R1 R2 = sb := ⟨_, rfl⟩
        have HC := Lib.hid (HIH.out R1 (List.mem_of_getElem? hR1) R2 (List.mem_of_getElem? hR2))
        rw [hsb] at HC
        rw [Qy.sameL_drop hR1 hR2, hsb] at hdr
        have HDr := Lib.hid hdr
        have HEa : Hid (∀ wz, Below w.heap.size w wz → (wz.cell? ⟨ag, af + i * 9, none⟩ = some (.int .i64 an0) ∧ wz.cell? ⟨ag, af + i * 9 + 1, none⟩ = some (.string as1) ∧ wz.cell? ⟨ag, af + i * 9 + 2, none⟩ = some (.int .i64 an2) ∧ wz.cell? ⟨ag, af + i * 9 + 3, none⟩ = some (.int .i64 an3) ∧ wz.cell? ⟨ag, af + i * 9 + 4, none⟩ = some (.int .i64 an4) ∧ wz.cell? ⟨ag, af + i * 9 + 5, none⟩ = some (.int .i64 an5) ∧ wz.cell? ⟨ag, af + i * 9 + 6, none⟩ = some (.int .i64 an6) ∧ wz.cell? ⟨ag, af + i * 9 + 7, none⟩ = some (.int .i64 an7) ∧ wz.cell? ⟨ag, af + i * 9 + 8, none⟩ = some (.slice aA8 al8 ac8))) := Lib.hid fun wz kz => by
          have e : ∀ o, wz.cell? ⟨ag, o, none⟩ = w.cell? ⟨ag, o, none⟩ := fun o => World.cell?_of_block (a := ⟨ag, o, none⟩) (kz.block ag agl)
          rw [e, e, e, e, e, e, e, e, e]
          exact aE
        have HRa : Hid (∀ wz, Below w.heap.size w wz → IsReg wz R1 (.agg #[.int .i64 an0, .string as1, .int .i64 an2, .int .i64 an3, .int .i64 an4, .int .i64 an5, .int .i64 an6, .int .i64 an7, .slice aA8 al8 ac8])) := Lib.hid fun wz kz => (aR.on kz).isReg
        have HEb : Hid (∀ wz, Below w.heap.size w wz → (wz.cell? ⟨bg, bf + i * 9, none⟩ = some (.int .i64 bn0) ∧ wz.cell? ⟨bg, bf + i * 9 + 1, none⟩ = some (.string bs1) ∧ wz.cell? ⟨bg, bf + i * 9 + 2, none⟩ = some (.int .i64 bn2) ∧ wz.cell? ⟨bg, bf + i * 9 + 3, none⟩ = some (.int .i64 bn3) ∧ wz.cell? ⟨bg, bf + i * 9 + 4, none⟩ = some (.int .i64 bn4) ∧ wz.cell? ⟨bg, bf + i * 9 + 5, none⟩ = some (.int .i64 bn5) ∧ wz.cell? ⟨bg, bf + i * 9 + 6, none⟩ = some (.int .i64 bn6) ∧ wz.cell? ⟨bg, bf + i * 9 + 7, none⟩ = some (.int .i64 bn7) ∧ wz.cell? ⟨bg, bf + i * 9 + 8, none⟩ = some (.slice bA8 bl8 bc8))) := Lib.hid fun wz kz => by
          have e : ∀ o, wz.cell? ⟨bg, o, none⟩ = w.cell? ⟨bg, o, none⟩ := fun o => World.cell?_of_block (a := ⟨bg, o, none⟩) (kz.block bg bgl)
          rw [e, e, e, e, e, e, e, e, e]
          exact bE
        have HRb : Hid (∀ wz, Below w.heap.size w wz → IsReg wz R2 (.agg #[.int .i64 bn0, .string bs1, .int .i64 bn2, .int .i64 bn3, .int .i64 bn4, .int .i64 bn5, .int .i64 bn6, .int .i64 bn7, .slice bA8 bl8 bc8])) := Lib.hid fun wz kz => (bR.on kz).isReg
        clear aE aR bE bR agl bgl hR1 hR2 hsb hdr hB
        go_upto_region 6 with fail
        clear y8 z8
        cases sb
        ·
          refine wp_region_specs wr [Spec.eq (.pointer (some ⟨w.heap.size, 8, none⟩)), Spec.eq (.slice (some ⟨ag, af, none⟩) m c), Spec.eq (.int .i64 (i : Int)), Spec.eq (.pointer (some ⟨ag, af + i * 9, none⟩)), Spec.eq (.agg #[.int .i64 an0, .string as1, .int .i64 an2, .int .i64 an3, .int .i64 an4, .int .i64 an5, .int .i64 an6, .int .i64 an7, .slice aA8 al8 ac8]), Spec.eq (.pointer (some ⟨g2, 8, none⟩)), Spec.eq (.slice (some ⟨bg, bf, none⟩) m c'), Spec.eq (.int .i64 (i : Int)), Spec.eq (.pointer (some ⟨bg, bf + i * 9, none⟩)), Spec.eq (.agg #[.int .i64 bn0, .string bs1, .int .i64 bn2, .int .i64 bn3, .int .i64 bn4, .int .i64 bn5, .int .i64 bn6, .int .i64 bn7, .slice bA8 bl8 bc8]), Spec.eq (.bool false), Spec.eq (.bool false)]
              (by kernel_rfl) (by kernel_rfl) rfl (by kernel_rfl) (Below.drew (Below.refl _ _)) ?_ ?_
          ·
            refine RegSteps.cons ?_ ?_
            · intro _ az wz hC hF hD _ K hK
              have q2 : az.tmps[2]? = some (.pointer (some ⟨w.heap.size, 0, none⟩)) := hF 2 rfl
              clear hF hD
              refine want_none rfl ?_
              go_simp
              exact hK _ _ hC (Below.refl _ _) rfl
            refine RegSteps.cons ?_ ?_
            · intro _ az wz hC hF hD _ K hK
              obtain ⟨_, q49, rfl⟩ := dep hD 0 rfl rfl rfl rfl
              have z8 : wz.cell? ⟨w.heap.size, 8, none⟩ = some (.slice (some ⟨ag, af, none⟩) m c) := (HA.out.on hC).cell 8
              clear hF hD
              refine want_none rfl ?_
              go_simp
              exact hK _ _ hC (Below.refl _ _) rfl
            refine RegSteps.cons ?_ ?_
            · intro _ az wz hC hF hD _ K hK
              have q5 : az.tmps[5]? = some (.int .i64 (i : Int)) := hF 5 rfl
              clear hF hD
              refine want_none rfl ?_
              go_simp
              exact hK _ _ hC (Below.refl _ _) rfl
            refine RegSteps.cons ?_ ?_
            · intro _ az wz hC hF hD _ K hK
              obtain ⟨_, q50, rfl⟩ := dep hD 1 rfl rfl rfl rfl
              obtain ⟨_, q51, rfl⟩ := dep hD 2 rfl rfl rfl rfl
              clear hF hD
              refine want_none rfl ?_
              go_simp
              exact hK _ _ hC (Below.refl _ _) rfl
            refine RegSteps.cons ?_ ?_
            · intro _ az wz hC hF hD _ K hK
              obtain ⟨_, q52, rfl⟩ := dep hD 3 rfl rfl rfl rfl
              obtain ⟨e0, e1, e2, e3, e4, e5, e6, e7, e8⟩ := HEa.out wz (Below.call HB.out hC)
              clear hF hD
              refine want_none rfl ?_
              go_simp
              exact hK _ _ hC (Below.refl _ _) rfl
            refine RegSteps.cons ?_ ?_
            · intro _ az wz hC hF hD _ K hK
              have q3 : az.tmps[3]? = some (.pointer (some ⟨g2, 0, none⟩)) := hF 3 rfl
              clear hF hD
              refine want_none rfl ?_
              go_simp
              exact hK _ _ hC (Below.refl _ _) rfl
            refine RegSteps.cons ?_ ?_
            · intro _ az wz hC hF hD _ K hK
              obtain ⟨_, q54, rfl⟩ := dep hD 5 rfl rfl rfl rfl
              have z8 : wz.cell? ⟨g2, 8, none⟩ = some (.slice (some ⟨bg, bf, none⟩) m c') := (HQ.out.on hC).cell 8
              clear hF hD
              refine want_none rfl ?_
              go_simp
              exact hK _ _ hC (Below.refl _ _) rfl
            refine RegSteps.cons ?_ ?_
            · intro _ az wz hC hF hD _ K hK
              have q5 : az.tmps[5]? = some (.int .i64 (i : Int)) := hF 5 rfl
              clear hF hD
              refine want_none rfl ?_
              go_simp
              exact hK _ _ hC (Below.refl _ _) rfl
            refine RegSteps.cons ?_ ?_
            · intro _ az wz hC hF hD _ K hK
              obtain ⟨_, q55, rfl⟩ := dep hD 6 rfl rfl rfl rfl
              obtain ⟨_, q56, rfl⟩ := dep hD 7 rfl rfl rfl rfl
              clear hF hD
              refine want_none rfl ?_
              go_simp
              exact hK _ _ hC (Below.refl _ _) rfl
            refine RegSteps.cons ?_ ?_
            · intro _ az wz hC hF hD _ K hK
              obtain ⟨_, q57, rfl⟩ := dep hD 8 rfl rfl rfl rfl
              obtain ⟨e0, e1, e2, e3, e4, e5, e6, e7, e8⟩ := HEb.out wz (Below.call HB.out hC)
              clear hF hD
              refine want_none rfl ?_
              go_simp
              exact hK _ _ hC (Below.refl _ _) rfl
            refine RegSteps.cons ?_ ?_
            · intro _ az wz hC hF hD _ K hK
              obtain ⟨_, q53, rfl⟩ := dep hD 4 rfl rfl rfl rfl
              obtain ⟨_, q58, rfl⟩ := dep hD 9 rfl rfl rfl rfl
              clear hF hD
              refine want_none rfl ?_
              go_simp
              refine (HC.out _ _ _ (HRa.out wz (Below.call HB.out hC)) (HRb.out wz (Below.call HB.out hC))).mono ?_
              rintro e wy ⟨rfl, k⟩
              exact hK _ _ (Below.call hC k) k rfl
            refine RegSteps.cons ?_ ?_
            · intro _ az wz hC hF hD _ K hK
              obtain ⟨_, q59, rfl⟩ := dep hD 10 rfl rfl rfl rfl
              clear hF hD
              refine want_none rfl ?_
              go_simp
              exact hK _ _ hC (Below.refl _ _) rfl
            exact RegSteps.nil
          intro w7 hC7
          rintro _ rfl _ rfl _ rfl _ rfl _ rfl _ rfl _ rfl _ rfl _ rfl _ rfl _ rfl _ rfl
          simp only [FinOK, Act.put, List.setIfInBounds_toArray, List.set_cons_zero, List.set_cons_succ]
          have HF2 : Hid (E = false) := Lib.hid (by rw [← HDr.out]; rfl)
          have HB2 := Lib.hid (Below.call HB.out hC7)
          clear hC7
          go_wp2
          go_returns
          exact ⟨by rw [HF2.out]; simp, HB2.out⟩
        ·
          refine wp_region_specs wr [Spec.eq (.pointer (some ⟨w.heap.size, 8, none⟩)), Spec.eq (.slice (some ⟨ag, af, none⟩) m c), Spec.eq (.int .i64 (i : Int)), Spec.eq (.pointer (some ⟨ag, af + i * 9, none⟩)), Spec.eq (.agg #[.int .i64 an0, .string as1, .int .i64 an2, .int .i64 an3, .int .i64 an4, .int .i64 an5, .int .i64 an6, .int .i64 an7, .slice aA8 al8 ac8]), Spec.eq (.pointer (some ⟨g2, 8, none⟩)), Spec.eq (.slice (some ⟨bg, bf, none⟩) m c'), Spec.eq (.int .i64 (i : Int)), Spec.eq (.pointer (some ⟨bg, bf + i * 9, none⟩)), Spec.eq (.agg #[.int .i64 bn0, .string bs1, .int .i64 bn2, .int .i64 bn3, .int .i64 bn4, .int .i64 bn5, .int .i64 bn6, .int .i64 bn7, .slice bA8 bl8 bc8]), Spec.eq (.bool true), Spec.eq (.bool true)]
              (by kernel_rfl) (by kernel_rfl) rfl (by kernel_rfl) (Below.drew (Below.refl _ _)) ?_ ?_
          ·
            refine RegSteps.cons ?_ ?_
            · intro _ az wz hC hF hD _ K hK
              have q2 : az.tmps[2]? = some (.pointer (some ⟨w.heap.size, 0, none⟩)) := hF 2 rfl
              clear hF hD
              refine want_none rfl ?_
              go_simp
              exact hK _ _ hC (Below.refl _ _) rfl
            refine RegSteps.cons ?_ ?_
            · intro _ az wz hC hF hD _ K hK
              obtain ⟨_, q49, rfl⟩ := dep hD 0 rfl rfl rfl rfl
              have z8 : wz.cell? ⟨w.heap.size, 8, none⟩ = some (.slice (some ⟨ag, af, none⟩) m c) := (HA.out.on hC).cell 8
              clear hF hD
              refine want_none rfl ?_
              go_simp
              exact hK _ _ hC (Below.refl _ _) rfl
            refine RegSteps.cons ?_ ?_
            · intro _ az wz hC hF hD _ K hK
              have q5 : az.tmps[5]? = some (.int .i64 (i : Int)) := hF 5 rfl
              clear hF hD
              refine want_none rfl ?_
              go_simp
              exact hK _ _ hC (Below.refl _ _) rfl
            refine RegSteps.cons ?_ ?_
            · intro _ az wz hC hF hD _ K hK
              obtain ⟨_, q50, rfl⟩ := dep hD 1 rfl rfl rfl rfl
              obtain ⟨_, q51, rfl⟩ := dep hD 2 rfl rfl rfl rfl
              clear hF hD
              refine want_none rfl ?_
              go_simp
              exact hK _ _ hC (Below.refl _ _) rfl
            refine RegSteps.cons ?_ ?_
            · intro _ az wz hC hF hD _ K hK
              obtain ⟨_, q52, rfl⟩ := dep hD 3 rfl rfl rfl rfl
              obtain ⟨e0, e1, e2, e3, e4, e5, e6, e7, e8⟩ := HEa.out wz (Below.call HB.out hC)
              clear hF hD
              refine want_none rfl ?_
              go_simp
              exact hK _ _ hC (Below.refl _ _) rfl
            refine RegSteps.cons ?_ ?_
            · intro _ az wz hC hF hD _ K hK
              have q3 : az.tmps[3]? = some (.pointer (some ⟨g2, 0, none⟩)) := hF 3 rfl
              clear hF hD
              refine want_none rfl ?_
              go_simp
              exact hK _ _ hC (Below.refl _ _) rfl
            refine RegSteps.cons ?_ ?_
            · intro _ az wz hC hF hD _ K hK
              obtain ⟨_, q54, rfl⟩ := dep hD 5 rfl rfl rfl rfl
              have z8 : wz.cell? ⟨g2, 8, none⟩ = some (.slice (some ⟨bg, bf, none⟩) m c') := (HQ.out.on hC).cell 8
              clear hF hD
              refine want_none rfl ?_
              go_simp
              exact hK _ _ hC (Below.refl _ _) rfl
            refine RegSteps.cons ?_ ?_
            · intro _ az wz hC hF hD _ K hK
              have q5 : az.tmps[5]? = some (.int .i64 (i : Int)) := hF 5 rfl
              clear hF hD
              refine want_none rfl ?_
              go_simp
              exact hK _ _ hC (Below.refl _ _) rfl
            refine RegSteps.cons ?_ ?_
            · intro _ az wz hC hF hD _ K hK
              obtain ⟨_, q55, rfl⟩ := dep hD 6 rfl rfl rfl rfl
              obtain ⟨_, q56, rfl⟩ := dep hD 7 rfl rfl rfl rfl
              clear hF hD
              refine want_none rfl ?_
              go_simp
              exact hK _ _ hC (Below.refl _ _) rfl
            refine RegSteps.cons ?_ ?_
            · intro _ az wz hC hF hD _ K hK
              obtain ⟨_, q57, rfl⟩ := dep hD 8 rfl rfl rfl rfl
              obtain ⟨e0, e1, e2, e3, e4, e5, e6, e7, e8⟩ := HEb.out wz (Below.call HB.out hC)
              clear hF hD
              refine want_none rfl ?_
              go_simp
              exact hK _ _ hC (Below.refl _ _) rfl
            refine RegSteps.cons ?_ ?_
            · intro _ az wz hC hF hD _ K hK
              obtain ⟨_, q53, rfl⟩ := dep hD 4 rfl rfl rfl rfl
              obtain ⟨_, q58, rfl⟩ := dep hD 9 rfl rfl rfl rfl
              clear hF hD
              refine want_none rfl ?_
              go_simp
              refine (HC.out _ _ _ (HRa.out wz (Below.call HB.out hC)) (HRb.out wz (Below.call HB.out hC))).mono ?_
              rintro e wy ⟨rfl, k⟩
              exact hK _ _ (Below.call hC k) k rfl
            refine RegSteps.cons ?_ ?_
            · intro _ az wz hC hF hD _ K hK
              obtain ⟨_, q59, rfl⟩ := dep hD 10 rfl rfl rfl rfl
              clear hF hD
              refine want_none rfl ?_
              go_simp
              exact hK _ _ hC (Below.refl _ _) rfl
            exact RegSteps.nil
          intro w7 hC7
          rintro _ rfl _ rfl _ rfl _ rfl _ rfl _ rfl _ rfl _ rfl _ rfl _ rfl _ rfl _ rfl
          simp only [FinOK, Act.put, List.setIfInBounds_toArray, List.set_cons_zero, List.set_cons_succ]
          have HF2 : Hid (Qy.sameL (kids.drop (i + 1)) (kids'.drop (i + 1)) = E) := Lib.hid (by rw [← HDr.out]; simp)
          have HS := Lib.hid (And.intro (Below.call HB.out hC7) (And.intro (HA.out.on hC7) (HQ.out.on hC7)))
          clear hC7
          go_wp2_with fail
          go_roundw
          case rel => exact ⟨i + 1, by omega, by go_num, HF2.out, HS.out.1, HS.out.2.1, HS.out.2.2⟩
          case measure => simp [intOf]; omega
      · subst heq
        have HF2 : Hid (E = true) := Lib.hid (by
          rw [← hdr, List.drop_of_length_le (by have := HM.out; omega)]
          rw [Qy.sameL])
        clear hdr hB
        go_wp2
        go_returns
        exact ⟨by rw [HF2.out]; simp, HB.out⟩
set_option maxRecDepth 100000 in
set_option maxHeartbeats 3200000 in
theorem SameQuery_any (q : Qy.Qry) (hn : Qy.nodes q.reg ≤ 1000000) (ho : q.offs.length ≤ 1000000) (v v' : Value) (w : World) (hv : IsQry w q v) (hv' : IsQry w q v') : Calls Tryd.prog 11 #[v, v'] w (RetB w true) := by
  obtain ⟨n0, s1, n2, n3, n4, n5, n6, n7, A8, l8, c8, vA, vl, vc, rfl, hvl, hR, hI, hv1, hv2⟩ := hv
  obtain ⟨m0, t1, m2, m3, m4, m5, m6, m7, B8, k8, d8, wA, wl, wc, rfl, hwl, hR', hI', hw1, hw2⟩ := hv'
  obtain ⟨qk, QR, qv, qo, qd, qs⟩ := q
  simp only at hn ho hvl hwl hR hI hR' hI' ⊢
  have HS := Lib.hid (Same_any _ QR QR (Nat.le_refl _) hn hn (.agg #[.int .i64 n0, .string s1, .int .i64 n2, .int .i64 n3, .int .i64 n4, .int .i64 n5, .int .i64 n6, .int .i64 n7, .slice A8 l8 c8]) (.agg #[.int .i64 m0, .string t1, .int .i64 m2, .int .i64 m3, .int .i64 m4, .int .i64 m5, .int .i64 m6, .int .i64 m7, .slice B8 k8 d8]))
  rw [Qy.sameR_self] at HS
  have HSI : Hid (∀ u, Below w.heap.size w u → Calls Tryd.prog 38 #[.slice vA vl vc, .slice wA wl wc] u (RetB u true)) := Lib.hid fun u k => by
    have h := SameInts_any (c := vc) (c' := wc) (hI.on k) (hI'.on k) (by omega) (by omega)
    rw [decide_eq_true rfl] at h
    rw [hvl, hwl]
    exact h
  have HRR := Lib.hid (And.intro hR.isReg hR'.isReg)
  clear hn ho hvl hwl hR hI hR' hI' hv1 hv2 hw1 hw2
  go_enter Tryd.func11, Tryd.ntmps11
  go_upto_region 1 with fail
  refine wp_new2 fun W0 hA hQ hB => ?_
  have HI1 := Lib.hid (And.intro (HRR.out.1.on hB) (HRR.out.2.on hB))
  obtain ⟨⟨y0, y1, y2, y3, y4, y5, y6, y7, y8, y9, y10, y11, y12, y13⟩, _⟩ := hA.all14
  obtain ⟨⟨z0, z1, z2, z3, z4, z5, z6, z7, z8, z9, z10, z11, z12, z13⟩, _⟩ := hQ.all14
  go_wp2_with fail
  refine (HS.out _ HI1.out.1 HI1.out.2).mono ?_
  rintro e w1 ⟨rfl, k1⟩
  clear y0 y1 y2 y3 y4 y5 y6 y7 y8 y9 y10 y11 y12 y13 z0 z1 z2 z3 z4 z5 z6 z7 z8 z9 z10 z11 z12 z13
  obtain ⟨⟨y0, y1, y2, y3, y4, y5, y6, y7, y8, y9, y10, y11, y12, y13⟩, _⟩ := (hA.on k1).all14
  obtain ⟨⟨z0, z1, z2, z3, z4, z5, z6, z7, z8, z9, z10, z11, z12, z13⟩, _⟩ := (hQ.on k1).all14
  have hB1 := Below.call hB k1
  have HC := Lib.hid (HSI.out _ hB1)
  have HB1 := Lib.hid hB1
  clear hA hQ hB hB1 k1
  go_wp2_with fail
  refine HC.out.mono ?_
  rintro e w2 ⟨rfl, k2⟩
  have HB2 := Lib.hid (Below.call HB1.out k2)
  clear k2
  go_wp2
  go_returns
  exact ⟨rfl, HB2.out⟩
end Go.Proofs.YtmlpibdincfgbaaDoor
namespace Go.Proofs.YtmlpibdincfgbaaDoor
open Go.RowKit
set_option linter.unusedSimpArgs false
set_option linter.unusedVariables false

def exQ : Qy.Qry := ⟨3, Qy.kidsR 4 [.mk 1 [97, 97] 0 0 0 0 0 0 [], Qy.kidsR 6 [.mk 2 [] 5 (-7) 0 0 0 0 []]], 1, [2, 1], 100, 0⟩
/-- The first example's query in memory. -/
theorem ex_cells {w u : World} {v : Value} (h : qryV u exQ v w) : ∃ (g off g' off' c c' : Nat) (vA : Option Addr) (vc : Nat),
    v = .agg #[.int .i64 3, .int .i64 4, .string (bs []), .int .i64 0, .int .i64 0, .int .i64 0, .int .i64 0, .int .i64 0, .int .i64 0, .slice (some ⟨g, off, none⟩) 2 c, .int .i64 1, .slice vA 2 vc, .int .i64 100, .int .i64 0] ∧ g < w.heap.size ∧ g' < w.heap.size ∧
    w.cell? ⟨g, off + 1, none⟩ = some (.string (bs [97, 97])) ∧ w.cell? ⟨g, off + 17, none⟩ = some (.slice (some ⟨g', off', none⟩) 1 c') ∧ w.cell? ⟨g', off' + 2, none⟩ = some (.int .i64 5) ∧ w.cell? ⟨g', off' + 3, none⟩ = some (.int .i64 (-7)) ∧ IntsAt w (fun _ => True) vA [2, 1] := by
  obtain ⟨cs, vA, vc, rfl, h9, hR, hI, h1, h2⟩ := h
  unfold exQ at hR hI
  simp only at hR hI
  obtain ⟨A, c, rfl, hK⟩ := hR.cells
  unfold Qy.kidsR Qy.Reg.kids at hK
  simp only at hK
  obtain ⟨g, off, cs0, rfl, _, hg, e0, r0⟩ := hK.get (i := 0) rfl
  obtain ⟨g2, off2, cs1, hA, _, _, e1, r1⟩ := hK.get (i := 1) rfl
  cases hA
  obtain ⟨A0, c0, rfl, _⟩ := r0.cells
  obtain ⟨A1, c1, rfl, hK1⟩ := r1.cells
  unfold Qy.Reg.kids at hK1
  simp only at hK1
  obtain ⟨g', off', cs2, rfl, _, hg', e2, r2⟩ := hK1.get (i := 0) rfl
  obtain ⟨A2, c2, rfl, _⟩ := r2.cells
  refine ⟨g, off, g', off', c, c1, vA, vc, rfl, hg, hg', ?_, ?_, ?_, ?_, hI.keep (Nat.le_refl _) fun _ _ _ => ⟨trivial, rfl⟩⟩
  · exact e0 1 _ rfl
  · exact e1 8 _ rfl
  · exact e2 2 _ rfl
  · exact e2 3 _ rfl
set_option maxRecDepth 100000 in
set_option maxHeartbeats 3200000 in
theorem lives_any (w : World) : Calls Tryd.prog 13 #[] w (RetB w true) := by
  have HP1 : Hid (∀ u, Calls Tryd.prog 9 #[.string ⟨#[99, 111, 117, 110, 116, 32, 51, 32, 111, 102, 32, 110, 97, 109, 101, 100, 32, 97, 97, 32, 97, 110, 100, 32, 110, 111, 116, 32, 97, 116, 32, 53, 44, 45, 55, 32, 105, 110, 32, 99, 111, 97, 108, 105, 116, 105, 111, 110, 32, 50, 44, 49, 32, 111, 110, 32, 49, 48, 48, 32, 97, 116, 32, 48]⟩] u fun e w' => ∃ v, e = .returned (.tuple #[v, .int .i64 0, .int .i64 0]) ∧ qryV u exQ v w' ∧ Below u.heap.size u w') := Lib.hid fun u => by
    have h := qParse Qy.text1 u (by decide)
    rw [Qy.read1] at h
    exact h.mono fun e w' ⟨v, h1, h2, h3⟩ => ⟨v, h1, h2, h3⟩
  have HP2 : Hid (∀ u, Calls Tryd.prog 9 #[.string ⟨#[99, 111, 117, 110, 116, 32, 51, 32, 111, 102, 32, 97, 97]⟩] u fun e w' => ∃ v, e = .returned (.tuple #[v, .int .i64 11, .int .i64 2]) ∧ qryV u Qy.Qry.none v w' ∧ Below u.heap.size u w') := Lib.hid fun u => by
    have h := qParse Qy.text2 u (by decide)
    rw [Qy.read2] at h
    exact h.mono fun e w' ⟨v, h1, h2, h3⟩ => ⟨v, h1, h2, h3⟩
  have HSI : Hid (∀ (A B : Option Addr) (c d : Nat) u, IntsAt u (fun _ => True) A [2, 1] → IntsAt u (fun _ => True) B [2, 1] → Calls Tryd.prog 38 #[.slice A 2 c, .slice B 2 d] u (RetB u true)) := Lib.hid fun A B c d u h1 h2 => by
    have h := SameInts_any (c := c) (c' := d) h1 h2 (by simp) (by simp)
    rw [decide_eq_true rfl] at h
    exact h
  go_enter Tryd.func13, Tryd.ntmps13
  go_wp2_with fail
  refine (HP1.out _).mono ?_
  rintro e w1 ⟨v, rfl, hq, hb1⟩
  obtain ⟨g, off, g', off', c, c', vA, vc, rfl, hg, hg', x1, x2, x3, x4, hI⟩ := ex_cells hq
  clear hq
  go_upto_region 2 with fail
  refine wp_new1 fun W1 hQ kn => ?_
  have hb := Below.call hb1 kn
  have HX := Lib.hid (And.intro hg (And.intro hg' (And.intro x1 (And.intro x2 (And.intro x3 x4)))))
  have HI := Lib.hid hI
  have HKn := Lib.hid kn
  clear x1 x2 x3 x4 hg hg' hI hb1 kn
  go_wp2_with fail
  refine (HP2.out _).mono ?_
  rintro e w2 ⟨v, rfl, hq, hb2⟩
  obtain ⟨n0, s1, n2, n3, n4, n5, n6, n7, A8, l8, c8, wA, wl, wc, rfl, _⟩ := hq.lit
  clear hq
  go_upto_region 3 with fail
  refine wp_new1 fun W2 hQ2 kn => ?_
  have hk := Below.call hb2 kn
  have hk1 := Below.call HKn.out hk
  have hB := Below.call hb hk
  have hQ3 := hQ.on hk
  obtain ⟨⟨y0, y1, y2, y3, y4, y5, y6, y7, y8, y9, y10, y11, y12, y13⟩, _⟩ := hQ3.all14
  have ce : ∀ k, k < w1.heap.size → ∀ o, W2.cell? ⟨k, o, none⟩ = w1.cell? ⟨k, o, none⟩ := fun k hk o => World.cell?_of_block (a := ⟨k, o, none⟩) (hk1.block k hk)
  have x1 : W2.cell? ⟨g, off + 1, none⟩ = some (.string ⟨#[97, 97]⟩) := (ce g HX.out.1 _).trans HX.out.2.2.1
  have x2 := (ce g HX.out.1 _).trans HX.out.2.2.2.1
  have x3 := (ce g' HX.out.2.1 _).trans HX.out.2.2.2.2.1
  have x4 := (ce g' HX.out.2.1 _).trans HX.out.2.2.2.2.2
  have x2' : W2.cell? ⟨g, off + 9 + 8, none⟩ = some (.slice (some ⟨g', off', none⟩) 1 c') := x2
  have HI2 := Lib.hid (HI.out.on hk1)
  have HB := Lib.hid hB
  clear hb hb2 kn hk hk1 hB hQ hQ2 hQ3 ce HX HI
  have kn3 := below_new W2 (.cells #[.int .i64 2, .int .i64 1] 3)
  have hI3 : IntsAt (W2.alloc (.cells #[.int .i64 2, .int .i64 1] 3)) (fun _ => True) (some ⟨W2.heap.size, 0, none⟩) [2, 1] := .inr ⟨W2.heap.size, 0, rfl, trivial, (Own.new W2 3 [.int .i64 2, .int .i64 1]).lt, fun i z hz => by
    rw [Nat.zero_add]
    match i, hz with
    | 0, hz => simp only [List.getElem?_cons_zero, Option.some.injEq] at hz; subst hz; exact (Own.new W2 3 [.int .i64 2, .int .i64 1]).cell 0
    | 1, hz => simp only [List.getElem?_cons_succ, List.getElem?_cons_zero, Option.some.injEq] at hz; subst hz; exact (Own.new W2 3 [.int .i64 2, .int .i64 1]).cell 1
    | i + 2, hz => simp at hz⟩
  have HI3 := Lib.hid (And.intro (HI2.out.on kn3) (And.intro hI3 (Below.call HB.out kn3)))
  clear kn3 hI3
  go_wp2_with fail
  refine (HSI.out _ _ _ _ _ HI3.out.1 HI3.out.2.1).mono ?_
  rintro e w5 ⟨rfl, k5⟩
  have HF := Lib.hid (Below.call HI3.out.2.2 k5)
  clear k5 x1 x2 x2' x3 x4 y0 y1 y2 y3 y4 y5 y6 y7 y8 y9 y10 y11 y12 y13
  go_wp2
  go_returns
  exact ⟨by simp, HF.out⟩
end Go.Proofs.YtmlpibdincfgbaaDoor
namespace Go.Proofs.YtmlpibdincfgbaaDoor
open Go.RowKit
set_option linter.unusedSimpArgs false
set_option linter.unusedVariables false

def sQryB (q : Qy.Qry) : Spec Bel := ⟨fun v w => ∃ x : Value, v = x ∧ IsQry w q x, fun ⟨x, e, h⟩ k => ⟨x, e, h.on k⟩⟩
theorem bs_eta (b : ByteArray) : bs b.data.toList = b := by cases b; rfl
theorem wrap64_bd (n : Int) : -9223372036854775808 ≤ wrap64 n ∧ wrap64 n ≤ 9223372036854775807 := by unfold wrap64; omega
theorem parse_small (s : Qy.Bs) : Qy.nodes (Qy.parse s).1.reg ≤ 1000000 ∧ (Qy.parse s).1.offs.length ≤ 1000000 := by
  have := Qy.parse_valid s
  omega
theorem lsz (l : List UInt8) : (⟨l.toArray⟩ : ByteArray).size = l.length := by simp [ByteArray.size]
/-- A text of bounded size. -/
def Txt (n : Nat) (v : Value) : Prop := ∃ b : ByteArray, v = .string b ∧ b.size ≤ n
set_option maxRecDepth 100000 in
set_option maxHeartbeats 6400000 in
theorem QueryLimits_any (many deep number offices whr : Int) (h0 : in64 many) (h1 : in64 deep) (h2 : in64 number) (h3 : in64 offices) (h4 : in64 whr) (w : World) :
    Calls Tryd.prog 3 #[.int .i64 many, .int .i64 deep, .int .i64 number, .int .i64 offices, .int .i64 whr] w (RetB w true) := by
  have HL0 := Lib.hid fun u => lives_any u
  have HD0 : Hid (∀ (z : Int) (u : World), in64 z → Calls Tryd.prog 8 #[.int .i64 z] u fun e w' => ∃ t : ByteArray, t.size ≤ 20 ∧ e = .returned (.string t) ∧ Below u.heap.size u w') := Lib.hid fun z u h => (Decimal_any z u h.1 h.2).mono fun e w' ⟨h1, h2⟩ => ⟨_, by rw [str_size (l := Lib.itoa z) (by simp)]; exact Qy.itoa_len64 z h.1 h.2, h1, h2⟩
  obtain ⟨x0, hx0⟩ : ∃ x, around many 12 = x := ⟨_, rfl⟩
  obtain ⟨x1, hx1⟩ : ∃ x, around deep 12 = x := ⟨_, rfl⟩
  obtain ⟨x2, hx2⟩ : ∃ x, around number 10 = x := ⟨_, rfl⟩
  obtain ⟨x4, hx4⟩ : ∃ x, around offices 10 = x := ⟨_, rfl⟩
  obtain ⟨x5, hx5⟩ : ∃ x, around whr 7 = x := ⟨_, rfl⟩
  obtain ⟨x3, hx3⟩ : ∃ x, around whr 3 = x := ⟨_, rfl⟩
  have b0 := around_bd many (m := 12) (by omega)
  have b1 := around_bd deep (m := 12) (by omega)
  have b2 := around_bd number (m := 10) (by omega)
  have b4 := around_bd offices (m := 10) (by omega)
  have b5 := around_bd whr (m := 7) (by omega)
  have b3 := around_bd whr (m := 3) (by omega)
  rw [hx0] at b0
  rw [hx1] at b1
  rw [hx2] at b2
  rw [hx3] at b3
  rw [hx4] at b4
  rw [hx5] at b5
  have HA0 := Lib.hid fun u => Around_any many 12 u h0.1 h0.2 (by omega) (by omega)
  have HAd := Lib.hid fun u => Around_any deep 12 u h1.1 h1.2 (by omega) (by omega)
  have HA1' := Lib.hid fun u => Around_any number 10 u h2.1 h2.2 (by omega) (by omega)
  have HAo := Lib.hid fun u => Around_any offices 10 u h3.1 h3.2 (by omega) (by omega)
  have HAw := Lib.hid fun u => Around_any whr 7 u h4.1 h4.2 (by omega) (by omega)
  have HA2 := Lib.hid fun u => Around_any whr 3 u h4.1 h4.2 (by omega) (by omega)
  rw [hx0] at HA0
  rw [hx1] at HAd
  rw [hx2] at HA1'
  rw [hx3] at HA2
  rw [hx4] at HAo
  rw [hx5] at HAw
  have hnum : in64 number := h2
  have HNum := Lib.hid hnum
  clear hx0 hx1 hx2 hx3 hx4 hx5 h0 h1 h2 h3 h4 hnum
  go_enter Tryd.func3, Tryd.ntmps3
  go_wp2_with fail
  refine (HA0.out _).mono ?_
  rintro e w1 ⟨rfl, k1⟩
  have hB := k1
  clear k1
  go_wp2_with fail
  go_loopw [12, 13] (fun s12 s13 wr => ∃ (i : Nat) (b : ByteArray), s12 = .string b ∧ s13 = .int .i64 (i : Int) ∧ i ≤ 300 ∧ b.size ≤ 16 + 9 * i ∧ Below w.heap.size w wr) (fun _ s _ => 300 - (intOf s).toNat)
  case atStart => exact ⟨2, _, rfl, rfl, by omega, by simp [ByteArray.size], hB⟩
  case round =>
    obtain ⟨i, b, rfl, rfl, hi, hb, hB⟩ := hrel
    by_cases hc : (i : Int) < 250 + x0
    · go_wp2_with fail
      go_roundw
      case rel => exact ⟨i + 1, _, rfl, by go_num, by omega, by rw [ByteArray.size_append]; have e9 : (⟨#[32, 111, 114, 32, 119, 104, 111, 108, 101]⟩ : ByteArray).size = 9 := rfl; omega, hB⟩
      case measure => simp [intOf]; omega
    · have hb1 : b.size ≤ 2716 := by omega
      have HB1 := Lib.hid hB
      clear hB hb hi
      go_wp2_with fail
      clear hc
      go_loopw [14, 15] (fun s14 s15 wr => ∃ (i : Nat) (b : ByteArray), s14 = .string b ∧ s15 = .int .i64 (i : Int) ∧ i ≤ 30 ∧ b.size ≤ 11 + 4 * i ∧ Below w.heap.size w wr) (fun _ s _ => 30 - (intOf s).toNat)
      case atStart => exact ⟨0, _, rfl, rfl, by omega, by simp [ByteArray.size], HB1.out⟩
      case round =>
        obtain ⟨i, b2, rfl, rfl, hi, hb2, hB⟩ := hrel
        clear HB1
        have HB2 := Lib.hid hB
        clear hB
        go_wp2_with fail
        refine (HAd.out _).mono ?_
        rintro e w3 ⟨rfl, k3⟩
        have HB3 := Lib.hid (Below.call HB2.out k3)
        clear k3 HB2
        by_cases hc : (i : Int) < 10 + x1
        · go_wp2_with fail
          go_roundw
          case rel => exact ⟨i + 1, _, rfl, by go_num, by omega, by rw [ByteArray.size_append]; have e9 : (⟨#[110, 111, 116, 32]⟩ : ByteArray).size = 4 := rfl; omega, HB3.out⟩
          case measure => simp [intOf]; omega
        · have hb2' : b2.size ≤ 131 := by omega
          clear hb2 hi
          go_wp2_with fail
          clear hc
          go_loopw [16, 17] (fun s16 s17 wr => ∃ (i : Nat) (b : ByteArray), s16 = .string b ∧ s17 = .int .i64 (i : Int) ∧ i ≤ 20 ∧ b.size ≤ 30 * i ∧ Below w.heap.size w wr) (fun _ s _ => 20 - (intOf s).toNat)
          case atStart => exact ⟨0, _, rfl, rfl, by omega, by simp [ByteArray.size], HB3.out⟩
          case round =>
            obtain ⟨i, b3, rfl, rfl, hi, hb3, hB⟩ := hrel
            clear HB3
            have HB2 := Lib.hid hB
            clear hB
            go_wp2_with fail
            refine (HAo.out _).mono ?_
            rintro e w4 ⟨rfl, k3⟩
            have HB4 := Lib.hid (Below.call HB2.out k3)
            clear k3 HB2
            by_cases hc : (i : Int) < 1 + x4
            · by_cases h0 : (0 : Int) < (i : Int)
              · go_wp2_with fail
                refine (HAw.out _).mono ?_
                rintro e w5 ⟨rfl, k5⟩
                have HB5 := Lib.hid (Below.call HB4.out k5)
                clear k5
                go_wp2_with fail
                refine (HD0.out _ _ (by unfold in64; omega)).mono ?_
                rintro e w6 ⟨t, ht, rfl, k6⟩
                have HB6 := Lib.hid (Below.call HB5.out k6)
                clear k6
                go_wp2_with fail
                go_roundw
                case rel => exact ⟨i + 1, _, rfl, by go_num, by omega, by rw [ByteArray.size_append, ByteArray.size_append]; have e9 : (⟨#[44]⟩ : ByteArray).size = 1 := rfl; omega, HB6.out⟩
                case measure => simp [intOf]; omega
              · go_wp2_with fail
                refine (HAw.out _).mono ?_
                rintro e w5 ⟨rfl, k5⟩
                have HB5 := Lib.hid (Below.call HB4.out k5)
                clear k5
                go_wp2_with fail
                refine (HD0.out _ _ (by unfold in64; omega)).mono ?_
                rintro e w6 ⟨t, ht, rfl, k6⟩
                have HB6 := Lib.hid (Below.call HB5.out k6)
                clear k6
                go_wp2_with fail
                go_roundw
                case rel => exact ⟨i + 1, _, rfl, by go_num, by omega, by rw [ByteArray.size_append]; omega, HB6.out⟩
                case measure => simp [intOf]; omega
            · have hb3' : b3.size ≤ 600 := by omega
              clear hb3 hi
              go_upto_region 20 with fail
              refine wp_new1 fun w5 hL kn => ?_
              obtain ⟨g5, hg5⟩ : ∃ g, w4.heap.size = g := ⟨_, rfl⟩
              rw [hg5] at hL ⊢
              have HB5 := Lib.hid (Below.call HB4.out kn)
              clear kn hg5 HB4 hc
              obtain ⟨ka, hka⟩ : ∃ k : Nat, x2 = (k : Int) := ⟨x2.toNat, by omega⟩
              subst hka
              have hk10 : ka < 10 := by omega
              obtain ⟨lv, hlv, hlr⟩ : ∃ lv : Int, w5.cell? ⟨g5, ka, none⟩ = some (.int .i64 lv) ∧ in64 lv := by
                rcases (by omega : ka = 0 ∨ ka = 1 ∨ ka = 2 ∨ ka = 3 ∨ ka = 4 ∨ ka = 5 ∨ ka = 6 ∨ ka = 7 ∨ ka = 8 ∨ ka = 9) with rfl | rfl | rfl | rfl | rfl | rfl | rfl | rfl | rfl | rfl
                · exact ⟨_, hL.cell 0, by unfold in64; omega⟩
                · exact ⟨_, hL.cell 1, by unfold in64; omega⟩
                · exact ⟨_, hL.cell 2, by unfold in64; omega⟩
                · exact ⟨_, hL.cell 3, by unfold in64; omega⟩
                · exact ⟨_, hL.cell 4, by unfold in64; omega⟩
                · exact ⟨_, hL.cell 5, by unfold in64; omega⟩
                · exact ⟨_, hL.cell 6, by unfold in64; omega⟩
                · exact ⟨_, hL.cell 7, by unfold in64; omega⟩
                · exact ⟨_, hL.cell 8, by unfold in64; omega⟩
                · exact ⟨_, hL.cell 9, HNum.out⟩
              have HL : Hid (∀ wz, Below w5.heap.size w5 wz → wz.cell? ⟨g5, ka, none⟩ = some (.int .i64 lv)) := Lib.hid fun wz k => (World.cell?_of_block (a := ⟨g5, ka, none⟩) (k.block g5 hL.lt)).trans hlv
              have HA1 := HA1'
              obtain ⟨K, hK⟩ : ∃ K, wrap64 (wrap64 (lv + x3) - 1) = K := ⟨_, rfl⟩
              have hK64 : in64 K := by rw [← hK]; exact wrap64_bd _
              obtain ⟨dk, hdk⟩ : ∃ t : ByteArray, t = ⟨(Lib.itoa K).toArray⟩ := ⟨_, rfl⟩
              have HD : Hid (∀ u, Calls Tryd.prog 8 #[.int .i64 (wrap64 (wrap64 (lv + x3) - 1))] u fun e w' => e = .returned (.string dk) ∧ Below u.heap.size u w') := Lib.hid fun u => by rw [hK, hdk]; exact Decimal_any K u hK64.1 hK64.2
              have hdz : dk.size ≤ 20 := by rw [hdk, str_size (l := Lib.itoa K) (by simp)]; exact Qy.itoa_len64 K hK64.1 hK64.2
              clear hL hlv hK hK64 hdk K HD0 HNum hlr hk10
              refine wp_region_specs w5 [Spec.eq (.slice (some ⟨g5, 0, none⟩) 10 10), Spec.eq (.int .i64 number), Spec.eq (.int .i64 (ka : Int)), Spec.eq (.pointer (some ⟨g5, ka, none⟩)), Spec.eq (.int .i64 lv), Spec.eq (.int .i64 whr), Spec.eq (.int .i64 x3), Spec.eq (.int .i64 (wrap64 (lv + x3))), Spec.eq (.int .i64 (wrap64 (wrap64 (lv + x3) - 1))), Spec.eq (.string dk), Spec.eq (.string dk)]
                  (by kernel_rfl) (by kernel_rfl) rfl (by kernel_rfl) (Below.drew (Below.refl _ _)) ?_ ?_
              ·
                refine RegSteps.cons ?_ ?_
                · intro _ az wz hC hF hD _ K hK
                  have q18 : az.tmps[18]? = some (.slice (some ⟨g5, 0, none⟩) 10 10) := hF 18 rfl
                  clear hF hD
                  refine want_none rfl ?_
                  go_simp
                  exact hK _ _ hC (Below.refl _ _) rfl
                refine RegSteps.cons ?_ ?_
                · intro _ az wz hC hF hD _ K hK
                  have q2 : az.tmps[2]? = some (.int .i64 number) := hF 2 rfl
                  clear hF hD
                  refine want_none rfl ?_
                  go_simp
                  exact hK _ _ hC (Below.refl _ _) rfl
                refine RegSteps.cons ?_ ?_
                · intro _ az wz hC hF hD _ K hK
                  obtain ⟨_, q71, rfl⟩ := dep hD 1 rfl rfl rfl rfl
                  clear hF hD
                  refine want_none rfl ?_
                  go_simp
                  refine (HA1.out _).mono ?_
                  rintro e wy ⟨rfl, k⟩
                  exact hK _ _ (Below.call hC k) k rfl
                refine RegSteps.cons ?_ ?_
                · intro _ az wz hC hF hD _ K hK
                  obtain ⟨_, q70, rfl⟩ := dep hD 0 rfl rfl rfl rfl
                  obtain ⟨_, q72, rfl⟩ := dep hD 2 rfl rfl rfl rfl
                  clear hF hD
                  refine want_none rfl ?_
                  go_simp
                  exact hK _ _ hC (Below.refl _ _) rfl
                refine RegSteps.cons ?_ ?_
                · intro _ az wz hC hF hD _ K hK
                  obtain ⟨_, q73, rfl⟩ := dep hD 3 rfl rfl rfl rfl
                  have zc := HL.out wz hC
                  clear hF hD
                  refine want_none rfl ?_
                  go_simp
                  exact hK _ _ hC (Below.refl _ _) rfl
                refine RegSteps.cons ?_ ?_
                · intro _ az wz hC hF hD _ K hK
                  have q4 : az.tmps[4]? = some (.int .i64 whr) := hF 4 rfl
                  clear hF hD
                  refine want_none rfl ?_
                  go_simp
                  exact hK _ _ hC (Below.refl _ _) rfl
                refine RegSteps.cons ?_ ?_
                · intro _ az wz hC hF hD _ K hK
                  obtain ⟨_, q75, rfl⟩ := dep hD 5 rfl rfl rfl rfl
                  clear hF hD
                  refine want_none rfl ?_
                  go_simp
                  refine (HA2.out _).mono ?_
                  rintro e wy ⟨rfl, k⟩
                  exact hK _ _ (Below.call hC k) k rfl
                refine RegSteps.cons ?_ ?_
                · intro _ az wz hC hF hD _ K hK
                  obtain ⟨_, q74, rfl⟩ := dep hD 4 rfl rfl rfl rfl
                  obtain ⟨_, q76, rfl⟩ := dep hD 6 rfl rfl rfl rfl
                  clear hF hD
                  refine want_none rfl ?_
                  go_simp
                  try go_ints
                  exact hK _ _ hC (Below.refl _ _) rfl
                refine RegSteps.cons ?_ ?_
                · intro _ az wz hC hF hD _ K hK
                  obtain ⟨_, q77, rfl⟩ := dep hD 7 rfl rfl rfl rfl
                  clear hF hD
                  refine want_none rfl ?_
                  go_simp
                  try go_ints
                  exact hK _ _ hC (Below.refl _ _) rfl
                refine RegSteps.cons ?_ ?_
                · intro _ az wz hC hF hD _ K hK
                  obtain ⟨_, q78, rfl⟩ := dep hD 8 rfl rfl rfl rfl
                  clear hF hD
                  refine want_none rfl ?_
                  go_simp
                  refine (HD.out _).mono ?_
                  rintro e wy ⟨rfl, k⟩
                  exact hK _ _ (Below.call hC k) k rfl
                refine RegSteps.cons ?_ ?_
                · intro _ az wz hC hF hD _ K hK
                  obtain ⟨_, q79, rfl⟩ := dep hD 9 rfl rfl rfl rfl
                  clear hF hD
                  refine want_none rfl ?_
                  go_simp
                  exact hK _ _ hC (Below.refl _ _) rfl
                exact RegSteps.nil
              intro w6 hC6
              rintro _ rfl _ rfl _ rfl _ rfl _ rfl _ rfl _ rfl _ rfl _ rfl _ rfl _ rfl
              simp only [FinOK, Act.put, List.setIfInBounds_toArray, List.set_cons_zero, List.set_cons_succ]
              have HB6 := Lib.hid (Below.call HB5.out hC6)
              clear hC6 HB5 HL HA1 HA1' HD
              go_upto_region 23 with fail
              refine wp_new1 fun w8 hS kn => ?_
              obtain ⟨g8, hg8⟩ : ∃ g, w6.heap.size = g := ⟨_, rfl⟩
              rw [hg8] at hS ⊢
              have hB8 := Below.call HB6.out kn
              have hX : ∃ xs : List Value, Own w8 g8 9 xs ∧ ∀ k, k < 10 → ∃ t : ByteArray, xs[k]? = some (.string t) ∧ t.size ≤ 100000 := ⟨_, hS, fun k hk => by
                rcases (by omega : k = 0 ∨ k = 1 ∨ k = 2 ∨ k = 3 ∨ k = 4 ∨ k = 5 ∨ k = 6 ∨ k = 7 ∨ k = 8 ∨ k = 9) with rfl | rfl | rfl | rfl | rfl | rfl | rfl | rfl | rfl | rfl <;> exact ⟨_, rfl, by simp only [ByteArray.size_append, lsz, List.length_cons, List.length_nil]; omega⟩⟩
              obtain ⟨xs, hS, hxs⟩ := hX
              have HX := Lib.hid hxs
              have HS := Lib.hid (And.intro hB8 hS)
              clear hS hxs hB8 kn hg8 hb1 hb2' hb3' hdz HB6 HAd HAo HAw HA0 HA2
              go_wp2_with fail
              go_loopw [22] (fun s wr => ∃ i : Nat, i ≤ 10 ∧ s = .int .i64 (i : Int) ∧ Below w.heap.size w wr ∧ Own wr g8 9 xs) (fun s _ => 10 - (intOf s).toNat)
              case atStart => exact ⟨0, by omega, rfl, HS.out.1, HS.out.2⟩
              case round =>
                obtain ⟨i, hi, rfl, hB, hS⟩ := hrel
                clear HS
                rcases Nat.lt_or_eq_of_le hi with hlt | heq
                · have i1 : (i : Int) < 10 := by omega
                  obtain ⟨t, ht, htz⟩ := HX.out i hlt
                  have HXI := Lib.hid ht
                  have x1 : wr.cell? ⟨g8, i, none⟩ = some (.string t) := by rw [hS.cell, ht]
                  have hsl : t.data.toList.length ≤ 100000 := by rw [← bs_size, bs_eta]; exact htz
                  obtain ⟨PR, hPR⟩ : ∃ PR, Qy.parse t.data.toList = PR := ⟨_, rfl⟩
                  have hsm := parse_small t.data.toList
                  have HQ : Hid (∀ u, Calls Tryd.prog 9 #[.string t] u (ParseR u PR)) := Lib.hid fun u => by rw [← hPR]; have h9 := qParse t.data.toList u (by omega); rw [bs_eta] at h9; exact h9
                  have HR : Hid (∀ u, Calls Tryd.prog 10 #[.string t] u (ParseR u PR)) := Lib.hid fun u => by rw [← hPR]; have h9 := rParse t.data.toList u (by omega); rw [bs_eta] at h9; exact h9
                  rw [hPR] at hsm
                  obtain ⟨⟨qk, QR, qv, qo, qd, qs⟩, px, pe⟩ := PR
                  simp only at hsm
                  obtain ⟨Q, hQd⟩ : ∃ Q : Qy.Qry, Q = ⟨qk, QR, qv, qo, qd, qs⟩ := ⟨_, rfl⟩
                  have HPl : Hid (∀ (v : Value) (u : World), IsQry u Q v → Calls Tryd.prog 12 #[v] u fun e w' => ∃ v', e = .returned v' ∧ Below u.heap.size u w' ∧ IsQry w' Q v') := Lib.hid fun v u h => plain_any Q (by rw [hQd]; exact hsm.1) v u h
                  have HSq : Hid (∀ (v v' : Value) (u : World), IsQry u Q v → IsQry u Q v' → Calls Tryd.prog 11 #[v, v'] u (RetB u true)) := Lib.hid fun v v' u h h' => SameQuery_any Q (by rw [hQd]; exact hsm.1) (by rw [hQd]; exact hsm.2) v v' u h h'
                  have HQD := Lib.hid hQd
                  have HS := Lib.hid (And.intro hB hS)
                  clear hPR hsm hQd ht htz hsl hB
                  go_wp2_with fail
                  refine (HQ.out _).mono ?_
                  rintro e w1 ⟨v, rfl, hq, hb1⟩
                  obtain ⟨an0, as1, an2, an3, an4, an5, an6, an7, aA8, al8, ac8, avA, avl, avc, rfl, hvl, _⟩ := hq.lit
                  have hqa := hq.isQry
                  have hS1 := hS.on hb1
                  have hB1 := Below.call HS.out.1 hb1
                  clear hq x1 hS HS
                  simp only at hqa hvl ⊢
                  subst hvl
                  go_upto_region 27 with fail
                  refine wp_new1 fun W2 hOa kn => ?_
                  obtain ⟨ga, hga⟩ : ∃ g, w1.heap.size = g := ⟨_, rfl⟩
                  rw [hga] at hOa ⊢
                  have hB2 := Below.call hB1 kn
                  have hS2 := hS1.on kn
                  have hqa2 := hqa.on kn
                  have x1 : W2.cell? ⟨g8, i, none⟩ = some (.string t) := by rw [hS2.cell]; exact HXI.out
                  clear hB1 hS1 hqa kn hga hb1
                  have HA := Lib.hid (And.intro hOa (And.intro hB2 (And.intro hS2 hqa2)))
                  clear hOa hB2 hS2 hqa2
                  go_wp2_with fail
                  refine (HR.out _).mono ?_
                  rintro e w3 ⟨v, rfl, hq, hb3⟩
                  obtain ⟨bn0, bs1, bn2, bn3, bn4, bn5, bn6, bn7, bA8, bl8, bc8, bvA, bvl, bvc, rfl, hvl, _⟩ := hq.lit
                  have hqb := hq.isQry
                  have hOa3 := HA.out.1.on hb3
                  have hB3 := Below.call HA.out.2.1 hb3
                  have hS3 := HA.out.2.2.1.on hb3
                  have hqa3 := HA.out.2.2.2.on hb3
                  clear hq x1 HA
                  simp only at hqb hvl ⊢
                  subst hvl
                  go_upto_region 28 with fail
                  refine wp_new1 fun W4 hOb kn => ?_
                  obtain ⟨gb, hgb⟩ : ∃ g, w3.heap.size = g := ⟨_, rfl⟩
                  rw [hgb] at hOb ⊢
                  have HOa := Lib.hid (hOa3.on kn)
                  have HOb := Lib.hid hOb
                  have HS4 := Lib.hid (And.intro (Below.call hB3 kn) (hS3.on kn))
                  have HQa : Hid (∀ wz, Below W4.heap.size W4 wz → IsQry wz Q (.agg #[.int .i64 qk, .int .i64 an0, .string as1, .int .i64 an2, .int .i64 an3, .int .i64 an4, .int .i64 an5, .int .i64 an6, .int .i64 an7, .slice aA8 al8 ac8, .int .i64 qv, .slice avA qo.length avc, .int .i64 qd, .int .i64 qs])) := Lib.hid fun wz k => by rw [HQD.out]; exact (hqa3.on kn).on k
                  have HQb : Hid (∀ wz, Below W4.heap.size W4 wz → IsQry wz Q (.agg #[.int .i64 qk, .int .i64 bn0, .string bs1, .int .i64 bn2, .int .i64 bn3, .int .i64 bn4, .int .i64 bn5, .int .i64 bn6, .int .i64 bn7, .slice bA8 bl8 bc8, .int .i64 qv, .slice bvA qo.length bvc, .int .i64 qd, .int .i64 qs])) := Lib.hid fun wz k => by rw [HQD.out]; exact (hqb.on kn).on k
                  clear hOa3 hOb hB3 hS3 hqa3 hqb kn hgb hb3 HQ HR
                  refine wp_region_specs W4 [Spec.eq (.int .i64 (px : Int)), Spec.eq (.int .i64 (px : Int)), Spec.eq (.bool false), Spec.eq (.bool false), Spec.eq (.int .i64 pe), Spec.eq (.int .i64 pe), Spec.eq (.bool false), Spec.eq (.bool false), Spec.eq (.bool false), Spec.eq (.agg #[.int .i64 qk, .int .i64 an0, .string as1, .int .i64 an2, .int .i64 an3, .int .i64 an4, .int .i64 an5, .int .i64 an6, .int .i64 an7, .slice aA8 al8 ac8, .int .i64 qv, .slice avA qo.length avc, .int .i64 qd, .int .i64 qs]), sQryB Q, Spec.eq (.agg #[.int .i64 qk, .int .i64 bn0, .string bs1, .int .i64 bn2, .int .i64 bn3, .int .i64 bn4, .int .i64 bn5, .int .i64 bn6, .int .i64 bn7, .slice bA8 bl8 bc8, .int .i64 qv, .slice bvA qo.length bvc, .int .i64 qd, .int .i64 qs]), Spec.eq (.bool true), Spec.eq (.bool false), Spec.eq (.bool false)]
                      (by kernel_rfl) (by kernel_rfl) rfl (by kernel_rfl) (Below.drew (Below.refl _ _)) ?_ ?_
                  ·
                    refine RegSteps.cons ?_ ?_
                    · intro _ az wz hC hF hD _ K hK
                      have q24 : az.tmps[24]? = some (.int .i64 (px : Int)) := hF 24 rfl
                      clear hF hD
                      refine want_none rfl ?_
                      go_simp
                      exact hK _ _ hC (Below.refl _ _) rfl
                    refine RegSteps.cons ?_ ?_
                    · intro _ az wz hC hF hD _ K hK
                      have q27 : az.tmps[27]? = some (.int .i64 (px : Int)) := hF 27 rfl
                      clear hF hD
                      refine want_none rfl ?_
                      go_simp
                      exact hK _ _ hC (Below.refl _ _) rfl
                    refine RegSteps.cons ?_ ?_
                    · intro _ az wz hC hF hD _ K hK
                      obtain ⟨_, q142, rfl⟩ := dep hD 0 rfl rfl rfl rfl
                      obtain ⟨_, q143, rfl⟩ := dep hD 1 rfl rfl rfl rfl
                      clear hF hD
                      refine want_none rfl ?_
                      go_simp
                      exact hK _ _ hC (Below.refl _ _) rfl
                    refine RegSteps.cons ?_ ?_
                    · intro _ az wz hC hF hD _ K hK
                      obtain ⟨_, q144, rfl⟩ := dep hD 2 rfl rfl rfl rfl
                      clear hF hD
                      refine want_none rfl ?_
                      go_simp
                      exact hK _ _ hC (Below.refl _ _) rfl
                    refine RegSteps.cons ?_ ?_
                    · intro _ az wz hC hF hD _ K hK
                      have q25 : az.tmps[25]? = some (.int .i64 pe) := hF 25 rfl
                      obtain ⟨_, qg, rfl⟩ := dep hD 3 rfl rfl rfl rfl
                      clear hF hD
                      refine want_yes rfl rfl rfl qg ?_
                      go_simp
                      exact hK _ _ hC (Below.refl _ _) rfl
                    refine RegSteps.cons ?_ ?_
                    · intro _ az wz hC hF hD _ K hK
                      have q28 : az.tmps[28]? = some (.int .i64 pe) := hF 28 rfl
                      obtain ⟨_, qg, rfl⟩ := dep hD 3 rfl rfl rfl rfl
                      clear hF hD
                      refine want_yes rfl rfl rfl qg ?_
                      go_simp
                      exact hK _ _ hC (Below.refl _ _) rfl
                    refine RegSteps.cons ?_ ?_
                    · intro _ az wz hC hF hD _ K hK
                      obtain ⟨_, q146, rfl⟩ := dep hD 4 rfl rfl rfl rfl
                      obtain ⟨_, q147, rfl⟩ := dep hD 5 rfl rfl rfl rfl
                      obtain ⟨_, qg, rfl⟩ := dep hD 3 rfl rfl rfl rfl
                      clear hF hD
                      refine want_yes rfl rfl rfl qg ?_
                      go_simp
                      exact hK _ _ hC (Below.refl _ _) rfl
                    refine RegSteps.cons ?_ ?_
                    · intro _ az wz hC hF hD _ K hK
                      obtain ⟨_, q145, rfl⟩ := dep hD 3 rfl rfl rfl rfl
                      obtain ⟨_, q148, rfl⟩ := dep hD 6 rfl rfl rfl rfl
                      clear hF hD
                      refine want_none rfl ?_
                      go_simp
                      exact hK _ _ hC (Below.refl _ _) rfl
                    refine RegSteps.cons ?_ ?_
                    · intro _ az wz hC hF hD _ K hK
                      obtain ⟨_, q149, rfl⟩ := dep hD 7 rfl rfl rfl rfl
                      clear hF hD
                      refine want_none rfl ?_
                      go_simp
                      exact hK _ _ hC (Below.refl _ _) rfl
                    refine RegSteps.cons ?_ ?_
                    · intro _ az wz hC hF hD _ K hK
                      have q23 : az.tmps[23]? = some (.pointer (some ⟨ga, 0, none⟩)) := hF 23 rfl
                      obtain ⟨_, qg, rfl⟩ := dep hD 8 rfl rfl rfl rfl
                      obtain ⟨⟨z0, z1, z2, z3, z4, z5, z6, z7, z8, z9, z10, z11, z12, z13⟩, _⟩ := (HOa.out.on hC).all14
                      clear hF hD
                      refine want_yes rfl rfl rfl qg ?_
                      go_simp
                      exact hK _ _ hC (Below.refl _ _) rfl
                    refine RegSteps.cons ?_ ?_
                    · intro _ az wz hC hF hD _ K hK
                      obtain ⟨_, q151, rfl⟩ := dep hD 9 rfl rfl rfl rfl
                      obtain ⟨_, qg, rfl⟩ := dep hD 8 rfl rfl rfl rfl
                      clear hF hD
                      refine want_yes rfl rfl rfl qg ?_
                      go_simp
                      refine (HPl.out _ _ (HQa.out _ hC)).mono ?_
                      rintro e wy ⟨x, rfl, k, hx⟩
                      exact hK _ _ (Below.call hC k) k ⟨x, rfl, hx⟩
                    refine RegSteps.cons ?_ ?_
                    · intro _ az wz hC hF hD _ K hK
                      have q26 : az.tmps[26]? = some (.pointer (some ⟨gb, 0, none⟩)) := hF 26 rfl
                      obtain ⟨_, qg, rfl⟩ := dep hD 8 rfl rfl rfl rfl
                      obtain ⟨⟨z0, z1, z2, z3, z4, z5, z6, z7, z8, z9, z10, z11, z12, z13⟩, _⟩ := (HOb.out.on hC).all14
                      clear hF hD
                      refine want_yes rfl rfl rfl qg ?_
                      go_simp
                      exact hK _ _ hC (Below.refl _ _) rfl
                    refine RegSteps.cons ?_ ?_
                    · intro _ az wz hC hF hD _ K hK
                      obtain ⟨_, q152, x152, rfl, hx152⟩ := dep hD 10 rfl rfl rfl rfl
                      obtain ⟨_, q153, rfl⟩ := dep hD 11 rfl rfl rfl rfl
                      obtain ⟨_, qg, rfl⟩ := dep hD 8 rfl rfl rfl rfl
                      clear hF hD
                      refine want_yes rfl rfl rfl qg ?_
                      go_simp
                      refine (HSq.out _ _ _ hx152 (HQb.out _ hC)).mono ?_
                      rintro e wy ⟨rfl, k⟩
                      exact hK _ _ (Below.call hC k) k rfl
                    refine RegSteps.cons ?_ ?_
                    · intro _ az wz hC hF hD _ K hK
                      obtain ⟨_, q154, rfl⟩ := dep hD 12 rfl rfl rfl rfl
                      obtain ⟨_, qg, rfl⟩ := dep hD 8 rfl rfl rfl rfl
                      clear hF hD
                      refine want_yes rfl rfl rfl qg ?_
                      go_simp
                      exact hK _ _ hC (Below.refl _ _) rfl
                    refine RegSteps.cons ?_ ?_
                    · intro _ az wz hC hF hD _ K hK
                      obtain ⟨_, q150, rfl⟩ := dep hD 8 rfl rfl rfl rfl
                      obtain ⟨_, q155, rfl⟩ := dep hD 13 rfl rfl rfl rfl
                      clear hF hD
                      refine want_none rfl ?_
                      go_simp
                      exact hK _ _ hC (Below.refl _ _) rfl
                    exact RegSteps.nil
                  intro w7 hC7
                  rintro _ rfl _ rfl _ rfl _ rfl _ rfl _ rfl _ rfl _ rfl _ rfl _ rfl _ ⟨y152, rfl, _⟩ _ rfl _ rfl _ rfl _ rfl
                  simp only [FinOK, Act.put, List.setIfInBounds_toArray, List.set_cons_zero, List.set_cons_succ]
                  have HS := Lib.hid (And.intro (Below.call HS4.out.1 hC7) (HS4.out.2.on hC7))
                  clear hC7
                  go_wp2_with fail
                  go_roundw
                  case rel => exact ⟨i + 1, by omega, by go_num, HS.out.1, HS.out.2⟩
                  case measure => simp [intOf]; omega
                · subst heq
                  have HB := Lib.hid hB
                  clear hB hS
                  go_wp2_with fail
                  refine (HL0.out _).mono ?_
                  rintro e w9 ⟨rfl, k9⟩
                  have HF := Lib.hid (Below.call HB.out k9)
                  clear k9
                  go_wp2
                  go_returns
                  exact ⟨by simp, HF.out⟩
end Go.Proofs.YtmlpibdincfgbaaDoor
