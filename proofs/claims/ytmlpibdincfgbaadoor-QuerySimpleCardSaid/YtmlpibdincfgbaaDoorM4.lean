/-
  Chapter 38's reference: region.
-/
import Derived.Test.YtmlpibdincfgbaaDoorM3
import Derived.Test.YtmlpibdincfgbaaDoorK15
namespace Qy
theorem adv_le (s:St):(adv s).1.length≤s.1.length:=stp_le s.1
theorem failS_le (e:Int) (s:St):(failS e s).1.length≤s.1.length:=by
 unfold failS
 split <;> exact Nat.le_refl _
theorem needS_le (t:Bs) (s:St):(needS t s).1.length≤s.1.length:=by
 unfold needS
 split
 ·split
  ·exact Nat.le_refl _
  ·exact adv_le s
 ·exact failS_le 2 s
theorem numS_le (lo hi:Int) (s:St):(numS lo hi s).2.1.length≤s.1.length:=by
 unfold numS
 split
 ·split
  ·exact adv_le s
  ·exact failS_le 5 s
 ·exact failS_le 2 s
theorem pointS_le (x y:Int) (s:St):(pointS x y s).2.1.length≤s.1.length:=by
 unfold pointS
 exact Nat.le_trans (numS_le _ _ _) (Nat.le_trans (needS_le _ _) (numS_le _ _ _))
theorem nameS_le (s:St):(nameS s).2.1.length≤s.1.length:=by
 unfold nameS
 split
 ·exact failS_le 2 s
 split
 ·exact failS_le 6 s
 ·exact adv_le s
structure Lens (f:Nat):Prop where
 reg:∀ s,(rReg f s).2.1.length≤s.1.length
 join:∀ op acc s,(rJoin f op acc s).2.1.length≤s.1.length
 kids:∀ s,(rKids f s).2.1.length≤s.1.length
 more:∀ acc s,(rMore f acc s).2.1.length≤s.1.length
 item:∀ s,(rItem f s).2.1.length≤s.1.length
theorem lens:∀ f,Lens f
 | 0=>⟨fun s=>by rw [rReg];exact Nat.le_refl _,fun _ _ s=>by rw [rJoin];exact Nat.le_refl _,fun s=>by rw [rKids];exact Nat.le_refl _,fun _ s=>by rw [rMore];exact Nat.le_refl _,fun s=>by rw [rItem];exact Nat.le_refl _⟩
 | f+1=>by
  have IH:=lens f
  refine ⟨fun s=>?_,fun op acc s=>?_,fun s=>?_,fun acc s=>?_,fun s=>?_⟩
  ·rw [rReg]
   split
   ·exact Nat.le_trans (IH.join _ _ _) (IH.item s)
   ·exact IH.item s
  ·rw [rJoin]
   split
   ·exact Nat.le_trans (IH.join _ _ _) (Nat.le_trans (IH.item _) (adv_le s))
   ·exact Nat.le_refl _
  ·rw [rKids]
   simp only
   split
   ·exact Nat.le_trans (adv_le _) (needS_le _ s)
   ·exact Nat.le_trans (IH.more _ _) (Nat.le_trans (IH.reg _) (needS_le _ s))
  ·rw [rMore]
   split
   ·exact Nat.le_trans (IH.more _ _) (Nat.le_trans (IH.reg _) (adv_le s))
   ·exact needS_le _ s
  ·rw [rItem]
   repeat' split
   ·exact Nat.le_trans (needS_le _ _) (Nat.le_trans (IH.reg _) (adv_le s))
   ·exact adv_le s
   ·exact Nat.le_trans (nameS_le _) (adv_le s)
   ·exact Nat.le_trans (pointS_le _ _ _) (adv_le s)
   ·exact Nat.le_trans (pointS_le _ _ _) (Nat.le_trans (needS_le _ _) (Nat.le_trans (pointS_le _ _ _) (adv_le s)))
   ·exact Nat.le_trans (IH.kids _) (adv_le s)
   ·exact Nat.le_trans (IH.kids _) (adv_le s)
   ·exact Nat.le_trans (IH.item _) (adv_le s)
   ·exact failS_le 2 s
def FOK (k f:Nat) (s:St):Prop:=k≤f∧(s.2=none→3 * s.1.length+k≤f)
theorem adv_lt {s:St} (hg:Good s.1) (hne:see s≠[]) (hn:see s≠[32]):s.2=none∧(adv s).2=none∧(adv s).1.length<s.1.length:=by
 obtain ⟨h1,h2⟩:=see_none hn
 exact ⟨h1,h1,hg.stp_lt (by rw [← h2];exact hne)⟩
theorem reg_none {f:Nat} {s:St} (h:(rReg f s).2.2=none):s.2=none:=by
 obtain ⟨l,o⟩:=s
 cases o with
 | none=>rfl
 | some b=>rw [rReg_bad] at h;cases h
end Qy
namespace Go.Proofs.YtmlpibdincfgbaaDoor
open Go.RowKit
set_option linter.unusedSimpArgs false
set_option linter.unusedVariables false
theorem reg_infoF:(Tryd.prog.info? 42).map (fun i=>(i.zero,i.size,i.bytes))=some (some (.agg #[.int .i64 0,.string ⟨#[]⟩,.int .i64 0,.int .i64 0,.int .i64 0,.int .i64 0,.int .i64 0,.int .i64 0,.slice none 0 0]),9,96):=by kernel_rfl
def RegF (B r f:Nat):Prop:=∀ s w,RfAt B r s w→Qy.FOK 2 f s→Calls Tryd.prog 36 #[.pointer (some ⟨r,0,none⟩)] w (EndF B r w (Qy.rReg f s) (regV w))
def KidsF (B r f:Nat):Prop:=∀ s w,RfAt B r s w→Qy.FOK 1 f s→s.2=none→Calls Tryd.prog 87 #[.pointer (some ⟨r,0,none⟩)] w (EndF B r w (Qy.rKids f s) (listV w))
theorem RfAt.short {B r:Nat} {s:Qy.St} {w:World} (h:RfAt B r s w):s.1.length≤5000:=by
 obtain ⟨_,_,_,all,i,A,c,a,b,e1,hl,_⟩:=h
 rw [← e1,List.length_drop]
 omega
structure JF (B r g2 g5:Nat) (KK:Int) (N:Nat→Prop) (w wi:World) (A:Option Addr) (c:Nat) (acc:List Qy.Reg) (s2 s3:Qy.St) (D:Nat→Prop) (wz:World):Prop where
 at1:At1 r w wz
 sz:wi.heap.size≤wz.heap.size
 o2:Own wz g2 42 [.int .i64 0,.string ⟨#[]⟩,.int .i64 0,.int .i64 0,.int .i64 0,.int .i64 0,.int .i64 0,.int .i64 0,.slice none 0 0]
 o5:Own wz g5 42 [.int .i64 KK,.string ⟨#[]⟩,.int .i64 0,.int .i64 0,.int .i64 0,.int .i64 0,.int .i64 0,.int .i64 0,.slice A acc.length c]
 row:¬ D 5→KRow 42 N wz (.slice A acc.length c) acc
 rd:¬ D 3→RfAt B r s2 wz
 rd3:D 3→RfAt B r s3 wz
section
variable {B r g2 g5:Nat} {KK:Int} {N:Nat→Prop} {w wi:World} {A:Option Addr} {c:Nat} {acc:List Qy.Reg} {s2 s3:Qy.St} {D:Nat→Prop} {wz wy:World} {i:Nat}
theorem JF.on (h:JF B r g2 g5 KK N w wi A c acc s2 s3 D wz) (k:Below wz.heap.size wz wy) (h3:i≠3) (_:i≠5):JF B r g2 g5 KK N w wi A c acc s2 s3 (fun k=>D k∨k=i) wy:=
 ⟨h.at1.trans (At1.of_below k),Nat.le_trans h.sz k.size,h.o2.on k,h.o5.on k,fun hn=>(h.row fun hd=>hn (.inl hd)).on k,fun hn=>(h.rd fun hd=>hn (.inl hd)).on k,fun hd=>by
  rcases hd with hd | hd
  ·exact (h.rd3 hd).on k
  ·exact absurd hd.symm h3⟩
theorem JF.pure (h:JF B r g2 g5 KK N w wi A c acc s2 s3 D wz) (h3:i≠3) (h5:i≠5):JF B r g2 g5 KK N w wi A c acc s2 s3 (fun k=>D k∨k=i) wz:=h.on (Below.refl _ _) h3 h5
theorem JF.call (h:JF B r g2 g5 KK N w wi A c acc s2 s3 D wz) (k:At1 r wz wy) (hrd:RfAt B r s3 wy) (hN:¬ N r) (hg2:g2≠r) (hg5:g5≠r):JF B r g2 g5 KK N w wi A c acc s2 s3 (fun k=>D k∨k=3) wy:=
 ⟨h.at1.trans k,Nat.le_trans h.sz k.size,h.o2.at1 k hg2,h.o5.at1 k hg5,fun hn=>(h.row fun hd=>hn (.inl hd)).at1 k hN,fun hn=>absurd (.inr rfl) hn,fun _=>hrd⟩
theorem JF.push (h:JF B r g2 g5 KK N w wi A c acc s2 s3 D wz) (k:wz.grownBy wy (Value.slice A acc.length c).ownBlock) (hv:∀ g,(Value.slice A acc.length c).ownBlock=some g→w.heap.size≤g∧g≠g2∧g≠g5) (hB:B≤w.heap.size) :
 JF B r g2 g5 KK N w wi A c acc s2 s3 (fun k=>D k∨k=5) wy:=
 ⟨h.at1.row k (fun g e=>(hv g e).1),Nat.le_trans h.sz k.size,h.o2.grown k (fun e=>(hv g2 e.symm).2.1 rfl),h.o5.grown k (fun e=>(hv g5 e.symm).2.2 rfl),fun hn=>absurd (.inr rfl) hn,fun hn=>(h.rd fun hd=>hn (.inl hd)).row k (fun g e=>Nat.le_trans hB (hv g e).1),fun hd=>by
  rcases hd with hd | hd
  ·exact (h.rd3 hd).row k (fun g e=>Nat.le_trans hB (hv g e).1)
  ·cases hd⟩
end
end Go.Proofs.YtmlpibdincfgbaaDoor
