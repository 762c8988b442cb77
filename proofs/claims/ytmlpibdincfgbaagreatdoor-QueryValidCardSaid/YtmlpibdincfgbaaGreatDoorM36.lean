/-
  Package slices: what Sorted gives of the values of a slice of ints; Compact.
-/
import Derived.RangeFuncFrom
import Derived.RangeFuncNested
import Derived.RangeFuncBound
import Derived.RangeFuncCalls
import Derived.RangeFuncLeaves
import Derived.RangeFuncBox
import Derived.Shelf.Abstract
import Derived.Shelf.RegionOpen
import Derived.WalkKit
import Derived.OwnWalkIn
import Derived.TacticsInMore
import Derived.LoopNIn
import Derived.LoopIn
import Derived.Maps.AppendAt
import Derived.Lib.OwnBridge
import Derived.Test.YtmlpibdincfgbaaGreatDoorK18
import Derived.Test.YtmlpibdincfgbaaGreatDoorShelf2
namespace Go.Proofs.YtmlpibdincfgbaaGreatDoor
open Go.RowKit Go.Shelf
attribute [local go_sem] Oper.semAt_some
def By (n₀ ex:Nat) (W W':World):Prop:=∀ k,k<n₀→k≠ex→W'.heap[k]? = W.heap[k]?
theorem By.refl (n₀ ex:Nat) (W:World):By n₀ ex W W:=fun _ _ _=>rfl
theorem By.trans {n₀ ex:Nat} {a b c:World} (h:By n₀ ex a b) (k:By n₀ ex b c):By n₀ ex a c:=fun j hj he=>(k j hj he).trans (h j hj he)
theorem By.cell {n₀ ex:Nat} {a b:World} (h:By n₀ ex a b) {p:Addr} (hp:p.block<n₀) (he:p.block≠ex):b.cell? p=a.cell? p:=World.cell?_of_block (h p.block hp he)
theorem By.set_ {n₀ ex:Nat} (W:World) {p:Addr} (hp:p.block=ex) (u:Value):By n₀ ex W (W.setCell p u):=fun k _ he=>Below.heap_setCell W p u k (fun e=>he (by rw [e,hp]))
theorem By.of_below {n₀ ex:Nat} {a b:World} (h:Below n₀ a b):By n₀ ex a b:=fun k hk _=>h.block k hk
theorem byK_b {n₀ ex:Nat} {w:World} (hn:n₀≤w.heap.size) (W:World) (l:Nat) (o o':Obj) (hl:w.heap.size≤l) (h:W.heap[l]? = some o) (h1:o.isCells=false) (h2:o.isWalk=false):By n₀ ex W (W.putObj l o'):=By.of_below (belowK_b hn W l o o' hl h h1 h2)
set_option maxRecDepth 100000 in
set_option maxHeartbeats 1600000 in
theorem vals1_in (F:Fence) (n:Nat) (h7:F.fn 95) (hro:F.round=none) (hn:1≤n) (y Bs n₀ ex c:Nat) (A:Option Addr) (l:List Int) (hl:l.length≤100000000000000) (J Jx:List Int→World→Prop)
 (hY:∀ pre x W,J pre W→pre.length<l.length→YieldAt F (n - 1) Tryz.prog y #[.int .i64 x] W fun e W'=>
  (e=.returned (.bool true)∧J (pre++[x]) W'∧By n₀ ex W W')∨(e=.returned (.bool false)∧Jx (pre++[x]) W'))
 (W:World) (hBs:W.cell? ⟨Bs,0,none⟩=some (.slice A l.length c)) (hc:l=[]∨(∃ g off,A=some ⟨g,off,none⟩∧g<n₀∧g≠ex∧∀ (i:Nat) (z:Int),l[i]? = some z→W.cell? ⟨g,off+i,none⟩=some (.int .i64 z))) (h0:J [] W) :
 CallsIn F n Tryz.prog 95 #[.func (.yield y) #[] #[],.pointer (some ⟨Bs,0,none⟩)] W fun e W'=>(∃ v,e=.returned v)∧
  ((∃ ys,ys=l∧J ys W')∨(∃ pre,(∃ k,k≤l.length∧pre=l.take k)∧Jx pre W')):=by
 refine callsIn_of_wp Tryz.func95 rfl h7 ?_ hro
 simp only [Tryz.ntmps95,List.size_toArray,List.length_cons,List.length_nil,Nat.reduceAdd,Nat.reduceSub,Array.replicate_succ,Array.replicate_zero,List.push_toArray,List.append_toArray,List.nil_append,List.cons_append]
 gi_wp2
 gi_loopw [7] (fun i wr=>∃ k:Nat,k≤l.length∧i=.int .i64 (k:Int)∧J (l.take k) wr∧By n₀ ex W wr)
  (fun i _=>l.length - (intOf i).toNat)
 case atStart=>exact ⟨0,Nat.zero_le _,rfl,h0,By.refl _ _ _⟩
 case round=>
  obtain ⟨k,hk,rfl,hJs,hnx⟩:=hrel
  by_cases hlt:k<l.length
  ·obtain ⟨z,hz⟩:∃ z,l[k]? = some z:=⟨_,List.getElem?_eq_getElem hlt⟩
   obtain ⟨g,off,rfl,hg,hgx,hcc⟩:∃ g off,A=some ⟨g,off,none⟩∧g<n₀∧g≠ex∧∀ (i:Nat) (z:Int),l[i]? = some z→W.cell? ⟨g,off+i,none⟩=some (.int .i64 z):=by
    rcases hc with h | h
    ·rw [h] at hlt;cases hlt
    ·exact h
   have hcx:=(hnx.cell (p:=⟨g,off+k,none⟩) hg hgx).trans (hcc k z hz)
   obtain ⟨fn,tmps,assign,body,hy,hR⟩:=hY _ z wr hJs (by rw [List.length_take];omega)
   have k0:(0:Int)≤(k:Int):=by omega
   have k1:(k:Int)<(l.length:Int):=by omega
   have hll:(l.length:Int)≤100000000000000:=by omega
   have HT:Hid (l.take (k+1)=l.take k++[z]):=Lib.hid (by rw [List.take_add_one,hz];rfl)
   clear hcc hz
   gi_wp2
   refine hR.mono ?_
   rintro e W3 (⟨rfl,hJ3,hk3⟩ | ⟨rfl,hJx3⟩)
   ·gi_wp2
    go_roundw
    case rel=>exact ⟨k+1,by omega,by go_num,by rw [HT.out];exact hJ3,hnx.trans hk3⟩
    case measure=>simp [intOf];omega
   ·gi_wp2
    refine bodyPost_ret (results_none rfl _ _ _) rfl ?_
    exact ⟨⟨_,rfl⟩,.inr ⟨_,⟨k+1,by omega,HT.out.symm⟩,hJx3⟩⟩
  ·obtain rfl:k=l.length:=by omega
   rw [List.take_length] at hJs
   gi_wp2
   go_end0
   exact ⟨⟨_,rfl⟩,.inl ⟨_,rfl,hJs⟩⟩
theorem vals_stops (F:Fence) (n:Nat) (h7:F.fn 95) (hro:F.round=none) (hn:1≤n) (Bs n₀ ex:Nat) (A:Option Addr) (c:Nat) (l:List Int) (hl:l.length≤100000000000000) (w:World) (hBs:Bs<n₀) (hn₀:n₀≤w.heap.size)
 (hc:w.cell? ⟨Bs,0,none⟩=some (.slice A l.length c)) (S:Nat→Prop) (hS:∀ g,S g→g<n₀∧g≠ex) (hI:IntsAt w S A l) :
 SeqStopsK F n Tryz.prog 95 #[.pointer (some ⟨Bs,0,none⟩)] (fun x:Int=>#[Value.int .i64 x]) (By n₀ ex) (fun ys=>ys=l) (fun pre=>pre <+: l) l.length w:=fun y J Jx W hW _ _ hY h0=>by
 have hc':=(hW.cell (p:=⟨Bs,0,none⟩) (Nat.lt_of_lt_of_le hBs hn₀)).trans hc
 refine (vals1_in F n h7 hro hn y Bs n₀ ex c A l hl J Jx hY W hc' ?_ h0).mono ?_
 ·rcases hI with h | ⟨g,off,h1,h2,h3,h4⟩
  ·exact .inl h
  ·exact .inr ⟨g,off,h1,(hS g h2).1,(hS g h2).2,fun i z hz=>(hW.cell (p:=⟨g,off+i,none⟩) h3).trans (h4 i z hz)⟩
 ·rintro e W' ⟨he,⟨ys,rfl,hj⟩ | ⟨pre,⟨k,hk,rfl⟩,hj⟩⟩
  ·exact ⟨he,.inl ⟨_,rfl,hj⟩⟩
  ·exact ⟨he,.inr ⟨_,List.take_prefix k l,hj⟩⟩
theorem vint_infoV:(Tryz.prog.info? 3).map (fun i=>(i.zero,i.size,i.bytes))=some (some (.int .i64 0),1,8):=by kernel_rfl
theorem owns_sliceV {w:World} {B n:Nat} {v:Value} {e:TypeId} {sz:Nat} {xs:List Value} (h:w.ownsRow B e sz v n xs):∃ A c,v=.slice A n c:=by
 rcases h.2 with ⟨rfl,h0⟩ | ⟨g,cap,cur,rfl,_⟩
 ·exact ⟨none,0,by rw [h0]⟩
 ·exact ⟨_,_,rfl⟩
theorem owns_baseV {w:World} {B B':Nat} {e:TypeId} {size n:Nat} {v:Value} {xs:List Value} (h:w.ownsRow B e size v n xs) (hB:B'≤B):w.ownsRow B' e size v n xs:=by
 refine ⟨h.1,?_⟩
 rcases h.2 with h | ⟨g,cap,cur,h1,h2,h3⟩
 ·exact .inl h
 ·exact .inr ⟨g,cap,cur,h1,Nat.le_trans hB h2,h3⟩
theorem owns_blockV {w:World} {B:Nat} {e:TypeId} {size n:Nat} {v:Value} {xs:List Value} (h:w.ownsRow B e size v n xs):∀ k,v.ownBlock=some k→B≤k:=fun k hk=>(h.lt k hk).1
set_option maxRecDepth 100000 in
set_option maxHeartbeats 6400000 in
theorem appendSeq_any (A:Option Addr) (l:List Int) (hl:l.length≤1000000) (c bS:Nat) (S:Nat→Prop) (w:World) (hI:IntsAt w S A l) (hb:bS<w.heap.size) (hc:w.cell? ⟨bS,0,none⟩=some (.slice A l.length c)) :
 Calls Tryz.prog 125 #[.slice none 0 0,.func (.func 95) #[] #[.pointer (some ⟨bS,0,none⟩)]] w fun e w'=>∃ v,e=.returned v∧w'.ownsRow w.heap.size 3 1 v l.length (l.map i64)∧Below w.heap.size w w':=by
 obtain ⟨i0,hi,hz0,hz1,hz2⟩:=info_parts vint_infoV
 refine (callsIn_wide (n:=5)).1 ?_
 refine callsIn_of_wp_marks Tryz.func125 rfl trivial ?_ rfl
 simp only [Tryz.ntmps125,List.size_toArray,List.length_cons,List.length_nil,Nat.reduceAdd,Nat.reduceSub,Array.replicate_succ,Array.replicate_zero,List.push_toArray,List.append_toArray,List.nil_append,List.cons_append]
 gi_wp2
 have bO:Boxed (w.alloc (.cells #[.slice none 0 0] 22)) w.heap.size 22 (.slice none 0 0):=Boxed.new w _ _
 have hB0:Below w.heap.size w (w.alloc (.cells #[.slice none 0 0] 22)):=(Below.refl _ w).alloc (Nat.le_refl _) _
 refine wpIn_rangeFunc_ownF rfl (by omega) (gf:=95) (lb:=#[.pointer (some ⟨bS,0,none⟩)]) rfl trivial (enters_of Tryz.func95 (by kernel_rfl) rfl)
  (vals_stops Fence.wide (5 - 1) trivial rfl (by omega) bS (w.heap.size+1) w.heap.size A c l (by omega) _ (by omega) (by simp) ((hB0.cell (p:=⟨bS,0,none⟩) hb).trans hc) (fun g=>S g∧g<w.heap.size) (fun g hg=>⟨by have:=hg.2;omega,by have:=hg.2;omega⟩) (hI.keep hB0.size fun g hg hl=>⟨⟨hg,hl⟩,hB0.block g hl⟩)) By.trans (byK_b (by simp)) (Below.refl _ _) (fun _=>rfl)
  (fun pre W=>(∃ v,Boxed W w.heap.size 22 v∧W.ownsRow (w.heap.size+1) 3 1 v pre.length (pre.map i64)∧True)∧Below w.heap.size (w.alloc (.cells #[.slice none 0 0] 22)) W)
  (fun _ _ _=>False)
  (OwnFrom.and (Own.from (holdsRow_own (w.heap.size+1) w.heap.size 22 3 1 (fun pre:List Int=>pre.length) (fun pre:List Int=>pre.map i64) (fun _ _=>True)) _) (ownFrom_below (by simp only [World.size_alloc];omega) (by simp only [World.size_alloc];omega)))
  (fun _ _ _ _ _ hs _ _=>hs)
  ⟨⟨_,bO,World.ownsRow_nil _ _ _ _,trivial⟩,Below.refl _ _⟩
  (fun x=>{ tmps:=#[.slice none 0 0,.func (.func 95) #[] #[.pointer (some ⟨bS,0,none⟩)],.pointer (some ⟨w.heap.size,0,none⟩),undef,.slice none 0 0,.int .i64 x,.func (.func 95) #[] #[.pointer (some ⟨bS,0,none⟩)],.int .i64 x,undef,undef,undef,undef,undef],defers:=[] }) ?assign ?body ?done ?stop
 case assign=>
  intro l x W K hK
  gi_wp2
  exact hK
 case body=>
  rintro l0 pre x W ⟨⟨v,hv,hrow,_⟩,hB⟩ hlt
  have hc:=hv.cell
  have hsz:w.heap.size+1≤W.heap.size:=by have:=hB.size;simpa using this
  have hsz0:w.heap.size≤W.heap.size:=by omega
  gi_wp2_with (gi_at_builtin;refine wpListIn_append_own _ rfl _ _ 22 rfl (w.heap.size+1) 3 i0 (.int .i64 0) 1 8 Tryz.underlying22 hi hz0 hz1 hz2 rfl (by decide) _ _ _ rfl (hrow.alloc _) ⟨W.heap.size,0,none⟩ 1 1 [.int .i64 x] rfl rfl (cell_one_new _ _ _) (by simp [Value.oneCell']) (by unfold maxLen;omega) (by omega) (by simp;omega) ?_;intro v' w1 hown' hgrow _;obtain ⟨g',cap',rfl⟩:=ownsRow_succ hown';obtain ⟨hv1,hv2,hr2,hk2,hb2⟩:=hv.appended (by decide) (owns_baseV hrow (Nat.le_add_right _ 1)) hsz0 (Nat.le_refl _) (owns_baseV hown' (Nat.le_add_right _ 1)) hgrow;have hc1:=hv1.cell;have hf1:=hv1.frozen)
  refine ⟨hk2,?_,⟨_,hv2,?_,trivial⟩,hB.trans hb2⟩
  ·exact By.trans (By.of_below (Below.grown ((Below.refl (w.heap.size+1) W).alloc hsz _) hgrow (by simp;omega) (fun k hk=>owns_blockV hrow k hk))) (By.set_ (p:=⟨w.heap.size,0,none⟩) _ rfl _)
  ·have:=ownsRow_setCell_below hown' (a:=⟨w.heap.size,0,none⟩) (by show w.heap.size<w.heap.size+1;omega) (.slice (some ⟨g',0,none⟩) (pre.length+1) cap')
   simpa [i64] using this
 case done=>
  rintro D ys W hD rfl ⟨⟨v,hv,hrow,_⟩,hB⟩ hK
  have hc:=hv.cell
  have hne:v.ownBlock≠some D:=fun e'=>by
   rcases hrow.2 with ⟨h0,_⟩ | ⟨g,cap,cur,h0,_,hgb,_⟩
   ·rw [h0] at e';cases e'
   ·rw [h0] at e'
    obtain rfl:D=g:=by simpa [Value.ownBlock] using e'.symm
    rw [hgb] at hK;cases hK
  have hD2:w.heap.size+1≤D:=by simpa using hD
  gi_wp2
  refine ⟨by simp,.inl ⟨_,_,rfl,run_takeDeferred hK,?_⟩⟩
  refine ⟨_,results_tmp rfl _ _ _,v,rfl,(owns_baseV hrow (Nat.le_add_right _ 1)).kept (grownBy_putObj' _ D (.deferred none)) (.inr hne),(hB0.trans hB).trans (belowK_b (w:=w) (Nat.le_refl _) W D _ _ (by omega) hK rfl rfl)⟩
 case stop=>
  rintro D c pre W _ _ h _
  exact h.elim
set_option maxRecDepth 100000 in
theorem values_any (A:Option Addr) (n c:Nat) (w:World):Calls Tryz.prog 52 #[.slice A n c] w fun e w'=>e=.returned (.func (.func 95) #[] #[.pointer (some ⟨w.heap.size,0,none⟩)])∧Own w' w.heap.size 22 [.slice A n c]∧Below w.heap.size w w':=by
 have hmf:∀ (fn:Fn) (first cap:Array Value) (w:World),(Instr.makeFunc fn first cap).run Tryz.prog w=.ok (.func fn first cap) w:=fun _ _ _ _=>rfl
 go_enter Tryz.func52,Tryz.ntmps52
 go_upto_region 1 with fail
 refine wp_new1 fun W0 hA hB=>?_
 have HX:=Lib.hid (And.intro hA hB)
 clear hA hB
 go_wp2
 go_returns
 exact ⟨rfl,HX.out.1,HX.out.2⟩
set_option maxRecDepth 100000 in
theorem collect_any (A:Option Addr) (l:List Int) (hl:l.length≤1000000) (c bS:Nat) (S:Nat→Prop) (w:World) (hI:IntsAt w S A l) (hb:bS<w.heap.size) (hc:w.cell? ⟨bS,0,none⟩=some (.slice A l.length c)) :
 Calls Tryz.prog 93 #[.func (.func 95) #[] #[.pointer (some ⟨bS,0,none⟩)]] w fun e w'=>∃ v,e=.returned v∧w'.ownsRow w.heap.size 3 1 v l.length (l.map i64)∧Below w.heap.size w w':=by
 have HC:=Lib.hid (appendSeq_any A l hl c bS S w hI hb hc)
 clear hI hb hc hl
 go_enter Tryz.func93,Tryz.ntmps93
 go_wp2_with fail
 refine HC.out.mono ?_
 rintro e w1 ⟨v,rfl,hrow,hB⟩
 obtain ⟨A1,c1,rfl⟩:=owns_sliceV hrow
 have HX:=Lib.hid (And.intro hrow hB)
 clear hrow hB
 go_wp2
 go_returns
 exact ⟨_,rfl,HX.out.1,HX.out.2⟩
end Go.Proofs.YtmlpibdincfgbaaGreatDoor
