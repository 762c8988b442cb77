/-
  Package query: Parse.
-/
import Derived.Test.YtmlpibdincfgbaaDoorK18
import Derived.Test.YtmlpibdincfgbaaDoorK19
import Derived.Test.YtmlpibdincfgbaaDoorK20
import Derived.Test.YtmlpibdincfgbaaDoorRI
namespace Go.Proofs.YtmlpibdincfgbaaDoor
open Go.RowKit Go.Shelf
set_option linter.unusedSimpArgs false
set_option linter.unusedVariables false
attribute [local go_sem] Oper.semAt_some
set_option maxRecDepth 100000 in
set_option maxHeartbeats 1600000 in
theorem region_any (R:Qy.Reg) (hn:Qy.nodes R≤1000000) (v:Value) (w:World) (hv:IsReg w R v):Calls Tryd.prog 33 #[v] w (RetInt w (Qy.regE R)):=by
 have hi:=hv
 obtain ⟨cs,rfl,hR⟩:=hv
 obtain ⟨A8,c8,rfl,_⟩:=hR.cells
 obtain ⟨n0,s1,n2,n3,n4,n5,n6,n7,l8,e⟩:=regCells_parts R A8 c8
 rw [e] at hi ⊢
 have hnest:=Qy.nest_nodes _ R (Nat.le_refl _)
 have HSz:=Lib.hid fun v u h=>size_any _ R hn (Nat.le_refl _) v u h
 have HNd:=Lib.hid fun v u h=>node_any _ R hn (Nat.le_refl _) v u h
 obtain ⟨E,hE⟩:∃ E,Qy.regE R=E:=⟨_,rfl⟩
 rw [hE]
 unfold Qy.regE at hE
 obtain ⟨nn,hnn⟩:∃ nn,Qy.nodes R=nn:=⟨_,rfl⟩
 obtain ⟨nd,hnd⟩:∃ nd,Qy.nest R=nd:=⟨_,rfl⟩
 obtain ⟨ne,hne⟩:∃ ne,Qy.nodeE R=ne:=⟨_,rfl⟩
 rw [hnn,hnd] at HSz hnest
 rw [hne] at HNd
 rw [hnn,hnd,hne] at hE
 rw [hnn] at hn
 have HE:=Lib.hid hE
 clear e hR hE hnn hnd hne
 go_enter Tryd.func33,Tryd.ntmps33
 go_upto_region 1 with fail
 refine wp_new1 fun W0 hA hB=>?_
 have hi0:IsReg W0 R (.agg #[.int .i64 n0,.string s1,.int .i64 n2,.int .i64 n3,.int .i64 n4,.int .i64 n5,.int .i64 n6,.int .i64 n7,.slice A8 l8 c8]):=by
  obtain ⟨cs,e1,h1⟩:=hi
  exact ⟨cs,e1,h1.on hB⟩
 obtain ⟨⟨y0,y1,y2,y3,y4,y5,y6,y7,y8⟩,_⟩:=hA.all9
 go_wp2_with fail
 refine (HSz.out _ _ hi0).mono ?_
 rintro e w1 ⟨rfl,k1⟩
 have hB1:=Below.call hB k1
 have hA1:=hA.on k1
 have hi1:IsReg w1 R (.agg #[.int .i64 n0,.string s1,.int .i64 n2,.int .i64 n3,.int .i64 n4,.int .i64 n5,.int .i64 n6,.int .i64 n7,.slice A8 l8 c8]):=by
  obtain ⟨cs,e1,h1⟩:=hi0
  exact ⟨cs,e1,h1.on k1⟩
 clear hA hB hi0 k1 y0 y1 y2 y3 y4 y5 y6 y7 y8 hi
 by_cases h1:256<nn
 ·have h2:(256:Int)<(nn:Int):=by omega
  have HF:Hid (E=4):=Lib.hid (by rw [← HE.out,if_pos (.inl h1)])
  have HB:=Lib.hid hB1
  clear hA1 hi1 hB1
  go_wp2
  go_returns
  exact ⟨by rw [HF.out];simp,HB.out⟩
 have h2:¬ (256:Int)<(nn:Int):=by omega
 by_cases h3:16<nd
 ·have h4:(16:Int)<(nd:Int):=by omega
  have HF:Hid (E=4):=Lib.hid (by rw [← HE.out,if_pos (.inr h3)])
  have HB:=Lib.hid hB1
  clear hA1 hi1 hB1
  go_wp2
  go_returns
  exact ⟨by rw [HF.out];simp,HB.out⟩
 have h4:¬ (16:Int)<(nd:Int):=by omega
 have HF:Hid (E=ne):=Lib.hid (by rw [← HE.out,if_neg (by omega)])
 obtain ⟨⟨y0,y1,y2,y3,y4,y5,y6,y7,y8⟩,_⟩:=hA1.all9
 have HB:=Lib.hid (And.intro hB1 hi1)
 clear hA1 hi1 hB1
 go_wp2_with fail
 refine (HNd.out _ _ HB.out.2).mono ?_
 rintro e w2 ⟨rfl,k2⟩
 have HB2:=Lib.hid (Below.call HB.out.1 k2)
 clear k2
 go_wp2
 go_returns
 exact ⟨by rw [HF.out];simp,HB2.out⟩
theorem query_fine {f:Nat} {l l':List Qy.Tok} {q:Qy.Qry} (hg:Qy.Good l) (h:Qy.pQuery f l=.ok q l'):Qy.nodeE q.reg=0∧Qy.nodes q.reg≤l.length:=by
 unfold Qy.pQuery at h
 obtain ⟨_,l1,h1,h⟩:=Qy.Res.on_ok h
 obtain ⟨_,l2,h2,h⟩:=Qy.Res.on_ok h
 obtain ⟨_,l3,h3,h⟩:=Qy.Res.on_ok h
 obtain ⟨R,l4,h4,h⟩:=Qy.Res.on_ok h
 obtain ⟨_,l5,h5,h⟩:=Qy.Res.on_ok h
 obtain ⟨_,l6,h6,h⟩:=Qy.Res.on_ok h
 obtain ⟨_,l7,h7,h⟩:=Qy.Res.on_ok h
 obtain ⟨_,l8,h8,h⟩:=Qy.Res.on_ok h
 obtain ⟨_,l9,h9,h⟩:=Qy.Res.on_ok h
 obtain ⟨_,l10,h10,h⟩:=Qy.Res.on_ok h
 obtain ⟨_,l11,h11,h⟩:=Qy.Res.on_ok h
 injection h with e1 e2
 subst e1
 have k1:=Qy.need_ok hg (by simp) h1
 have k2:=(Qy.pNum_ok k1.1 h2).1
 have k3:=Qy.need_ok k2.1 (by simp) h3
 obtain ⟨j1,j2⟩:=(Qy.fines f).reg _ _ _ k3.1 h4
 have:=k1.2
 have:=k2.2
 have:=k3.2
 exact ⟨j1,by simp only;omega⟩
theorem Own.put16 {w:World} {b2 b3 b4:Nat} {t2 t3 t4:TypeId} {z0 z1 z2 z3 z4 z5 z6 z7 z8 z9 z10 z11 z12 z13 x0 x1 x2 x3 x4 x5 x6 x7 x8 x9 x10 x11 x12 x13 y0 u0 y u:Value} (h2:Own w b2 t2 [z0,z1,z2,z3,z4,z5,z6,z7,z8,z9,z10,z11,z12,z13]) (h3:Own w b3 t3 [y0]) (h4:Own w b4 t4 [u0]) (n3:b2<b3) (n4:b3<b4) :
 (Own ((((((((((((((((w.setCell ⟨b2,0,none⟩ x0).setCell ⟨b2,1,none⟩ x1).setCell ⟨b2,2,none⟩ x2).setCell ⟨b2,3,none⟩ x3).setCell ⟨b2,4,none⟩ x4).setCell ⟨b2,5,none⟩ x5).setCell ⟨b2,6,none⟩ x6).setCell ⟨b2,7,none⟩ x7).setCell ⟨b2,8,none⟩ x8).setCell ⟨b2,9,none⟩ x9).setCell ⟨b2,10,none⟩ x10).setCell ⟨b2,11,none⟩ x11).setCell ⟨b2,12,none⟩ x12).setCell ⟨b2,13,none⟩ x13).setCell ⟨b3,0,none⟩ y).setCell ⟨b4,0,none⟩ u) b2 t2 [x0,x1,x2,x3,x4,x5,x6,x7,x8,x9,x10,x11,x12,x13]∧Own ((((((((((((((((w.setCell ⟨b2,0,none⟩ x0).setCell ⟨b2,1,none⟩ x1).setCell ⟨b2,2,none⟩ x2).setCell ⟨b2,3,none⟩ x3).setCell ⟨b2,4,none⟩ x4).setCell ⟨b2,5,none⟩ x5).setCell ⟨b2,6,none⟩ x6).setCell ⟨b2,7,none⟩ x7).setCell ⟨b2,8,none⟩ x8).setCell ⟨b2,9,none⟩ x9).setCell ⟨b2,10,none⟩ x10).setCell ⟨b2,11,none⟩ x11).setCell ⟨b2,12,none⟩ x12).setCell ⟨b2,13,none⟩ x13).setCell ⟨b3,0,none⟩ y).setCell ⟨b4,0,none⟩ u) b3 t3 [y]∧Own ((((((((((((((((w.setCell ⟨b2,0,none⟩ x0).setCell ⟨b2,1,none⟩ x1).setCell ⟨b2,2,none⟩ x2).setCell ⟨b2,3,none⟩ x3).setCell ⟨b2,4,none⟩ x4).setCell ⟨b2,5,none⟩ x5).setCell ⟨b2,6,none⟩ x6).setCell ⟨b2,7,none⟩ x7).setCell ⟨b2,8,none⟩ x8).setCell ⟨b2,9,none⟩ x9).setCell ⟨b2,10,none⟩ x10).setCell ⟨b2,11,none⟩ x11).setCell ⟨b2,12,none⟩ x12).setCell ⟨b2,13,none⟩ x13).setCell ⟨b3,0,none⟩ y).setCell ⟨b4,0,none⟩ u) b4 t4 [u])∧Below b2 w ((((((((((((((((w.setCell ⟨b2,0,none⟩ x0).setCell ⟨b2,1,none⟩ x1).setCell ⟨b2,2,none⟩ x2).setCell ⟨b2,3,none⟩ x3).setCell ⟨b2,4,none⟩ x4).setCell ⟨b2,5,none⟩ x5).setCell ⟨b2,6,none⟩ x6).setCell ⟨b2,7,none⟩ x7).setCell ⟨b2,8,none⟩ x8).setCell ⟨b2,9,none⟩ x9).setCell ⟨b2,10,none⟩ x10).setCell ⟨b2,11,none⟩ x11).setCell ⟨b2,12,none⟩ x12).setCell ⟨b2,13,none⟩ x13).setCell ⟨b3,0,none⟩ y).setCell ⟨b4,0,none⟩ u)∧∀ k,b4<k→((((((((((((((((w.setCell ⟨b2,0,none⟩ x0).setCell ⟨b2,1,none⟩ x1).setCell ⟨b2,2,none⟩ x2).setCell ⟨b2,3,none⟩ x3).setCell ⟨b2,4,none⟩ x4).setCell ⟨b2,5,none⟩ x5).setCell ⟨b2,6,none⟩ x6).setCell ⟨b2,7,none⟩ x7).setCell ⟨b2,8,none⟩ x8).setCell ⟨b2,9,none⟩ x9).setCell ⟨b2,10,none⟩ x10).setCell ⟨b2,11,none⟩ x11).setCell ⟨b2,12,none⟩ x12).setCell ⟨b2,13,none⟩ x13).setCell ⟨b3,0,none⟩ y).setCell ⟨b4,0,none⟩ u).heap[k]? = w.heap[k]?:=by
 obtain ⟨hO,hk⟩:=h2.put14 (x0:=x0) (x1:=x1) (x2:=x2) (x3:=x3) (x4:=x4) (x5:=x5) (x6:=x6) (x7:=x7) (x8:=x8) (x9:=x9) (x10:=x10) (x11:=x11) (x12:=x12) (x13:=x13)
 have h3':=h3.at1 hk (Nat.ne_of_gt n3)
 have h4':=h4.at1 hk (by omega)
 generalize hW:((((((((((((((w.setCell ⟨b2,0,none⟩ x0).setCell ⟨b2,1,none⟩ x1).setCell ⟨b2,2,none⟩ x2).setCell ⟨b2,3,none⟩ x3).setCell ⟨b2,4,none⟩ x4).setCell ⟨b2,5,none⟩ x5).setCell ⟨b2,6,none⟩ x6).setCell ⟨b2,7,none⟩ x7).setCell ⟨b2,8,none⟩ x8).setCell ⟨b2,9,none⟩ x9).setCell ⟨b2,10,none⟩ x10).setCell ⟨b2,11,none⟩ x11).setCell ⟨b2,12,none⟩ x12).setCell ⟨b2,13,none⟩ x13)=Wa at hO hk h3' h4' ⊢
 have k3:=At1.set_ (r:=b3) Wa (p:=⟨b3,0,none⟩) rfl y
 have o3:=h3'.set_ 0 y
 have o2:=hO.at1 k3 (Nat.ne_of_lt n3)
 have o4:=h4'.at1 k3 (Nat.ne_of_gt n4)
 generalize hW2:Wa.setCell ⟨b3,0,none⟩ y=Wb at k3 o3 o2 o4 ⊢
 have k4:=At1.set_ (r:=b4) Wb (p:=⟨b4,0,none⟩) rfl u
 refine ⟨⟨o2.at1 k4 (by omega),o3.at1 k4 (Nat.ne_of_lt n4),o4.set_ 0 u⟩,((hk.below (Nat.le_of_lt h2.lt)).trans ((k3.below (Nat.le_of_lt h3'.lt)).mono (Nat.le_of_lt n3))).trans ((k4.below (Nat.le_of_lt o4.lt)).mono (by omega)),fun k hk4=>?_⟩
 rcases Nat.lt_or_ge k w.heap.size with hlt | hge
 ·exact ((k4.heap (Nat.lt_of_lt_of_le hlt (Nat.le_trans hk.size k3.size)) (by omega)).trans (k3.heap (Nat.lt_of_lt_of_le hlt hk.size) (by omega))).trans (hk.heap hlt (by omega))
 ·have e1:=Below.heap_setCell Wb ⟨b4,0,none⟩ u k (show k≠b4 by omega)
  have e2:=Below.heap_setCell Wa ⟨b3,0,none⟩ y k (show k≠b3 by omega)
  rw [hW2] at e2
  rw [e1,e2,← hW]
  rw [Below.heap_setCell _ ⟨b2,13,none⟩ _ k (show k≠b2 by omega),Below.heap_setCell _ ⟨b2,12,none⟩ _ k (show k≠b2 by omega),Below.heap_setCell _ ⟨b2,11,none⟩ _ k (show k≠b2 by omega),Below.heap_setCell _ ⟨b2,10,none⟩ _ k (show k≠b2 by omega),Below.heap_setCell _ ⟨b2,9,none⟩ _ k (show k≠b2 by omega),Below.heap_setCell _ ⟨b2,8,none⟩ _ k (show k≠b2 by omega),Below.heap_setCell _ ⟨b2,7,none⟩ _ k (show k≠b2 by omega),Below.heap_setCell _ ⟨b2,6,none⟩ _ k (show k≠b2 by omega),Below.heap_setCell _ ⟨b2,5,none⟩ _ k (show k≠b2 by omega),Below.heap_setCell _ ⟨b2,4,none⟩ _ k (show k≠b2 by omega),Below.heap_setCell _ ⟨b2,3,none⟩ _ k (show k≠b2 by omega),Below.heap_setCell _ ⟨b2,2,none⟩ _ k (show k≠b2 by omega),Below.heap_setCell _ ⟨b2,1,none⟩ _ k (show k≠b2 by omega),Below.heap_setCell _ ⟨b2,0,none⟩ _ k (show k≠b2 by omega)]
def ParseR (w:World) (r:Qy.Qry × Nat × Int) (e:Ending) (w':World):Prop:=∃ v,e=.returned (.tuple #[v,.int .i64 (r.2.1:Int),.int .i64 r.2.2])∧qryV w r.1 v w'∧Below w.heap.size w w'
theorem qryV.lit {w0 w:World} {q:Qy.Qry} {v:Value} (h:qryV w0 q v w):∃ n0 s1 n2 n3 n4 n5 n6 n7 A8 l8 c8 vA vl vc,v=.agg #[.int .i64 q.kind,.int .i64 n0,.string s1,.int .i64 n2,.int .i64 n3,.int .i64 n4,.int .i64 n5,.int .i64 n6,.int .i64 n7,.slice A8 l8 c8,.int .i64 q.vkind,.slice vA vl vc,.int .i64 q.day,.int .i64 q.scale]∧vl=q.offs.length∧
 RegAt w (New w0) [.int .i64 n0,.string s1,.int .i64 n2,.int .i64 n3,.int .i64 n4,.int .i64 n5,.int .i64 n6,.int .i64 n7,.slice A8 l8 c8] q.reg∧IntsAt w (New w0) vA q.offs∧q.offs.length≤vc∧vc≤maxLen:=by
 obtain ⟨cs,A,c,rfl,h9,hR,hI,h1,h2⟩:=h
 obtain ⟨A8,c8,rfl,_⟩:=hR.cells
 obtain ⟨n0,s1,n2,n3,n4,n5,n6,n7,l8,e⟩:=regCells_parts q.reg A8 c8
 rw [e] at hR ⊢
 exact ⟨n0,s1,n2,n3,n4,n5,n6,n7,A8,l8,c8,A,_,c,rfl,rfl,hR,hI,h1,h2⟩
theorem qryV.none_ (w0 w:World):qryV w0 Qy.Qry.none (.agg zq.toArray) w:=
 ⟨[.int .i64 0,.string ⟨#[]⟩,.int .i64 0,.int .i64 0,.int .i64 0,.int .i64 0,.int .i64 0,.int .i64 0,.slice none 0 0],none,0,rfl,rfl,RegAt.leaf 0 [] 0 0 0 0 0 0,.inl rfl,Nat.le_refl _,Nat.zero_le _⟩
theorem toks_len:∀ (n:Nat) (s:Qy.Bs) (i:Nat),s.length≤n→(Qy.toks s i).length≤s.length+1:=by
 intro n
 induction n with
 | zero=>
  intro s i h
  obtain rfl:s=[]:=List.eq_nil_of_length_eq_zero (by omega)
  rw [Qy.toks]
  simp
 | succ n ih=>
  intro s i h
  match s,h with
  | [],_=>rw [Qy.toks];simp
  | c :: s,h=>
   rw [Qy.toks]
   simp only [List.length_cons] at h
   split
   ·have:=ih s (i+1) (by omega)
    simp only [List.length_cons]
    omega
   ·have hd:=Qy.drop_le (Qy.more c) s
    have:=ih (s.dropWhile (Qy.more c)) (i+1+(s.takeWhile (Qy.more c)).length) (by omega)
    simp only [List.length_cons]
    omega
theorem tok_info:(Tryd.prog.info? 80).map (fun i=>(i.zero,i.size,i.bytes))=some (some (.agg #[.string ⟨#[]⟩,.int .i64 0]),2,24):=by kernel_rfl
def tcells (l:List Qy.Tok):List Value:=l.flatMap fun t=>[.string (bs t.text),.int .i64 (t.at_:Int)]
theorem tcells_snoc (l:List Qy.Tok) (t:Qy.Tok):tcells (l++[t])=tcells l++[.string (bs t.text),.int .i64 (t.at_:Int)]:=by simp [tcells]
theorem tcells_at:∀ (l:List Qy.Tok) (j:Nat) (t:Qy.Tok),l[j]? = some t→(tcells l)[j * 2]? = some (.string (bs t.text))∧(tcells l)[j * 2+1]? = some (.int .i64 (t.at_:Int))
 | [],j,t,h=>by simp at h
 | x :: l,0,t,h=>by
  simp only [List.getElem?_cons_zero,Option.some.injEq] at h
  subst h
  exact ⟨rfl,rfl⟩
 | x :: l,j+1,t,h=>by
  have:=tcells_at l j t (by simpa using h)
  rw [show (j+1) * 2=j * 2+2 by omega,show j * 2+2+1=(j * 2+1)+2 by omega]
  exact this
structure PB (w:World) (b2 b3 b4 r g5 bS:Nat) (s:Qy.Bs) (v:Value) (W:World):Prop where
 ord:w.heap.size≤b2∧b2<b3∧b3<b4∧b4<r∧r<g5∧g5<bS
 o2:Own W b2 36 zq
 o3:Own W b3 3 [.int .i64 0]
 o4:Own W b4 37 [.int .i64 0]
 oR:Own W r 83 [.string ⟨#[]⟩,.int .i64 0,v]
 o5:Own W g5 78 [.pointer (some ⟨r,0,none⟩)]
 oS:Own W bS 9 [.string (bs s)]
 bel:Below w.heap.size w W
section
variable {w W W':World} {b2 b3 b4 r g5 bS:Nat} {s:Qy.Bs} {v v':Value} {row:Option Nat}
theorem PB.keep (h:PB w b2 b3 b4 r g5 bS s v W) (hg:W.grownBy W' row) (hr:∀ k,row=some k→bS<k):PB w b2 b3 b4 r g5 bS s v W':=by
 have ho:=h.ord
 exact ⟨ho,h.o2.grown hg (fun e=>by have:=hr _ e.symm;omega),h.o3.grown hg (fun e=>by have:=hr _ e.symm;omega),h.o4.grown hg (fun e=>by have:=hr _ e.symm;omega),h.oR.grown hg (fun e=>by have:=hr _ e.symm;omega),h.o5.grown hg (fun e=>by have:=hr _ e.symm;omega),h.oS.grown hg (fun e=>by have:=hr _ e.symm;omega),h.bel.grown hg h.bel.size (fun k e=>by have:=hr _ e;omega)⟩
theorem grown_below (h:Below W.heap.size W W'):W.grownBy W' none:=⟨h.os,h.tape,h.output,h.size,fun k hk _=>h.block k hk⟩
theorem PB.on (h:PB w b2 b3 b4 r g5 bS s v W) (k:Below W.heap.size W W'):PB w b2 b3 b4 r g5 bS s v W':=h.keep (grown_below k) (fun _ e=>by cases e)
theorem PB.rest (h:PB w b2 b3 b4 r g5 bS s v W) (v':Value):PB w b2 b3 b4 r g5 bS s v' (W.setCell ⟨r,2,none⟩ v'):=by
 have ho:=h.ord
 have k:=At1.set_ (r:=r) W (p:=⟨r,2,none⟩) rfl v'
 exact ⟨ho,h.o2.at1 k (by omega),h.o3.at1 k (by omega),h.o4.at1 k (by omega),h.oR.set_ 2 v',h.o5.at1 k (by omega),h.oS.at1 k (by omega),h.bel.setCell (p:=⟨r,2,none⟩) (by show w.heap.size≤r;omega) _⟩
theorem owns_grown {B n:Nat} {e:TypeId} {sz:Nat} {xs:List Value} (h:W.ownsRow B e sz v n xs) (hg:W.grownBy W' row) (hr:∀ k,row=some k→v.ownBlock≠some k):W'.ownsRow B e sz v n xs:=by
 refine ⟨h.1,?_⟩
 rcases h.2 with h | ⟨g,cap,cur,e1,k2,k3,k4⟩
 ·exact .inl h
 ·exact .inr ⟨g,cap,cur,e1,k2,(hg.block g (heap_lt k3) (fun e2=>hr g e2.symm (by rw [e1];rfl))).trans k3,k4⟩
def PI (w:World) (M b2 b3 b4 r g5 bS:Nat) (s:Qy.Bs) (pre:List Qy.Tok) (W:World):Prop:=∃ v,PB w b2 b3 b4 r g5 bS s v W∧W.ownsRow (bS+1) 80 2 v pre.length (tcells pre)∧M≤W.heap.size
theorem PI.from_ {B M:Nat} (hB:bS<B):OwnFrom B (PI w M b2 b3 b4 r g5 bS s):=by
 rintro pre A C row ⟨v,h1,h2,h3⟩ hg hr
 refine ⟨v,h1.keep hg (fun k e=>Nat.lt_of_lt_of_le hB (hr k e).1),owns_grown h2 hg (fun k e e2=>?_),Nat.le_trans h3 hg.size⟩
 obtain ⟨_,o,ho,hc⟩:=hr k e
 rcases h2.2 with ⟨e1,_⟩ | ⟨g,cap,cur,e1,k2,k3,k4⟩
 ·rw [e1] at e2;cases e2
 ·rw [e1] at e2
  cases e2
  rw [k3] at ho
  cases ho
  cases hc
theorem PI.on {M:Nat} {pre:List Qy.Tok} (h:PI w M b2 b3 b4 r g5 bS s pre W) (k:Below W.heap.size W W'):PI w M b2 b3 b4 r g5 bS s pre W':=by
 obtain ⟨v,h1,h2,h3⟩:=h
 exact ⟨v,h1.on k,owns_grown h2 (grown_below k) (fun _ e=>by cases e),Nat.le_trans h3 k.size⟩
end
structure JT (w:World) (b2 b3 b4 r g5 bS gx:Nat) (s:Qy.Bs) (A:Option Addr) (c:Nat) (pre:List Qy.Tok) (x:Qy.Tok) (W:World) (D:Nat→Prop) (wz:World):Prop where
 pb:PB w b2 b3 b4 r g5 bS s (.slice A pre.length c) wz
 ox:Own wz gx 80 [.string (bs x.text),.int .i64 (x.at_:Int)]
 row:¬ D 7→wz.ownsRow (bS+1) 80 2 (.slice A pre.length c) pre.length (tcells pre)
 kf:KeepsOthers W wz
 sz:W.heap.size≤wz.heap.size
section
variable {w:World} {b2 b3 b4 r g5 bS gx:Nat} {s:Qy.Bs} {A:Option Addr} {c:Nat} {pre:List Qy.Tok} {x:Qy.Tok} {W:World} {D:Nat→Prop} {wz wy:World} {i:Nat}
theorem JT.on (h:JT w b2 b3 b4 r g5 bS gx s A c pre x W D wz) (k:Below wz.heap.size wz wy):JT w b2 b3 b4 r g5 bS gx s A c pre x W (fun k=>D k∨k=i) wy:=
 ⟨h.pb.on k,h.ox.on k,fun hn=>owns_grown (h.row fun hd=>hn (.inl hd)) (grown_below k) (fun _ e=>by cases e),h.kf.trans (KeepsOthers.of_grownBy (grown_below k) fun _ _ e=>by cases e),Nat.le_trans h.sz k.size⟩
theorem JT.pure (h:JT w b2 b3 b4 r g5 bS gx s A c pre x W D wz):JT w b2 b3 b4 r g5 bS gx s A c pre x W (fun k=>D k∨k=i) wz:=h.on (Below.refl _ _)
theorem JT.push (h:JT w b2 b3 b4 r g5 bS gx s A c pre x W D wz) (hn:¬ D 7) (hx:(Value.slice A pre.length c).ownBlock≠some gx) (k:wz.grownBy wy (Value.slice A pre.length c).ownBlock):JT w b2 b3 b4 r g5 bS gx s A c pre x W (fun k=>D k∨k=7) wy:=by
 have hrow:=h.row hn
 have hb:∀ j,(Value.slice A pre.length c).ownBlock=some j→bS<j:=fun j e=>by
  rcases hrow.2 with ⟨e1,_⟩ | ⟨g,cap,cur,e1,k2,_⟩
  ·rw [e1] at e;cases e
  ·rw [e1] at e;cases e;exact k2
 refine ⟨h.pb.keep k hb,h.ox.grown k hx.symm,fun hn=>absurd (.inr rfl) hn,h.kf.trans (KeepsOthers.of_grownBy k fun j o e ho=>?_),Nat.le_trans h.sz k.size⟩
 rcases hrow.2 with ⟨e1,_⟩ | ⟨g,cap,cur,e1,k2,k3,_⟩
 ·rw [e1] at e;cases e
 ·rw [e1] at e
  cases e
  rw [k3] at ho
  cases ho
  rfl
end
def sT6 (x:Qy.Tok) (W:World):SpecE:=sE fun v w=>∃ a:Nat,v=.slice (some ⟨a,0,none⟩) 1 1∧W.heap.size≤a∧a<w.heap.size∧∀ j u,[Value.string (bs x.text),.int .i64 (x.at_:Int)][j]? = some u→w.cell? ((⟨a,0,none⟩:Addr).add j)=some u
def sT7 (bS:Nat) (pre:List Qy.Tok) (x:Qy.Tok):SpecE:=sE fun v w=>∃ x7:Value,v=x7∧∃ A c,x7=.slice A (pre.length+1) c∧w.ownsRow (bS+1) 80 2 x7 (pre.length+1) (tcells (pre++[x]))
theorem UpD10 {a0 a1 a2 a3 a4 a5 a8 a9:Value} {s6 s7:SpecE} {D:Nat→Prop} {w w':World} (u6:D 6→∀ x,s6.p x w→s6.p x w') (u7:D 7→∀ x,s7.p x w→s7.p x w') :
 UpD [Spec.eq a0,Spec.eq a1,Spec.eq a2,Spec.eq a3,Spec.eq a4,Spec.eq a5,s6,s7,Spec.eq a8,Spec.eq a9] D w w':=by
 intro k s hD hs
 match k,hD,hs with
 | 0,_,hs=>cases hs;exact fun _ h=>h
 | 1,_,hs=>cases hs;exact fun _ h=>h
 | 2,_,hs=>cases hs;exact fun _ h=>h
 | 3,_,hs=>cases hs;exact fun _ h=>h
 | 4,_,hs=>cases hs;exact fun _ h=>h
 | 5,_,hs=>cases hs;exact fun _ h=>h
 | 6,hD,hs=>cases hs;exact u6 hD
 | 7,hD,hs=>cases hs;exact u7 hD
 | 8,_,hs=>cases hs;exact fun _ h=>h
 | 9,_,hs=>cases hs;exact fun _ h=>h
 | k+10,_,hs=>cases hs
set_option maxRecDepth 100000 in
theorem parse_results {tmps:Array Value} {W:World} {b2 b3 b4:Nat} {x0 x1 x2 x3 x4 x5 x6 x7 x8 x9 x10 x11 x12 x13 y z:Value} (h2:tmps[2]? = some (.pointer (some ⟨b2,0,none⟩))) (h3:tmps[3]? = some (.pointer (some ⟨b3,0,none⟩))) (h4:tmps[4]? = some (.pointer (some ⟨b4,0,none⟩)))
 (o2:Own W b2 36 [x0,x1,x2,x3,x4,x5,x6,x7,x8,x9,x10,x11,x12,x13]) (o3:Own W b3 3 [y]) (o4:Own W b4 37 [z]):(results Tryd.f9 tmps).run Tryd.prog W=.ok (.tuple #[.agg #[x0,x1,x2,x3,x4,x5,x6,x7,x8,x9,x10,x11,x12,x13],y,z]) W:=by
 obtain ⟨⟨q0,q1,q2,q3,q4,q5,q6,q7,q8,q9,q10,q11,q12,q13⟩,_⟩:=o2.all14
 have q14:W.cell? ⟨b3,0,none⟩=some y:=o3.cell 0
 have q15:W.cell? ⟨b4,0,none⟩=some z:=o4.cell 0
 simp [results,Tryd.results9,go_sem,h2,h3,h4,q0,q1,q2,q3,q4,q5,q6,q7,q8,q9,q10,q11,q12,q13,q14,q15]
set_option maxRecDepth 100000 in
set_option maxHeartbeats 3200000 in
theorem qParse (s:Qy.Bs) (w:World) (hs:s.length≤100000000):Calls Tryd.prog 9 #[.string (bs s)] w (ParseR w (Qy.parse s)):=by
 refine (callsIn_wide (n:=6)).1 ?_
 refine callsIn_of_wp_marks Tryd.func9 rfl trivial ?_ rfl
 simp only [Tryd.ntmps9,List.size_toArray,List.length_cons,List.length_nil,Nat.reduceAdd,Nat.reduceSub,Array.replicate_succ,Array.replicate_zero,List.push_toArray,List.append_toArray,List.nil_append,List.cons_append]
 have hmf:∀ (fn:Fn) (first cap:Array Value) (w:World),(Instr.makeFunc fn first cap).run Tryd.prog w=.ok (.func fn first cap) w:=fun _ _ _ _=>rfl
 have hsz:=bs_size s
 by_cases hlen:4096<s.length
 ·have hp:Qy.parse s=(Qy.Qry.none,4096,4):=by unfold Qy.parse;rw [if_pos hlen]
  rw [hp]
  obtain ⟨L,hL⟩:∃ L,s.length=L:=⟨_,rfl⟩
  rw [hL] at hsz hlen hs
  obtain ⟨sd,hsd⟩:∃ sd,bs s=sd:=⟨_,rfl⟩
  rw [hsd] at hsz ⊢
  have h1:(4096:Int)<(L:Int):=by omega
  clear hsd hL hp
  gi_wp2
  have o2:=(Own.new w 36 zq)
  have o3:=(Own.new (w.alloc (.cells zq.toArray 36)) 3 [.int .i64 4096])
  have o4:=(Own.new ((w.alloc (.cells zq.toArray 36)).alloc (.cells #[.int .i64 4096] 3)) 37 [.int .i64 4])
  simp only [World.size_alloc] at o3 o4
  exact ⟨_,parse_results rfl rfl rfl ((o2.alloc _).alloc _) (o3.alloc _) o4,_,rfl,qryV.none_ _ _,(((Below.refl _ w).alloc (Nat.le_refl _) _).alloc (by simp) _).alloc (by simp;omega) _⟩
 ·obtain ⟨PA,hPA⟩:∃ PA,Qy.parse s=PA:=⟨_,rfl⟩
  rw [hPA]
  have HP:=Lib.hid hPA
  have HLn:=Lib.hid hlen
  have h1:¬ (4096:Int)<(s.length:Int):=by omega
  have hbss:=bs_size s
  clear hPA hs hlen
  gi_wp2_with (refine ⟨trivial,?_⟩;gi_at_call 30;refine (tokens_in _ s _).mono ?_;rintro e w' ⟨rfl,rfl⟩)
  have n1:(w.alloc (.cells zq.toArray 36)).heap.size=w.heap.size+1:=by simp
  have oo2:=(Own.new w 36 zq)
  have oo3:=(Own.new (w.alloc (.cells zq.toArray 36)) 3 [.int .i64 0])
  have oo4:=(Own.new ((w.alloc (.cells zq.toArray 36)).alloc (.cells #[.int .i64 0] 3)) 37 [.int .i64 0])
  have ooR:=(Own.new (((w.alloc (.cells zq.toArray 36)).alloc (.cells #[.int .i64 0] 3)).alloc (.cells #[.int .i64 0] 37)) 83 [.string ⟨#[]⟩,.int .i64 0,.slice none 0 0])
  have oo5:=(Own.new ((((w.alloc (.cells zq.toArray 36)).alloc (.cells #[.int .i64 0] 3)).alloc (.cells #[.int .i64 0] 37)).alloc (.cells #[.string ⟨#[]⟩,.int .i64 0,.slice none 0 0] 83)) 78 [.pointer (some ⟨w.heap.size+1+1+1,0,none⟩)])
  have ooS:=(Own.new (((((w.alloc (.cells zq.toArray 36)).alloc (.cells #[.int .i64 0] 3)).alloc (.cells #[.int .i64 0] 37)).alloc (.cells #[.string ⟨#[]⟩,.int .i64 0,.slice none 0 0] 83)).alloc (.cells #[.pointer (some ⟨w.heap.size+1+1+1,0,none⟩)] 78)) 9 [.string (bs s)])
  simp only [World.size_alloc] at oo3 oo4 ooR oo5 ooS
  have o2:=((((oo2.alloc (.cells #[.int .i64 0] 3)).alloc (.cells #[.int .i64 0] 37)).alloc (.cells #[.string ⟨#[]⟩,.int .i64 0,.slice none 0 0] 83)).alloc (.cells #[.pointer (some ⟨w.heap.size+1+1+1,0,none⟩)] 78)).alloc (.cells #[.string (bs s)] 9)
  have o3:=(((oo3.alloc (.cells #[.int .i64 0] 37)).alloc (.cells #[.string ⟨#[]⟩,.int .i64 0,.slice none 0 0] 83)).alloc (.cells #[.pointer (some ⟨w.heap.size+1+1+1,0,none⟩)] 78)).alloc (.cells #[.string (bs s)] 9)
  have o4:=((oo4.alloc (.cells #[.string ⟨#[]⟩,.int .i64 0,.slice none 0 0] 83)).alloc (.cells #[.pointer (some ⟨w.heap.size+1+1+1,0,none⟩)] 78)).alloc (.cells #[.string (bs s)] 9)
  have oR:=(ooR.alloc (.cells #[.pointer (some ⟨w.heap.size+1+1+1,0,none⟩)] 78)).alloc (.cells #[.string (bs s)] 9)
  have o5:=oo5.alloc (.cells #[.string (bs s)] 9)
  have hB:Below w.heap.size w ((((((w.alloc (.cells zq.toArray 36)).alloc (.cells #[.int .i64 0] 3)).alloc (.cells #[.int .i64 0] 37)).alloc (.cells #[.string ⟨#[]⟩,.int .i64 0,.slice none 0 0] 83)).alloc (.cells #[.pointer (some ⟨w.heap.size+1+1+1,0,none⟩)] 78)).alloc (.cells #[.string (bs s)] 9)):=
   (((((((Below.refl _ w).alloc (Nat.le_refl _) _).alloc (by simp) _).alloc (by simp;omega) _).alloc (by simp;omega) _).alloc (by simp;omega) _).alloc (by simp;omega) _)
  revert o2 o3 o4 oR o5 ooS hB
  change _→_→_→_→_→_→_→Code.wpIn _ _ _ _ _ _ ((((((w.alloc (.cells zq.toArray 36)).alloc (.cells #[.int .i64 0] 3)).alloc (.cells #[.int .i64 0] 37)).alloc (.cells #[.string ⟨#[]⟩,.int .i64 0,.slice none 0 0] 83)).alloc (.cells #[.pointer (some ⟨w.heap.size+1+1+1,0,none⟩)] 78)).alloc (.cells #[.string (bs s)] 9))
  generalize ((((((w.alloc (.cells zq.toArray 36)).alloc (.cells #[.int .i64 0] 3)).alloc (.cells #[.int .i64 0] 37)).alloc (.cells #[.string ⟨#[]⟩,.int .i64 0,.slice none 0 0] 83)).alloc (.cells #[.pointer (some ⟨w.heap.size+1+1+1,0,none⟩)] 78)).alloc (.cells #[.string (bs s)] 9))=W0
  intro ooS o2 o3 o4 oR o5 hB
  clear oo2 oo3 oo4 ooR oo5 n1
  obtain ⟨b2,e2⟩:∃ b2,w.heap.size=b2:=⟨_,rfl⟩
  obtain ⟨b3,e3⟩:∃ b3,w.heap.size+1=b3:=⟨_,rfl⟩
  obtain ⟨b4,e4⟩:∃ b4,w.heap.size+1+1=b4:=⟨_,rfl⟩
  obtain ⟨r,er⟩:∃ r,w.heap.size+1+1+1=r:=⟨_,rfl⟩
  obtain ⟨g5,e5⟩:∃ g5,w.heap.size+1+1+1+1=g5:=⟨_,rfl⟩
  obtain ⟨bS,eS⟩:∃ bS,w.heap.size+1+1+1+1+1=bS:=⟨_,rfl⟩
  have hord:w.heap.size≤b2∧b2<b3∧b3<b4∧b4<r∧r<g5∧g5<bS:=by omega
  rw [eS] at ooS ⊢
  rw [e5] at o5 ⊢
  rw [er] at oR o5 ⊢
  rw [e4] at o4 ⊢
  rw [e3] at o3 ⊢
  have hb2:w.heap.size=b2:=e2
  have hBw:=hB
  have hI0:PI w W0.heap.size b2 b3 b4 r g5 bS s [] W0:=⟨.slice none 0 0,⟨hord,e2▸o2,o3,o4,oR,o5,ooS,hB⟩,World.ownsRow_nil _ _ _ 2,Nat.le_refl _⟩
  have hbS:=ooS.lt
  rw [show Value.pointer (some ⟨w.heap.size,0,none⟩)=.pointer (some ⟨b2,0,none⟩) by rw [e2]]
  have HI0:=Lib.hid hI0
  have cS:W0.cell? ⟨bS,0,none⟩=some (.string (bs s)):=ooS.cell 0
  clear o2 o3 o4 oR o5 ooS hI0 e2 e3 e4 er e5 eS
  refine wpIn_rangeFunc_ownH rfl (by omega) (gf:=47) (lb:=#[.pointer (some ⟨bS,0,none⟩)]) rfl trivial (enters_of Tryd.func47 (by kernel_rfl) rfl)
   (tokens_stops (6 - 1) (by omega) bS s (by have:=HLn.out;omega) W0 hbS cS) Kb.trans (fun W l o o' hl _ _ _=>?kb) (Below.refl _ _) (fun _=>rfl)
   (PI w W0.heap.size b2 b3 b4 r g5 bS s) (fun _ _ _=>False) (PI.from_ hbS) (fun _ _ _ _ _ hs _ _=>hs) HI0.out
   (fun x a' W=>∃ gx,W0.heap.size≤gx∧Own W gx 80 [.string (bs x.text),.int .i64 (x.at_:Int)]∧(∀ A n c,W.cell? ⟨r,2,none⟩=some (.slice A n c)→(Value.slice A n c).ownBlock≠some gx)∧a'={ tmps:=#[.string (bs s),undef,.pointer (some ⟨b2,0,none⟩),.pointer (some ⟨b3,0,none⟩),.pointer (some ⟨b4,0,none⟩),.pointer (some ⟨g5,0,none⟩),.pointer (some ⟨gx,0,none⟩),.string (bs s),.int .i64 (s.length:Int),.bool false,undef,.func (.func 29) #[] #[.pointer (some ⟨b2,0,none⟩),.pointer (some ⟨b3,0,none⟩),.pointer (some ⟨b4,0,none⟩)],.agg #[.string ⟨#[]⟩,.int .i64 0,.slice none 0 0],.pointer (some ⟨r,0,none⟩),.string (bs s),.func (.func 47) #[] #[.pointer (some ⟨bS,0,none⟩)],.agg #[.string (bs x.text),.int .i64 (x.at_:Int)],undef,undef,undef,undef,undef,undef,undef,undef,undef,undef,undef,undef,undef,undef,undef,undef,undef,undef,undef,undef,undef,undef],defers:=[] })
   (fun x a'=>?hAx) ?assign ?body ?done ?stop
  case kb=>
   unfold Kb World.putObj
   simp only
   exact Array.getElem?_setIfInBounds_ne (by omega)
  case hAx=>
   rintro _ X Y row ⟨gx,h1,h2,h4,h3⟩ hg hr
   refine ⟨gx,h1,h2.grown hg (fun e=>?_),fun A n c hc=>?_,h3⟩
   rotate_left
   ·rcases Nat.lt_or_ge r X.heap.size with hx | hx
    ·exact h4 A n c ((World.cell?_of_block (a:=⟨r,2,none⟩) (hg.block r hx (fun e=>by have:=(hr r e.symm).1;omega))).symm.trans hc)
    ·exact fun _=>by have:=h2.lt;omega
   obtain ⟨_,o,ho,hc⟩:=hr gx e.symm
   rw [h2] at ho
   cases ho
   cases hc
  case assign=>
   intro l pre x W K hI hK
   unfold encT
   gi_wp2
   have hb:=below_new W (.cells #[.string (bs x.text),.int .i64 (x.at_:Int)] 80)
   have hbl:W0.heap.size≤W.heap.size:=by obtain ⟨_,_,_,h⟩:=hI;exact h
   have hbl2:bS<W.heap.size:=by omega
   obtain ⟨v,hpb,hrow,_⟩:=id hI
   refine hK _ _ ((KeepsOthers.alloc _ _).from _) (hb.block bS hbl2) (hI.on hb) ⟨W.heap.size,hbl,Own.new W _ [.string (bs x.text),.int .i64 (x.at_:Int)],fun A n c hc=>?_,rfl⟩
   have hc2:=(hpb.on hb).oR.cell 2
   rw [hc] at hc2
   simp only [List.getElem?_cons_succ,List.getElem?_cons_zero,Option.some.injEq] at hc2
   rw [hc2]
   exact fun e=>by have:=(hrow.lt _ e).2;omega
  case body=>
   rintro l pre x a' W hl ⟨rec,hrec⟩ ⟨v,hpb,hrow,hM⟩ ⟨gx,hgx,hOx,hxx,rfl⟩ hlt
   obtain ⟨A,c,hv⟩:∃ A c,v=.slice A pre.length c:=by
    rcases hrow.2 with ⟨rfl,h0⟩ | ⟨g,cap,cur,rfl,_⟩
    ·exact ⟨none,0,by rw [h0]⟩
    ·exact ⟨_,_,rfl⟩
   subst hv
   refine wpIn_block ?_
   refine region_round l ?_ (by kernel_rfl) (by kernel_rfl) ?_
   ·rintro ⟨a,u,h⟩
    exact h
   have hJ0:JT w b2 b3 b4 r g5 bS gx s A c pre x W (fun _=>False) W.drew:=⟨hpb.on (Below.drew (Below.refl _ _)),hOx.on (Below.drew (Below.refl _ _)),fun _=>owns_grown hrow (grown_below (Below.drew (Below.refl _ _))) (fun _ e=>by cases e),KeepsOthers.drew W,Nat.le_refl _⟩
   have hvl:∀ g,(Value.slice A pre.length c).ownBlock=some g→g<W.heap.size:=fun g e=>(hrow.lt g e).2
   have hnx:(Value.slice A pre.length c).ownBlock≠some gx:=hxx _ _ _ (hpb.oR.cell 2)
   have hpl:pre.length≤5000:=by have:=toks_len s.length s 0 (Nat.le_refl _);have:=HLn.out;omega
   have HoS:=Lib.hid hpb.oS
   clear hpb hrow hOx hrec hxx
   refine any_suffixK (JT w b2 b3 b4 r g5 bS gx s A c pre x W) 10 [Spec.eq (.pointer (some ⟨r,0,none⟩)),Spec.eq (.pointer (some ⟨r,0,none⟩)),Spec.eq (.pointer (some ⟨r,0,none⟩)),Spec.eq (.pointer (some ⟨r,2,none⟩)),Spec.eq (.slice A pre.length c),Spec.eq (.agg #[.string (bs x.text),.int .i64 (x.at_:Int)]),sT6 x W,sT7 bS pre x,Spec.eq (.pointer (some ⟨r,0,none⟩)),Spec.eq (.pointer (some ⟨r,2,none⟩))]
    (by kernel_rfl) rfl (by kernel_rfl) (by kernel_rfl) hJ0 ?_ ?_
   ·
    refine RegStepsK.cons ?_ ?_
    ·intro DD az wz hcl hnd hC hdf hF hD K hK;clear hdf
     have q5:az.tmps[5]? = some (.pointer (some ⟨g5,0,none⟩)):=hF 5 rfl
     have z5:wz.cell? ⟨g5,0,none⟩=some (.pointer (some ⟨r,0,none⟩)):=hC.pb.o5.cell 0
     clear hF hD
     refine want_none rfl ?_
     go_simp
     exact hK _ _ hC.pure UpD.refl rfl
    refine RegStepsK.cons ?_ ?_
    ·intro DD az wz hcl hnd hC hdf hF hD K hK;clear hdf
     have q5:az.tmps[5]? = some (.pointer (some ⟨g5,0,none⟩)):=hF 5 rfl
     have z5:wz.cell? ⟨g5,0,none⟩=some (.pointer (some ⟨r,0,none⟩)):=hC.pb.o5.cell 0
     clear hF hD
     refine want_none rfl ?_
     go_simp
     exact hK _ _ hC.pure UpD.refl rfl
    refine RegStepsK.cons ?_ ?_
    ·intro DD az wz hcl hnd hC hdf hF hD K hK;clear hdf
     obtain ⟨_,q18,rfl⟩:=dep hD 1 rfl rfl rfl rfl
     clear hF hD
     refine want_none rfl ?_
     go_simp
     exact hK _ _ hC.pure UpD.refl rfl
    refine RegStepsK.cons ?_ ?_
    ·intro DD az wz hcl hnd hC hdf hF hD K hK;clear hdf
     obtain ⟨_,q19,rfl⟩:=dep hD 2 rfl rfl rfl rfl
     clear hF hD
     refine want_none rfl ?_
     go_simp
     exact hK _ _ hC.pure UpD.refl rfl
    refine RegStepsK.cons ?_ ?_
    ·intro DD az wz hcl hnd hC hdf hF hD K hK;clear hdf
     obtain ⟨_,q20,rfl⟩:=dep hD 3 rfl rfl rfl rfl
     have z2:wz.cell? ⟨r,2,none⟩=some (.slice A pre.length c):=hC.pb.oR.cell 2
     clear hF hD
     refine want_none rfl ?_
     go_simp
     exact hK _ _ hC.pure UpD.refl rfl
    refine RegStepsK.cons ?_ ?_
    ·intro DD az wz hcl hnd hC hdf hF hD K hK;clear hdf
     have q6:az.tmps[6]? = some (.pointer (some ⟨gx,0,none⟩)):=hF 6 rfl
     have z0:wz.cell? ⟨gx,0,none⟩=some (.string (bs x.text)):=hC.ox.cell 0
     have z1:wz.cell? ⟨gx,1,none⟩=some (.int .i64 (x.at_:Int)):=hC.ox.cell 1
     clear hF hD
     refine want_none rfl ?_
     go_simp
     exact hK _ _ hC.pure UpD.refl rfl
    refine RegStepsK.cons ?_ ?_
    ·intro DD az wz hcl hnd hC hdf hF hD K hK;clear hdf
     obtain ⟨_,q22,rfl⟩:=dep hD 5 rfl rfl rfl rfl
     have kn:=below_new wz (.cells #[.string (bs x.text),.int .i64 (x.at_:Int)] 80)
     have HP:=Lib.hid (hC.on (i:=6) kn)
     have HCL:=Lib.hid hcl
     have HND:=Lib.hid hnd
     have HO:=Lib.hid (own_news (Own.new wz 80 [.string (bs x.text),.int .i64 (x.at_:Int)]))
     have HSZ:=Lib.hid hC.sz
     clear hF hD hC hcl hnd kn
     refine want_none rfl ?_
     go_simp
     exact hK _ _ HP.out (UpD10 (fun h=>absurd h HND.out) (fun h=>absurd (HCL.out 7 _ rfl h 6 rfl) HND.out)) ⟨wz.heap.size,rfl,HSZ.out,by simp,HO.out⟩
    refine RegStepsK.cons ?_ ?_
    ·intro DD az wz hcl hnd hC hdf hF hD K hK;clear hdf
     obtain ⟨_,q21,rfl⟩:=dep hD 4 rfl rfl rfl rfl
     obtain ⟨_,q23,x23,rfl,hx23⟩:=dep hD 6 rfl rfl rfl rfl
     obtain ⟨hs1,hs2,ho9⟩:=hx23
     clear hF hD
     refine want_none rfl ?_
     have hrow:=hC.row hnd
     obtain ⟨i0_,hi_,hz0,hz1,hz2⟩:=info_parts tok_info
     refine oper_pushO _ _ _ 81 rfl 80 i0_ (.agg #[.string ⟨#[]⟩,.int .i64 0]) 2 24 Tryd.underlying81 hi_ hz0 hz1 hz2 rfl (by decide) (bS+1) _ _ _ (by simp [Act.eval,q21]) hrow ⟨x23,0,none⟩ 1 [.string (bs x.text),.int .i64 (x.at_:Int)] (by simp [Act.eval,q23]) rfl ho9 (by simp [Value.oneCell']) (by unfold maxLen;omega) (by omega) (by have:=hC.pb.oS.lt;omega) ?_
     intro v' w' hrow3 hgrow hv'
     rw [← tcells_snoc] at hrow3
     obtain ⟨g7,c7,hA7⟩:=ownsRow_succ hrow3
     exact hK _ _ (hC.push hnd hnx hgrow) (UpD10 (fun _ _ hx=>by obtain ⟨a,e1,e2,e3,e4⟩:=hx;exact ⟨a,e1,e2,Nat.lt_of_lt_of_le e3 hgrow.size,fun j u hj=>(World.cell?_of_block (by rw [Addr.add_lit];exact hgrow.block a e3 (fun e=>by have:=hvl a e.symm;omega))).trans (e4 j u hj)⟩) (fun h=>absurd h hnd)) ⟨v',rfl,some ⟨g7,0,none⟩,c7,hA7,hrow3⟩
    refine RegStepsK.cons ?_ ?_
    ·intro DD az wz hcl hnd hC hdf hF hD K hK;clear hdf
     obtain ⟨_,q17,rfl⟩:=dep hD 0 rfl rfl rfl rfl
     clear hF hD
     refine want_none rfl ?_
     go_simp
     exact hK _ _ hC.pure UpD.refl rfl
    refine RegStepsK.cons ?_ ?_
    ·intro DD az wz hcl hnd hC hdf hF hD K hK;clear hdf
     obtain ⟨_,q25,rfl⟩:=dep hD 8 rfl rfl rfl rfl
     clear hF hD
     refine want_none rfl ?_
     go_simp
     exact hK _ _ hC.pure UpD.refl rfl
    exact RegStepsK.nil
   intro w9 hJ9
   rintro _ rfl _ rfl _ rfl _ rfl _ rfl _ rfl _ ⟨y23,rfl,_⟩ _ ⟨y24,rfl,hy24⟩ _ rfl _ rfl
   simp only [List.take,FinOK,Act.put,List.setIfInBounds_toArray,List.set_cons_zero,List.set_cons_succ]
   simp only [List.drop,TailOK]
   obtain ⟨A7,c7,hv7,hrow7⟩:=hy24
   subst hv7
   have HC:=Lib.hid hJ9
   have q2:w9.cell? ⟨r,2,none⟩=some (.slice A pre.length c):=hJ9.pb.oR.cell 2
   have q3:=hJ9.pb.oR.frozen 2
   clear hJ9 hJ0
   intro K hK
   refine want_none rfl ?_
   go_simp
   refine hK _ _ ?_
   clear hK K
   have hord2:=HC.out.pb.ord
   have hk:=At1.set_ (r:=r) w9 (p:=⟨r,2,none⟩) rfl (.slice A7 (pre.length+1) c7)
   refine ⟨(HC.out.kf.trans (KeepsOthers.setCell _ _ _)).from _,?_,⟨.slice A7 (pre.length+1) c7,HC.out.pb.rest _,?_,?_⟩⟩
   ·exact ((HC.out.pb.rest (.slice A7 (pre.length+1) c7)).oS).trans HoS.out.symm
   ·rw [List.length_append]
    exact owns_at1 hrow7 hk (by omega)
   ·exact Nat.le_trans hM (Nat.le_trans HC.out.sz hk.size)
  case done=>
   rintro D ys W hD rfl ⟨v,hpb,hrow,hM⟩ hKD
   obtain ⟨A,c,hv⟩:∃ A c,v=.slice A (Qy.toks s 0).length c:=by
    rcases hrow.2 with ⟨rfl,h0⟩ | ⟨g,cap,cur,rfl,_⟩
    ·exact ⟨none,0,by rw [h0]⟩
    ·exact ⟨_,_,rfl⟩
   subst hv
   have hg:=(Qy.toks_good s.length s 0 (Nat.le_refl _)).1
   have hlT:(Qy.toks s 0).length≤5000:=by have:=toks_len s.length s 0 (Nat.le_refl _);have:=HLn.out;omega
   have hPA:=HP.out
   unfold Qy.parse at hPA
   rw [if_neg HLn.out] at hPA
   obtain ⟨T,hT⟩:∃ T,Qy.toks s 0=T:=⟨_,rfl⟩
   rw [hT] at hpb hrow hg hlT hPA
   clear hT
   have hTks:TksAt W W.heap.size r A c T:=by
    rcases hrow.2 with ⟨_,h0⟩ | ⟨g,cap,cur,e1,k2,k3,k4,k5,k6,k7⟩
    ·exact .inl (List.eq_nil_of_length_eq_zero h0)
    ·cases e1
     have:=hpb.ord
     refine .inr ⟨g,0,rfl,by omega,heap_lt k3,heap_lt k3,k4,fun j t ht=>?_⟩
     obtain ⟨c1,c2⟩:=tcells_at T j t ht
     have hj:=(List.getElem?_eq_some_iff.1 ht).1
     rw [← k7,List.getElem?_take_of_lt (by omega)] at c1 c2
     exact ⟨by simpa [World.cell?,k3] using c1,by simpa [World.cell?,k3] using c2⟩
   have hrd:RdAt W.heap.size r (⟨[],0⟩ :: T) W:=⟨hpb.oR.lt,Nat.le_refl _,⟨[],0⟩,T,A,c,rfl,hpb.oR,hTks⟩
   have hstp:Qy.stp (⟨[],0⟩ :: T)=T:=by
    match T,hg with
    | [],hg=>exact absurd rfl hg.ne
    | t :: T,_=>rfl
   have hc5:W.cell? ⟨g5,0,none⟩=some (.pointer (some ⟨r,0,none⟩)):=hpb.o5.cell 0
   have hDl:D<W.heap.size:=(Array.getElem?_eq_some_iff.1 hKD).1
   have HW:=Lib.hid (And.intro hpb (And.intro hKD hDl))
   have HG:=Lib.hid (And.intro hg hlT)
   have HPA:=Lib.hid hPA
   have HSt:Hid (Calls Tryd.prog 31 #[.pointer (some ⟨r,0,none⟩)] W fun e w'=>e=.returned (.tuple #[])∧RdAt W.heap.size r T w'∧At1 r W w'):=Lib.hid (hstp▸qStep W.heap.size r _ W hrd)
   clear hpb hrow hg hlT hPA hTks hrd hstp hKD hDl
   gi_wp2
   refine ⟨trivial,(callsIn_wide.2 HSt.out).mono ?_⟩
   rintro e w1 ⟨rfl,hrd1,k1⟩
   have o2:=HW.out.1.o2.at1 k1 (by omega)
   have o3:=HW.out.1.o3.at1 k1 (by omega)
   have o4:=HW.out.1.o4.at1 k1 (by omega)
   have c5:=(HW.out.1.o5.at1 k1 (by omega)).cell 0
   have hbl1:=HW.out.1.bel.trans ((k1.below (Nat.le_of_lt HW.out.1.oR.lt)).mono (by omega:w.heap.size≤r))
   have hKD1:w1.heap[D]? = some (.deferred (some [])):=(k1.heap HW.out.2.2 (by omega)).trans HW.out.2.1
   have HQ:=Lib.hid (qQuery _ r T w1 hrd1 HG.out.1 HG.out.2)
   have HD1:=Lib.hid (And.intro o2 (And.intro o3 (And.intro o4 (And.intro hbl1 (And.intro hKD1 (And.intro hrd1.lt (heap_lt hKD1)))))))
   clear o2 o3 o4 hbl1 hKD1 hrd1 k1 HSt hc5
   gi_wp2
   refine ⟨trivial,(callsIn_wide.2 HQ.out).mono ?_⟩
   rintro e w2 hE
   rcases hE.cases with ⟨q,l2,v,hq,rfl,hv,hrd2,k2⟩ | ⟨x,er,hq,rfl,k2⟩
   ·obtain ⟨n0,s1,n2,n3,n4,n5,n6,n7,A8,l8,c8,vA,vl,vc,rfl,hvl,hR,hI,hvc⟩:=hv.lit
    have o2:=HD1.out.1.at1 k2 (by omega)
    have o3:=HD1.out.2.1.at1 k2 (by omega)
    have o4:=HD1.out.2.2.1.at1 k2 (by omega)
    have hbl2:=HD1.out.2.2.2.1.trans ((k2.below (Nat.le_of_lt HD1.out.2.2.2.2.2.1)).mono (by omega:w.heap.size≤r))
    have hKD2:w2.heap[D]? = some (.deferred (some [])):=(k2.heap HD1.out.2.2.2.2.2.2 (by omega)).trans HD1.out.2.2.2.2.1
    have hPA:=HPA.out
    rw [hq] at hPA
    simp only at hPA
    have HPA2:=Lib.hid hPA
    obtain ⟨⟨z0,z1,z2,z3,z4,z5,z6,z7,z8,z9,z10,z11,z12,z13⟩,f0,f1,f2,f3,f4,f5,f6,f7,f8,f9,f10,f11,f12,f13⟩:=Own.all14 o2
    have HF:=Lib.hid (And.intro o2 (And.intro o3 (And.intro o4 (And.intro hbl2 (And.intro hKD2 (And.intro hR (And.intro hI (And.intro hvl hvc))))))))
    have hZ1:w.heap.size≤w1.heap.size:=HD1.out.2.2.2.1.size
    clear o2 o3 o4 hbl2 hKD2 hR hI hvl hvc hPA hrd2 k2 hE hv c5
    gi_wp2
    obtain ⟨hO,hk⟩:=HF.out.1.put14 (x0:=.int .i64 q.kind) (x1:=.int .i64 n0) (x2:=.string s1) (x3:=.int .i64 n2) (x4:=.int .i64 n3) (x5:=.int .i64 n4) (x6:=.int .i64 n5) (x7:=.int .i64 n6) (x8:=.int .i64 n7) (x9:=.slice A8 l8 c8) (x10:=.int .i64 q.vkind) (x11:=.slice vA vl vc) (x12:=.int .i64 q.day) (x13:=.int .i64 q.scale)
    clear z0 f0 z1 f1 z2 f2 z3 f3 z4 f4 z5 f5 z6 f6 z7 f7 z8 f8 z9 f9 z10 f10 z11 f11 z12 f12 z13 f13
    revert hO hk
    generalize (((((((((((((World.setCell _ _ _).setCell _ _).setCell _ _).setCell _ _).setCell _ _).setCell _ _).setCell _ _).setCell _ _).setCell _ _).setCell _ _).setCell _ _).setCell _ _).setCell _ _).setCell _ _=W4
    intro hO hk
    have hfin:=query_fine HG.out.1 hq
    have hR4:RegAt W4 (fun g=>New w1 g∧g≠b2) [.int .i64 n0,.string s1,.int .i64 n2,.int .i64 n3,.int .i64 n4,.int .i64 n5,.int .i64 n6,.int .i64 n7,.slice A8 l8 c8] q.reg:=RegAt.keep hk.size (fun g hg hl=>⟨⟨hg,fun e=>by have h9:w1.heap.size≤g:=hg;have:=HD1.out.1.lt;omega⟩,hk.heap hl (fun e=>by have h9:w1.heap.size≤g:=hg;have:=HD1.out.1.lt;omega)⟩) _ _ HF.out.2.2.2.2.2.1
    have hI4:IntsAt W4 (New w1) vA q.offs:=IntsAt.keep HF.out.2.2.2.2.2.2.1 hk.size (fun g hg hl=>⟨hg,hk.heap hl (fun e=>by have h9:w1.heap.size≤g:=hg;have:=HD1.out.1.lt;omega)⟩)
    have o3:=HF.out.2.1.at1 hk (by omega)
    have o4:=HF.out.2.2.1.at1 hk (by omega)
    have hbl4:=HF.out.2.2.2.1.trans ((hk.below (Nat.le_of_lt HF.out.1.lt)).mono (by omega:w.heap.size≤b2))
    have hKD4:W4.heap[D]? = some (.deferred (some [])):=(hk.heap (heap_lt HF.out.2.2.2.2.1) (by omega)).trans HF.out.2.2.2.2.1
    have HRg:=Lib.hid (region_any q.reg (by have:=hfin.2;have:=HG.out.2;omega) _ W4 hR4.isReg)
    have HF4:=Lib.hid (And.intro hO (And.intro o3 (And.intro o4 (And.intro hbl4 (And.intro hKD4 (And.intro hR4 hI4))))))
    have HN:=Lib.hid hfin.1
    clear hO o3 o4 hbl4 hKD4 hR4 hI4 hk hfin
    refine ⟨trivial,(callsIn_wide.2 HRg.out).mono ?_⟩
    rintro e w5 ⟨rfl,k5⟩
    have HF5:=Lib.hid (And.intro (HF4.out.1.on k5) (And.intro (HF4.out.2.1.on k5) (And.intro (HF4.out.2.2.1.on k5) (And.intro (Below.call HF4.out.2.2.2.1 k5) (And.intro ((k5.block D (heap_lt HF4.out.2.2.2.2.1)).trans HF4.out.2.2.2.2.1) (And.intro (HF4.out.2.2.2.2.2.1.on k5) (IntsAt.keep HF4.out.2.2.2.2.2.2 k5.size fun g hg hl=>⟨hg,k5.block g hl⟩)))))))
    obtain ⟨⟨z0,z1,z2,z3,z4,z5,z6,z7,z8,z9,z10,z11,z12,z13⟩,f0,f1,f2,f3,f4,f5,f6,f7,f8,f9,f10,f11,f12,f13⟩:=HF5.out.1.all14
    have y0:w5.cell? ⟨b3,0,none⟩=some (.int .i64 0):=HF5.out.2.1.cell 0
    have y1:=HF5.out.2.1.frozen 0
    have y2:w5.cell? ⟨b4,0,none⟩=some (.int .i64 0):=HF5.out.2.2.1.cell 0
    have y3:=HF5.out.2.2.1.frozen 0
    have m3:b3≠b2:=by omega
    have m4:b4≠b2:=by omega
    have m5:b4≠b3:=by omega
    clear k5
    by_cases hlim:256<Qy.nodes q.reg∨16<Qy.nest q.reg
    ·have hE:Qy.regE q.reg=4:=by unfold Qy.regE;rw [if_pos hlim]
     rw [hE]
     have hPA3:=HPA2.out
     rw [if_pos hlim] at hPA3
     subst hPA3
     clear hE hlim
     gi_wp2
     obtain ⟨⟨hO2,hO3,hO4⟩,hkB,hkS⟩:=HF5.out.1.put16 (y:=.int .i64 (s.length:Int)) (u:=.int .i64 4) (x0:=.int .i64 0) (x1:=.int .i64 0) (x2:=.string ⟨#[]⟩) (x3:=.int .i64 0) (x4:=.int .i64 0) (x5:=.int .i64 0) (x6:=.int .i64 0) (x7:=.int .i64 0) (x8:=.int .i64 0) (x9:=.slice none 0 0) (x10:=.int .i64 0) (x11:=.slice none 0 0) (x12:=.int .i64 0) (x13:=.int .i64 0) HF5.out.2.1 HF5.out.2.2.1 (by omega) (by omega)
     clear z0 f0 z1 f1 z2 f2 z3 f3 z4 f4 z5 f5 z6 f6 z7 f7 z8 f8 z9 f9 z10 f10 z11 f11 z12 f12 z13 f13 y0 y1 y2 y3 m3 m4 m5
     revert hO2 hO3 hO4 hkB hkS
     generalize (((((((((((((((World.setCell _ _ _).setCell _ _).setCell _ _).setCell _ _).setCell _ _).setCell _ _).setCell _ _).setCell _ _).setCell _ _).setCell _ _).setCell _ _).setCell _ _).setCell _ _).setCell _ _).setCell _ _).setCell _ _=W5
     intro hO2 hO3 hO4 hkB hkS
     have hKD5:W5.heap[D]? = some (.deferred (some [])):=(hkS D (by omega)).trans HF5.out.2.2.2.2.1
     have hbl5:=HF5.out.2.2.2.1.trans (hkB.mono (by omega:w.heap.size≤b2))
     refine ⟨by simp,.inl ⟨D,_,rfl,run_takeDeferred hKD5,?_⟩⟩
     refine ⟨by simp,.inr ⟨by simp,_,_,29,#[.pointer (some ⟨b2,0,none⟩),.pointer (some ⟨b3,0,none⟩),.pointer (some ⟨b4,0,none⟩)],rfl,by simp [go_sem],fun _ _=>trivial,?_⟩⟩
     refine (idle_in _ b2 b3 b4 _).mono ?_
     rintro e u' w9 ⟨rfl,hu,k9⟩
     subst hu
     show LeavesInM _ _ _ _ _ _ [] (settle .returning) w9
     have p2:=(show Own (W5.putObj D (.deferred none)) b2 36 _ from (World.putObj_heap_other (by omega)).trans hO2).on k9
     have p3:=(show Own (W5.putObj D (.deferred none)) b3 3 _ from (World.putObj_heap_other (by omega)).trans hO3).on k9
     have p4:=(show Own (W5.putObj D (.deferred none)) b4 37 _ from (World.putObj_heap_other (by omega)).trans hO4).on k9
     have hsz9:(W5.putObj D (.deferred none)).heap.size=W5.heap.size:=by simp [World.putObj]
     have hbl9:=(hbl5.trans (belowK_b (w:=w) (Nat.le_refl _) W5 D _ (.deferred none) (by omega) hKD5 rfl rfl)).trans (k9.mono (by rw [hsz9];exact hbl5.size))
     exact ⟨_,parse_results rfl rfl rfl p2 p3 p4,_,rfl,qryV.none_ _ _,hbl9⟩
    ·have hE:Qy.regE q.reg=0:=by unfold Qy.regE;rw [if_neg hlim,HN.out]
     rw [hE]
     have hPA3:=HPA2.out
     rw [if_neg hlim] at hPA3
     subst hPA3
     clear hE hlim
     gi_wp2
     obtain ⟨⟨hO2,hO3,hO4⟩,hkB,hkS⟩:=HF5.out.1.put16 (y:=.int .i64 0) (u:=.int .i64 0) (x0:=.int .i64 q.kind) (x1:=.int .i64 n0) (x2:=.string s1) (x3:=.int .i64 n2) (x4:=.int .i64 n3) (x5:=.int .i64 n4) (x6:=.int .i64 n5) (x7:=.int .i64 n6) (x8:=.int .i64 n7) (x9:=.slice A8 l8 c8) (x10:=.int .i64 q.vkind) (x11:=.slice vA vl vc) (x12:=.int .i64 q.day) (x13:=.int .i64 q.scale) HF5.out.2.1 HF5.out.2.2.1 (by omega) (by omega)
     clear z0 f0 z1 f1 z2 f2 z3 f3 z4 f4 z5 f5 z6 f6 z7 f7 z8 f8 z9 f9 z10 f10 z11 f11 z12 f12 z13 f13 y0 y1 y2 y3 m3 m4 m5
     revert hO2 hO3 hO4 hkB hkS
     generalize (((((((((((((((World.setCell _ _ _).setCell _ _).setCell _ _).setCell _ _).setCell _ _).setCell _ _).setCell _ _).setCell _ _).setCell _ _).setCell _ _).setCell _ _).setCell _ _).setCell _ _).setCell _ _).setCell _ _).setCell _ _=W5
     intro hO2 hO3 hO4 hkB hkS
     have hKD5:W5.heap[D]? = some (.deferred (some [])):=(hkS D (by omega)).trans HF5.out.2.2.2.2.1
     have hbl5:=HF5.out.2.2.2.1.trans (hkB.mono (by omega:w.heap.size≤b2))
     refine ⟨by simp,.inl ⟨D,_,rfl,run_takeDeferred hKD5,?_⟩⟩
     refine ⟨by simp,.inr ⟨by simp,_,_,29,#[.pointer (some ⟨b2,0,none⟩),.pointer (some ⟨b3,0,none⟩),.pointer (some ⟨b4,0,none⟩)],rfl,by simp [go_sem],fun _ _=>trivial,?_⟩⟩
     refine (idle_in _ b2 b3 b4 _).mono ?_
     rintro e u' w9 ⟨rfl,hu,k9⟩
     subst hu
     show LeavesInM _ _ _ _ _ _ [] (settle .returning) w9
     have p2:=(show Own (W5.putObj D (.deferred none)) b2 36 _ from (World.putObj_heap_other (by omega)).trans hO2).on k9
     have p3:=(show Own (W5.putObj D (.deferred none)) b3 3 _ from (World.putObj_heap_other (by omega)).trans hO3).on k9
     have p4:=(show Own (W5.putObj D (.deferred none)) b4 37 _ from (World.putObj_heap_other (by omega)).trans hO4).on k9
     have hsz9:(W5.putObj D (.deferred none)).heap.size=W5.heap.size:=by simp [World.putObj]
     have hbl9:=(hbl5.trans (belowK_b (w:=w) (Nat.le_refl _) W5 D _ (.deferred none) (by omega) hKD5 rfl rfl)).trans (k9.mono (by rw [hsz9];exact hbl5.size))
     have hw1b:=HD1.out.2.2.1.lt
     have hheap:∀ g,w1.heap.size≤g→g<w5.heap.size→w9.heap[g]? = w5.heap[g]?:=fun g hg hl=>by
      have hgD:g≠D:=fun e=>by have:=HD1.out.2.2.2.2.2.2;omega
      have e1:=hkS g (by omega)
      have hl5:g<W5.heap.size:=Nat.lt_of_lt_of_le hl hkB.size
      rw [k9.block g (by rw [hsz9];exact hl5),World.putObj_heap_other hgD,e1]
     have hsz59:w5.heap.size≤w9.heap.size:=Nat.le_trans hkB.size (Nat.le_trans (Nat.le_of_eq hsz9.symm) k9.size)
     obtain ⟨hvl,hv1,hv2⟩:=HF.out.2.2.2.2.2.2.2
     subst hvl
     exact ⟨_,parse_results rfl rfl rfl p2 p3 p4,_,rfl,⟨[.int .i64 n0,.string s1,.int .i64 n2,.int .i64 n3,.int .i64 n4,.int .i64 n5,.int .i64 n6,.int .i64 n7,.slice A8 l8 c8],vA,vc,rfl,rfl,RegAt.keep hsz59 (fun g hg hl=>⟨Nat.le_trans hZ1 hg.1,hheap g hg.1 hl⟩) _ _ HF5.out.2.2.2.2.2.1,IntsAt.keep HF5.out.2.2.2.2.2.2 hsz59 (fun g hg hl=>⟨Nat.le_trans hZ1 hg,hheap g hg hl⟩),hv1,hv2⟩,hbl9⟩
   ·have o2:=HD1.out.1.at1 k2 (by omega)
    have o3:=HD1.out.2.1.at1 k2 (by omega)
    have o4:=HD1.out.2.2.1.at1 k2 (by omega)
    have hbl2:=HD1.out.2.2.2.1.trans ((k2.below (Nat.le_of_lt HD1.out.2.2.2.2.2.1)).mono (by omega:w.heap.size≤r))
    have hKD2:w2.heap[D]? = some (.deferred (some [])):=(k2.heap HD1.out.2.2.2.2.2.2 (by omega)).trans HD1.out.2.2.2.2.1
    have hPA:=HPA.out
    rw [hq] at hPA
    simp only at hPA
    have hbl3:=hbl2.trans (belowK_b (w:=w) (Nat.le_refl _) w2 D _ (.deferred none) (by omega) hKD2 rfl rfl)
    have p2:Own (w2.putObj D (.deferred none)) b2 36 zq:=(World.putObj_heap_other (by omega)).trans o2
    have p3:Own (w2.putObj D (.deferred none)) b3 3 [.int .i64 0]:=(World.putObj_heap_other (by omega)).trans o3
    have p4:Own (w2.putObj D (.deferred none)) b4 37 [.int .i64 0]:=(World.putObj_heap_other (by omega)).trans o4
    refine ⟨by simp,.inl ⟨D,_,rfl,run_takeDeferred hKD2,?_⟩⟩
    refine ⟨by simp,.inr ⟨by simp,_,_,29,#[.pointer (some ⟨b2,0,none⟩),.pointer (some ⟨b3,0,none⟩),.pointer (some ⟨b4,0,none⟩)],rfl,by simp [go_sem],fun _ _=>trivial,?_⟩⟩
    refine (catch_in _ b2 b3 b4 x er _ p2 p3 p4 (by omega) (by omega)).mono ?_
    rintro e u' w3 ⟨rfl,hu,q2,q3,q4,k3⟩
    show LeavesInM _ _ _ _ _ _ [] (settle u') w3
    rw [hu]
    subst hPA
    exact ⟨_,parse_results rfl rfl rfl q2 q3 q4,_,rfl,qryV.none_ _ _,hbl3.trans (k3.mono (by omega))⟩
  case stop=>
   rintro D c pre W _ _ h _
   exact h.elim
end Go.Proofs.YtmlpibdincfgbaaDoor
