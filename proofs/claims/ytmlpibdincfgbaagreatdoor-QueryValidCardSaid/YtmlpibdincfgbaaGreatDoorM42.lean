/-
  The reference of chapter 38: Spoilt.
-/
import Derived.Test.YtmlpibdincfgbaaGreatDoorQS2
import Derived.Test.YtmlpibdincfgbaaGreatDoorM40
namespace Go.Proofs.YtmlpibdincfgbaaGreatDoor
open Go.RowKit
set_option linter.unusedSimpArgs false
set_option linter.unusedVariables false
def SpR (n m:Nat) (w:World) (e:Ending) (w':World):Prop:=∃ (q':Qy.Qry) (v':Value),e=.returned v'∧Below w.heap.size w w'∧IsQry w' q' v'∧Qy.nodes q'.reg≤n∧q'.offs.length≤m
theorem isQry_mk {w:World} {S S':Nat→Prop} {qk qv qd qs:Int} {n0 n2 n3 n4 n5 n6 n7:Int} {s1:ByteArray} {A8 vA:Option Addr} {l8 c8 vc:Nat} {R:Qy.Reg} {o:List Int}
 (hR:RegAt w S [.int .i64 n0,.string s1,.int .i64 n2,.int .i64 n3,.int .i64 n4,.int .i64 n5,.int .i64 n6,.int .i64 n7,.slice A8 l8 c8] R) (hI:IntsAt w S' vA o) (h1:o.length≤vc) (h2:vc≤maxLen) :
 IsQry w ⟨qk,R,qv,o,qd,qs⟩ (.agg #[.int .i64 qk,.int .i64 n0,.string s1,.int .i64 n2,.int .i64 n3,.int .i64 n4,.int .i64 n5,.int .i64 n6,.int .i64 n7,.slice A8 l8 c8,.int .i64 qv,.slice vA o.length vc,.int .i64 qd,.int .i64 qs]):=
 ⟨n0,s1,n2,n3,n4,n5,n6,n7,A8,l8,c8,vA,_,vc,rfl,rfl,RegAt.keep (Nat.le_refl _) (fun _ _ _=>⟨trivial,rfl⟩) _ _ hR,hI.keep (Nat.le_refl _) fun _ _ _=>⟨trivial,rfl⟩,h1,h2⟩
theorem RegAt.other {w:World} {S:Nat→Prop} {R:Qy.Reg} {n0 n2 n3 n4 n5 n6 n7:Int} {s1:ByteArray} {A8:Option Addr} {l8 c8:Nat}
 (hR:RegAt w S [.int .i64 n0,.string s1,.int .i64 n2,.int .i64 n3,.int .i64 n4,.int .i64 n5,.int .i64 n6,.int .i64 n7,.slice A8 l8 c8] R) (k:Int) (nm:Qy.Bs) (a b c d e f:Int) :
 RegAt w S [.int .i64 k,.string (bs nm),.int .i64 a,.int .i64 b,.int .i64 c,.int .i64 d,.int .i64 e,.int .i64 f,.slice A8 l8 c8] (.mk k nm a b c d e f R.kids):=by
 obtain ⟨qk,qn,x0,x1,x2,x3,x4,x5,kids⟩:=R
 rw [RegAt] at hR ⊢
 obtain ⟨A,cc,h1,h2⟩:=hR
 have e8:Value.slice A8 l8 c8=.slice A kids.length cc:=by
  have:=congrArg (fun l:List Value=>l[8]?) h1
  simpa using this
 cases e8
 exact ⟨_,_,rfl,h2⟩
def SX (w:World) (g2:Nat) (g:Nat):Prop:=g≠w.heap.size∧g≠g2
theorem RegAt.sx {w W:World} {S:Nat→Prop} {g2:Nat} {cs:List Value} {R:Qy.Reg} (h:RegAt w S cs R) (hb:Below w.heap.size w W) (hg:w.heap.size<g2):RegAt W (SX w g2) cs R:=
 RegAt.keep hb.size (fun g _ hl=>⟨⟨by omega,by omega⟩,hb.block g hl⟩) _ _ h
theorem IntsAt.sx {w W:World} {S:Nat→Prop} {g2:Nat} {A:Option Addr} {l:List Int} (h:IntsAt w S A l) (hb:Below w.heap.size w W) (hg:w.heap.size<g2):IntsAt W (SX w g2) A l:=
 h.keep hb.size fun g _ hl=>⟨⟨by omega,by omega⟩,hb.block g hl⟩
theorem nodes_kids (k:Int) (nm:Qy.Bs) (a b c d e f:Int) (R:Qy.Reg):Qy.nodes (.mk k nm a b c d e f R.kids)=Qy.nodes R:=by
 obtain ⟨_,_,_,_,_,_,_,_,l⟩:=R
 simp only [Qy.nodes,Qy.Reg.kids]
theorem RegAt.nameS {w:World} {S:Nat→Prop} {R:Qy.Reg} {n0 n2 n3 n4 n5 n6 n7:Int} {s1:ByteArray} {A8:Option Addr} {l8 c8:Nat}
 (hR:RegAt w S [.int .i64 n0,.string s1,.int .i64 n2,.int .i64 n3,.int .i64 n4,.int .i64 n5,.int .i64 n6,.int .i64 n7,.slice A8 l8 c8] R):∃ nm:Qy.Bs,s1=bs nm:=by
 obtain ⟨qk,qn,x0,x1,x2,x3,x4,x5,kids⟩:=R
 rw [RegAt] at hR
 obtain ⟨A,cc,h1,h2⟩:=hR
 refine ⟨qn,?_⟩
 have:=congrArg (fun l:List Value=>l[1]?) h1
 simpa using this
theorem tdiv_bdS {n m:Int} (hm:1≤m) (n0:-9223372036854775808≤n) (n1:n≤9223372036854775807):-9223372036854775808≤n.tdiv m∧n.tdiv m≤9223372036854775807:=by
 rcases Int.lt_or_le n 0 with h | h
 ·have e:n.tdiv m=-((-n) / m):=by
   rw [← Int.tdiv_eq_ediv_of_nonneg (by omega),Int.neg_tdiv,Int.neg_neg]
  have h1:(-n) / m≤-n:=Int.ediv_le_self _ (by omega)
  have h2:0≤(-n) / m:=Int.ediv_nonneg (by omega) (by omega)
  omega
 ·rw [Int.tdiv_eq_ediv_of_nonneg h]
  have h1:n / m≤n:=Int.ediv_le_self _ h
  have h2:0≤n / m:=Int.ediv_nonneg h (by omega)
  omega
theorem KRow.kidsS {T:TypeId} {N:Nat→Prop} {w:World} {v:Value} {l:List Qy.Reg} (h:KRow T N w v l):∃ A c,v=.slice A l.length c∧KidsAt w N A 0 l:=by
 obtain ⟨css,h1,h2,h3,h4⟩:=h
 rcases h2.2 with ⟨rfl,h0⟩ | ⟨g,cap,cur,rfl,hb,hg,hnc,hcm,hcs,htake⟩
 ·have:l=[]:=List.eq_nil_of_length_eq_zero h0
  subst this
  exact ⟨none,0,rfl,by rw [KidsAt];trivial⟩
 ·have hall:∀ c∈css,c.length=9:=fun c hc=>by
   obtain ⟨j,hj⟩:=List.mem_iff_getElem?.1 hc
   have hjl:j<l.length:=by rw [← h1];exact (List.getElem?_eq_some_iff.1 hj).1
   exact (h4 j c l[j] hj (List.getElem?_eq_getElem hjl)).1
  refine ⟨some ⟨g,0,none⟩,cap,rfl,kids_of (h3 g rfl) (heap_lt hg) l css 0 h1 (fun j k cs v hj hv=>?_) fun j cs R hj hR=>RegAt.keep (Nat.le_refl _) (fun g hg _=>⟨hg.1,rfl⟩) cs R (h4 j cs R hj hR).2⟩
  have hjl:j<l.length:=by rw [← h1];exact (List.getElem?_eq_some_iff.1 hj).1
  have hk:k<9:=by
   have:=(List.getElem?_eq_some_iff.1 hv).1
   rw [hall cs (List.mem_of_getElem? hj)] at this
   exact this
  rw [Nat.zero_add]
  have e:=flatten_at css j k cs hall hj hk
  rw [hv,← htake,List.getElem?_take_of_lt (by omega)] at e
  simpa [World.cell?,hg] using e
theorem KRow.pushS {T:TypeId} {N:Nat→Prop} {w1 w2:World} {v v':Value} {l:List Qy.Reg} {css:List (List Value)} {cs:List Value} {R:Qy.Reg} (h1:css.length=l.length) (h3:∀ g,v.ownBlock=some g→N g)
 (h4:∀ (j:Nat) (cs:List Value) (R:Qy.Reg),css[j]? = some cs→l[j]? = some R→cs.length=9∧RegAt w1 (fun g=>N g∧v.ownBlock≠some g) cs R) (hc:cs.length=9) (hR:RegAt w1 (fun g=>N g∧v.ownBlock≠some g) cs R) (hnew:N w1.heap.size)
 (ho:w2.ownsRow 0 T 9 v' (l.length+1) (css.flatten++cs)) (hg:w1.grownBy w2 v.ownBlock) (hv:v'.ownBlock=v.ownBlock∨v'.ownBlock=some w1.heap.size):KRow T N w2 v' (l++[R]):=by
 have hne:∀ g,v.ownBlock≠some g→g<w1.heap.size→v'.ownBlock≠some g:=fun g h k e=>by
  rcases hv with e2 | e2
  ·exact h (e2.symm.trans e)
  ·rw [e2] at e
   injection e with e
   omega
 refine ⟨css++[cs],by simp [h1],by simpa using ho,fun g hg=>?_,fun j cs' R' hj hR'=>?_⟩
 ·rcases hv with e2 | e2
  ·exact h3 g (e2.symm.trans hg)
  ·rw [e2] at hg
   injection hg with hg
   exact hg▸hnew
 have key:∀ cs R,RegAt w1 (fun g=>N g∧v.ownBlock≠some g) cs R→RegAt w2 (fun g=>N g∧v'.ownBlock≠some g) cs R:=fun cs R h=>
  RegAt.keep hg.size (fun g hg' hl=>⟨⟨hg'.1,hne g hg'.2 hl⟩,hg.block g hl (fun e=>hg'.2 e.symm)⟩) cs R h
 rcases Nat.lt_or_ge j l.length with hlt | hge
 ·rw [List.getElem?_append_left (by omega)] at hj hR'
  obtain ⟨k1,k2⟩:=h4 j cs' R' hj hR'
  exact ⟨k1,key _ _ k2⟩
 ·rw [List.getElem?_append_right (by omega)] at hj hR'
  have hj0:j - l.length=0:=by
   have:=(List.getElem?_eq_some_iff.1 hR').1
   simp at this
   omega
  rw [h1,hj0] at hj
  rw [hj0] at hR'
  simp only [List.getElem?_cons_zero,Option.some.injEq] at hj hR'
  subst hj
  subst hR'
  exact ⟨hc,key _ _ hR⟩
theorem reg_infoS:(Tryz.prog.info? 32).map (fun i=>(i.zero,i.size,i.bytes))=some (some (.agg #[.int .i64 0,.string ⟨#[]⟩,.int .i64 0,.int .i64 0,.int .i64 0,.int .i64 0,.int .i64 0,.int .i64 0,.slice none 0 0]),9,96):=by kernel_rfl
theorem wrap_reg {w:World} {N:Nat→Prop} {cs:List Value} {R:Qy.Reg} {T:TypeId} (h:RegAt w N cs R) (hN:N w.heap.size) :
 RegAt (w.alloc (.cells cs.toArray T)) N [.int .i64 6,.string ⟨#[]⟩,.int .i64 0,.int .i64 0,.int .i64 0,.int .i64 0,.int .i64 0,.int .i64 0,.slice (some ⟨w.heap.size,0,none⟩) 1 1] (Qy.kidsR 6 [R]):=by
 obtain ⟨A,c,rfl,_⟩:=h.cells
 have h1:=KRow.one (T:=T) (A:=A) (c:=c) h hN
 obtain ⟨A',c',e,hk⟩:=h1.kidsS
 cases e
 exact RegAt.of (R:=Qy.kidsR 6 [R]) hk
theorem nodes_wrap (R:Qy.Reg):Qy.nodes (Qy.kidsR 6 [R])=Qy.nodes R+1:=by
 unfold Qy.kidsR
 simp only [Qy.nodes,Qy.nodesL]
def regX:Qy.Reg:=.mk 1 [120] 0 0 0 0 0 0 []
theorem nodes_X (n:Nat):Qy.nodes (Qy.kidsR 5 (List.replicate n regX))=n+1:=by
 have h:∀ n,Qy.nodesL (List.replicate n regX)=n:=by
  intro n
  induction n with
  | zero=>rfl
  | succ n ih=>
   rw [List.replicate_succ,Qy.nodesL,ih]
   have:Qy.nodes regX=1:=by decide
   omega
 unfold Qy.kidsR
 rw [Qy.nodes,h]
theorem KRow.list5 {T:TypeId} {N:Nat→Prop} {w:World} {v:Value} {n:Nat} (h:KRow T N w v (List.replicate n regX)):∃ A c,v=.slice A n c∧RegAt w N [.int .i64 5,.string ⟨#[]⟩,.int .i64 0,.int .i64 0,.int .i64 0,.int .i64 0,.int .i64 0,.int .i64 0,.slice A n c] (Qy.kidsR 5 (List.replicate n regX)):=by
 obtain ⟨A,c,e,hk⟩:=h.kidsS
 have h5:=RegAt.of (R:=Qy.kidsR 5 (List.replicate n regX)) (A:=A) (c:=c) hk
 rw [List.length_replicate] at e
 refine ⟨A,c,e,?_⟩
 have e5:regCells (Qy.kidsR 5 (List.replicate n regX)) A c=[.int .i64 5,.string ⟨#[]⟩,.int .i64 0,.int .i64 0,.int .i64 0,.int .i64 0,.int .i64 0,.int .i64 0,.slice A n c]:=by
  show [Value.int .i64 5,.string (bs []),.int .i64 0,.int .i64 0,.int .i64 0,.int .i64 0,.int .i64 0,.int .i64 0,.slice A (List.replicate n regX).length c]=_
  rw [List.length_replicate]
  rfl
 rw [e5] at h5
 exact h5
set_option maxRecDepth 100000 in
set_option maxHeartbeats 12800000 in
theorem Spoilt_g0 (q:Qy.Qry) (hn:Qy.nodes q.reg≤700000) (ho:q.offs.length≤900) (v:Value) (w:World) (hv:IsQry w q v) {how by_:Int} (hh:in64 how) (hb:in64 by_) (hgr:around how 10=0∨around how 10=1∨around how 10=2∨around how 10=3) :
 Calls Tryz.prog 17 #[v,.int .i64 how,.int .i64 by_] w (SpR (Qy.nodes q.reg+260) (q.offs.length+9) w):=by
 obtain ⟨n0,s1,n2,n3,n4,n5,n6,n7,A8,l8,c8,vA,vl,vc,rfl,hvl,hR,hI,hv1,hv2⟩:=hv
 obtain ⟨qk,QR,qv,qo,qd,qs⟩:=q
 simp only at hn ho hvl hR hI hv1 ⊢
 rw [← hvl] at hv1
 obtain ⟨nm0,rfl⟩:=hR.nameS
 obtain ⟨a,ha⟩:∃ z,around how 10=z:=⟨_,rfl⟩
 have ca:=around_bd how (m:=10) (by omega)
 rw [ha] at ca
 rw [ha] at hgr
 have Ha:=Lib.hid fun u=>Around_any how 10 u hh.1 hh.2 (by omega) (by omega)
 rw [ha] at Ha
 clear ha
 obtain ⟨p,hp⟩:∃ z,around by_ 9=z:=⟨_,rfl⟩
 have cp:=around_bd by_ (m:=9) (by omega)
 rw [hp] at cp
 have Hp:=Lib.hid fun u=>Around_any by_ 9 u hb.1 hb.2 (by omega) (by omega)
 rw [hp] at Hp
 clear hp
 have HB:=Lib.hid (And.intro hh hb)
 have HT10:=Lib.hid (tdiv_bdS (m:=10) (by omega) hh.1 hh.2)
 have HQ:=Lib.hid (And.intro hR (And.intro hI (And.intro hv1 hv2)))
 have HN:=Lib.hid (And.intro hn (And.intro ho hvl))
 clear hh hb hR hI hv1 hv2 hn ho hvl
 go_enter Tryz.func17,Tryz.ntmps17
 go_upto_region 1 with fail
 refine wp_new2 fun W0 hA hQ hB=>?_
 obtain ⟨g2,hg2⟩:∃ g2,w.heap.size+1=g2:=⟨_,rfl⟩
 rw [hg2] at hQ ⊢
 have hg2w:w.heap.size<g2:=by omega
 have HG:=Lib.hid hg2w
 have HS:=Lib.hid (And.intro hA (And.intro hQ hB))
 clear hA hQ hB hg2 hg2w
 go_wp2_with fail
 refine (Hp.out _).mono ?_
 rintro e w3 ⟨rfl,k3⟩
 have hN:=(Own.new W0 _ _).on k3
 have hb3:Below W0.heap.size W0 w3:=Below.call ((Below.refl _ W0).alloc (Nat.le_refl _) _) k3
 obtain ⟨i,rfl⟩:∃ i:Nat,p=(i:Int):=⟨p.toNat,by omega⟩
 obtain ⟨u0,hy⟩:∃ y:Int,w3.cell? ⟨W0.heap.size,i,none⟩=some (.int .i64 y):=by
  rw [hN.cell i]
  have:i=0∨i=1∨i=2∨i=3∨i=4∨i=5∨i=6∨i=7∨i=8:=by omega
  rcases this with rfl | rfl | rfl | rfl | rfl | rfl | rfl | rfl | rfl <;> exact ⟨_,rfl⟩
 have i0:(0:Int)≤(i:Int):=by omega
 have i1:(i:Int)<9:=by omega
 have HI9:=Lib.hid i1
 have HP9:=Hp
 have HS3:=Lib.hid (And.intro (HS.out.1.on hb3) (And.intro (HS.out.2.1.on hb3) (Below.call HS.out.2.2 hb3)))
 clear hN hb3 k3 cp HS Hp
 go_wp2_with fail
 refine (Ha.out _).mono ?_
 rintro e w4 ⟨rfl,k4⟩
 have hA4:=HS3.out.1.on k4
 have hQ4:=HS3.out.2.1.on k4
 have hB4:=Below.call HS3.out.2.2 k4
 clear hy i0 i1 HS3 k4 Ha
 have HW:=Lib.hid (And.intro hQ4 hB4)
 clear hQ4 hB4
 clear ca
 rcases hgr with rfl | rfl | rfl | rfl
 ·
  have z0:=hA4.cell 0
  have f0:=hA4.frozen 0
  go_upto_region 30 with fail
  have hO:=(hA4.set_ 0 (.int .i64 u0))
  have hQ9:=(HW.out.1.far (p:=⟨w.heap.size,0,none⟩) (Nat.ne_of_gt HG.out) (.int .i64 u0))
  have hB9:=(HW.out.2.setCell (p:=⟨w.heap.size,0,none⟩) (Nat.le_refl _) (.int .i64 u0))
  clear hA4 z0 f0
  revert hO hQ9 hB9
  generalize World.setCell _ _ _=W9
  intro hO hQ9 hB9
  replace hO:Own W9 w.heap.size 36 [.int .i64 u0,.int .i64 n0,.string (bs nm0),.int .i64 n2,.int .i64 n3,.int .i64 n4,.int .i64 n5,.int .i64 n6,.int .i64 n7,.slice A8 l8 c8,.int .i64 qv,.slice vA vl vc,.int .i64 qd,.int .i64 qs]:=hO
  obtain ⟨⟨y0,y1,y2,y3,y4,y5,y6,y7,y8,y9,y10,y11,y12,y13⟩,_⟩:=hO.all14
  obtain ⟨⟨z0,z1,z2,z3,z4,z5,z6,z7,z8,z9,z10,z11,z12,z13⟩,f0,f1,f2,f3,f4,f5,f6,f7,f8,f9,f10,f11,f12,f13⟩:=hQ9.all14
  have HF:=Lib.hid (And.intro hQ9 (And.intro hB9 (And.intro (RegAt.sx HQ.out.1 hB9 HG.out) (IntsAt.sx HQ.out.2.1 hB9 HG.out))))
  clear hO hQ9 hB9
  have hg9:=HG.out
  go_wp2_with fail
  obtain ⟨hO,hk9⟩:=HF.out.1.put14 (x0:=.int .i64 u0) (x1:=.int .i64 n0) (x2:=.string (bs nm0)) (x3:=.int .i64 n2) (x4:=.int .i64 n3) (x5:=.int .i64 n4) (x6:=.int .i64 n5) (x7:=.int .i64 n6) (x8:=.int .i64 n7) (x9:=.slice A8 l8 c8) (x10:=.int .i64 qv) (x11:=.slice vA vl vc) (x12:=.int .i64 qd) (x13:=.int .i64 qs)
  clear z0 y0 f0 z1 y1 f1 z2 y2 f2 z3 y3 f3 z4 y4 f4 z5 y5 f5 z6 y6 f6 z7 y7 f7 z8 y8 f8 z9 y9 f9 z10 y10 f10 z11 y11 f11 z12 y12 f12 z13 y13 f13
  revert hO hk9
  generalize ((((((((((((((World.setCell _ _ _).setCell _ _).setCell _ _).setCell _ _).setCell _ _).setCell _ _).setCell _ _).setCell _ _).setCell _ _).setCell _ _).setCell _ _).setCell _ _).setCell _ _).setCell _ _)=W10
  intro hO hk9
  obtain ⟨⟨q0,q1,q2,q3,q4,q5,q6,q7,q8,q9,q10,q11,q12,q13⟩,_⟩:=hO.all14
  refine bodyPost_ret (v:=.agg #[.int .i64 u0,.int .i64 n0,.string (bs nm0),.int .i64 n2,.int .i64 n3,.int .i64 n4,.int .i64 n5,.int .i64 n6,.int .i64 n7,.slice A8 l8 c8,.int .i64 qv,.slice vA vl vc,.int .i64 qd,.int .i64 qs]) (by simp [results,Tryz.results17,go_sem,q0,q1,q2,q3,q4,q5,q6,q7,q8,q9,q10,q11,q12,q13]) rfl ?_
  refine ⟨⟨u0,QR,qv,qo,qd,qs⟩,_,rfl,below_put HF.out.2.1 hk9 (Nat.le_of_lt HG.out),?_,by show Qy.nodes QR≤_;omega,by show qo.length≤_;omega⟩
  have hR9:=RegAt.keep (S':=fun _=>True) hk9.size (fun g hg hl=>⟨trivial,hk9.heap hl hg.2⟩) _ _ HF.out.2.2.1
  have hI9:=HF.out.2.2.2.keep (S':=fun _=>True) hk9.size (fun g hg hl=>⟨trivial,hk9.heap hl hg.2⟩)
  exact HN.out.2.2▸isQry_mk hR9 hI9 (by have:=HQ.out.2.2.1;have:=HN.out.2.2;omega) HQ.out.2.2.2
 ·
  have z12:=hA4.cell 12
  have f12:=hA4.frozen 12
  go_upto_region 30 with fail
  have hO:=(hA4.set_ 12 (.int .i64 u0))
  have hQ9:=(HW.out.1.far (p:=⟨w.heap.size,12,none⟩) (Nat.ne_of_gt HG.out) (.int .i64 u0))
  have hB9:=(HW.out.2.setCell (p:=⟨w.heap.size,12,none⟩) (Nat.le_refl _) (.int .i64 u0))
  clear hA4 z12 f12
  revert hO hQ9 hB9
  generalize World.setCell _ _ _=W9
  intro hO hQ9 hB9
  replace hO:Own W9 w.heap.size 36 [.int .i64 qk,.int .i64 n0,.string (bs nm0),.int .i64 n2,.int .i64 n3,.int .i64 n4,.int .i64 n5,.int .i64 n6,.int .i64 n7,.slice A8 l8 c8,.int .i64 qv,.slice vA vl vc,.int .i64 u0,.int .i64 qs]:=hO
  obtain ⟨⟨y0,y1,y2,y3,y4,y5,y6,y7,y8,y9,y10,y11,y12,y13⟩,_⟩:=hO.all14
  obtain ⟨⟨z0,z1,z2,z3,z4,z5,z6,z7,z8,z9,z10,z11,z12,z13⟩,f0,f1,f2,f3,f4,f5,f6,f7,f8,f9,f10,f11,f12,f13⟩:=hQ9.all14
  have HF:=Lib.hid (And.intro hQ9 (And.intro hB9 (And.intro (RegAt.sx HQ.out.1 hB9 HG.out) (IntsAt.sx HQ.out.2.1 hB9 HG.out))))
  clear hO hQ9 hB9
  have hg9:=HG.out
  go_wp2_with fail
  obtain ⟨hO,hk9⟩:=HF.out.1.put14 (x0:=.int .i64 qk) (x1:=.int .i64 n0) (x2:=.string (bs nm0)) (x3:=.int .i64 n2) (x4:=.int .i64 n3) (x5:=.int .i64 n4) (x6:=.int .i64 n5) (x7:=.int .i64 n6) (x8:=.int .i64 n7) (x9:=.slice A8 l8 c8) (x10:=.int .i64 qv) (x11:=.slice vA vl vc) (x12:=.int .i64 u0) (x13:=.int .i64 qs)
  clear z0 y0 f0 z1 y1 f1 z2 y2 f2 z3 y3 f3 z4 y4 f4 z5 y5 f5 z6 y6 f6 z7 y7 f7 z8 y8 f8 z9 y9 f9 z10 y10 f10 z11 y11 f11 z12 y12 f12 z13 y13 f13
  revert hO hk9
  generalize ((((((((((((((World.setCell _ _ _).setCell _ _).setCell _ _).setCell _ _).setCell _ _).setCell _ _).setCell _ _).setCell _ _).setCell _ _).setCell _ _).setCell _ _).setCell _ _).setCell _ _).setCell _ _)=W10
  intro hO hk9
  obtain ⟨⟨q0,q1,q2,q3,q4,q5,q6,q7,q8,q9,q10,q11,q12,q13⟩,_⟩:=hO.all14
  refine bodyPost_ret (v:=.agg #[.int .i64 qk,.int .i64 n0,.string (bs nm0),.int .i64 n2,.int .i64 n3,.int .i64 n4,.int .i64 n5,.int .i64 n6,.int .i64 n7,.slice A8 l8 c8,.int .i64 qv,.slice vA vl vc,.int .i64 u0,.int .i64 qs]) (by simp [results,Tryz.results17,go_sem,q0,q1,q2,q3,q4,q5,q6,q7,q8,q9,q10,q11,q12,q13]) rfl ?_
  refine ⟨⟨qk,QR,qv,qo,u0,qs⟩,_,rfl,below_put HF.out.2.1 hk9 (Nat.le_of_lt HG.out),?_,by show Qy.nodes QR≤_;omega,by show qo.length≤_;omega⟩
  have hR9:=RegAt.keep (S':=fun _=>True) hk9.size (fun g hg hl=>⟨trivial,hk9.heap hl hg.2⟩) _ _ HF.out.2.2.1
  have hI9:=HF.out.2.2.2.keep (S':=fun _=>True) hk9.size (fun g hg hl=>⟨trivial,hk9.heap hl hg.2⟩)
  exact HN.out.2.2▸isQry_mk hR9 hI9 (by have:=HQ.out.2.2.1;have:=HN.out.2.2;omega) HQ.out.2.2.2
 ·
  have z13:=hA4.cell 13
  have f13:=hA4.frozen 13
  go_upto_region 30 with fail
  have hO:=(hA4.set_ 13 (.int .i64 u0))
  have hQ9:=(HW.out.1.far (p:=⟨w.heap.size,13,none⟩) (Nat.ne_of_gt HG.out) (.int .i64 u0))
  have hB9:=(HW.out.2.setCell (p:=⟨w.heap.size,13,none⟩) (Nat.le_refl _) (.int .i64 u0))
  clear hA4 z13 f13
  revert hO hQ9 hB9
  generalize World.setCell _ _ _=W9
  intro hO hQ9 hB9
  replace hO:Own W9 w.heap.size 36 [.int .i64 qk,.int .i64 n0,.string (bs nm0),.int .i64 n2,.int .i64 n3,.int .i64 n4,.int .i64 n5,.int .i64 n6,.int .i64 n7,.slice A8 l8 c8,.int .i64 qv,.slice vA vl vc,.int .i64 qd,.int .i64 u0]:=hO
  obtain ⟨⟨y0,y1,y2,y3,y4,y5,y6,y7,y8,y9,y10,y11,y12,y13⟩,_⟩:=hO.all14
  obtain ⟨⟨z0,z1,z2,z3,z4,z5,z6,z7,z8,z9,z10,z11,z12,z13⟩,f0,f1,f2,f3,f4,f5,f6,f7,f8,f9,f10,f11,f12,f13⟩:=hQ9.all14
  have HF:=Lib.hid (And.intro hQ9 (And.intro hB9 (And.intro (RegAt.sx HQ.out.1 hB9 HG.out) (IntsAt.sx HQ.out.2.1 hB9 HG.out))))
  clear hO hQ9 hB9
  have hg9:=HG.out
  go_wp2_with fail
  obtain ⟨hO,hk9⟩:=HF.out.1.put14 (x0:=.int .i64 qk) (x1:=.int .i64 n0) (x2:=.string (bs nm0)) (x3:=.int .i64 n2) (x4:=.int .i64 n3) (x5:=.int .i64 n4) (x6:=.int .i64 n5) (x7:=.int .i64 n6) (x8:=.int .i64 n7) (x9:=.slice A8 l8 c8) (x10:=.int .i64 qv) (x11:=.slice vA vl vc) (x12:=.int .i64 qd) (x13:=.int .i64 u0)
  clear z0 y0 f0 z1 y1 f1 z2 y2 f2 z3 y3 f3 z4 y4 f4 z5 y5 f5 z6 y6 f6 z7 y7 f7 z8 y8 f8 z9 y9 f9 z10 y10 f10 z11 y11 f11 z12 y12 f12 z13 y13 f13
  revert hO hk9
  generalize ((((((((((((((World.setCell _ _ _).setCell _ _).setCell _ _).setCell _ _).setCell _ _).setCell _ _).setCell _ _).setCell _ _).setCell _ _).setCell _ _).setCell _ _).setCell _ _).setCell _ _).setCell _ _)=W10
  intro hO hk9
  obtain ⟨⟨q0,q1,q2,q3,q4,q5,q6,q7,q8,q9,q10,q11,q12,q13⟩,_⟩:=hO.all14
  refine bodyPost_ret (v:=.agg #[.int .i64 qk,.int .i64 n0,.string (bs nm0),.int .i64 n2,.int .i64 n3,.int .i64 n4,.int .i64 n5,.int .i64 n6,.int .i64 n7,.slice A8 l8 c8,.int .i64 qv,.slice vA vl vc,.int .i64 qd,.int .i64 u0]) (by simp [results,Tryz.results17,go_sem,q0,q1,q2,q3,q4,q5,q6,q7,q8,q9,q10,q11,q12,q13]) rfl ?_
  refine ⟨⟨qk,QR,qv,qo,qd,u0⟩,_,rfl,below_put HF.out.2.1 hk9 (Nat.le_of_lt HG.out),?_,by show Qy.nodes QR≤_;omega,by show qo.length≤_;omega⟩
  have hR9:=RegAt.keep (S':=fun _=>True) hk9.size (fun g hg hl=>⟨trivial,hk9.heap hl hg.2⟩) _ _ HF.out.2.2.1
  have hI9:=HF.out.2.2.2.keep (S':=fun _=>True) hk9.size (fun g hg hl=>⟨trivial,hk9.heap hl hg.2⟩)
  exact HN.out.2.2▸isQry_mk hR9 hI9 (by have:=HQ.out.2.2.1;have:=HN.out.2.2;omega) HQ.out.2.2.2
 ·
  have HBV:Hid (∀ u,Below w.heap.size w u→Calls Tryz.prog 22 #[.agg #[.int .i64 qv,.slice vA vl vc],.int .i64 (how.tdiv 10),.int .i64 by_] u (ViewB (qo.length+9) u)):=Lib.hid fun u hu=>by
   have h:=BentView_any (k:=qv) (c:=vc) (HQ.out.2.1.on hu) (by have:=HN.out.2.1;omega) (how.tdiv 10) by_ HT10.out HB.out.2
   rw [HN.out.2.2]
   exact h
  have z10:=hA4.cell 10
  have z11:=hA4.cell 11
  have hb_:=HT10.out
  go_wp2_with fail
  refine (HBV.out _ HW.out.2).mono ?_
  rintro e w5 ⟨k5,o5,A5,c5,rfl,hb5,hI5,h5a,h5b,h5c⟩
  obtain ⟨m5,hm5⟩:∃ m,o5.length=m:=⟨_,rfl⟩
  have HM:=Lib.hid (And.intro hm5 (And.intro h5a (And.intro h5b h5c)))
  rw [hm5]
  have hA5:=hA4.on hb5
  have HA4:=Lib.hid (And.intro hA4.lt HW.out.1.lt)
  have HW5:=Lib.hid (And.intro (HW.out.1.on hb5) (Below.call HW.out.2 hb5))
  clear z10 z11 hb_ hA4 hb5 hm5 h5a h5b h5c HW HBV
  have z10:=hA5.cell 10
  have f10:=hA5.frozen 10
  have z11:=hA5.cell 11
  have f11:=hA5.frozen 11
  go_upto_region 30 with fail
  have hO:=((hA5.set_ 10 (.int .i64 k5)).set_ 11 (.slice A5 m5 c5))
  have hQ9:=((HW5.out.1.far (p:=⟨w.heap.size,10,none⟩) (Nat.ne_of_gt HG.out) (.int .i64 k5)).far (p:=⟨w.heap.size,11,none⟩) (Nat.ne_of_gt HG.out) (.slice A5 m5 c5))
  have hB9:=((HW5.out.2.setCell (p:=⟨w.heap.size,10,none⟩) (Nat.le_refl _) (.int .i64 k5)).setCell (p:=⟨w.heap.size,11,none⟩) (Nat.le_refl _) (.slice A5 m5 c5))
  have hI9:=((hI5.far1 (p:=⟨w.heap.size,10,none⟩) (HA4.out.1) (.int .i64 k5)).far1 (p:=⟨w.heap.size,11,none⟩) (HA4.out.1) (.slice A5 m5 c5))
  clear hA5 z10 f10 z11 f11 hI5
  revert hO hQ9 hB9 hI9
  generalize (World.setCell _ _ _).setCell _ _=W9
  intro hO hQ9 hB9 hI9
  replace hO:Own W9 w.heap.size 36 [.int .i64 qk,.int .i64 n0,.string (bs nm0),.int .i64 n2,.int .i64 n3,.int .i64 n4,.int .i64 n5,.int .i64 n6,.int .i64 n7,.slice A8 l8 c8,.int .i64 k5,.slice A5 m5 c5,.int .i64 qd,.int .i64 qs]:=hO
  obtain ⟨⟨y0,y1,y2,y3,y4,y5,y6,y7,y8,y9,y10,y11,y12,y13⟩,_⟩:=hO.all14
  obtain ⟨⟨z0,z1,z2,z3,z4,z5,z6,z7,z8,z9,z10,z11,z12,z13⟩,f0,f1,f2,f3,f4,f5,f6,f7,f8,f9,f10,f11,f12,f13⟩:=hQ9.all14
  have HF:=Lib.hid (And.intro hQ9 (And.intro hB9 (And.intro (RegAt.sx HQ.out.1 hB9 HG.out) (hI9.keep (S':=SX w g2) (Nat.le_refl _) (fun g hg hl=>⟨⟨by have:=HA4.out.1;omega,by have:=HA4.out.2;omega⟩,rfl⟩)))))
  clear hO hQ9 hB9
  have hg9:=HG.out
  go_wp2_with fail
  obtain ⟨hO,hk9⟩:=HF.out.1.put14 (x0:=.int .i64 qk) (x1:=.int .i64 n0) (x2:=.string (bs nm0)) (x3:=.int .i64 n2) (x4:=.int .i64 n3) (x5:=.int .i64 n4) (x6:=.int .i64 n5) (x7:=.int .i64 n6) (x8:=.int .i64 n7) (x9:=.slice A8 l8 c8) (x10:=.int .i64 k5) (x11:=.slice A5 m5 c5) (x12:=.int .i64 qd) (x13:=.int .i64 qs)
  clear z0 y0 f0 z1 y1 f1 z2 y2 f2 z3 y3 f3 z4 y4 f4 z5 y5 f5 z6 y6 f6 z7 y7 f7 z8 y8 f8 z9 y9 f9 z10 y10 f10 z11 y11 f11 z12 y12 f12 z13 y13 f13
  revert hO hk9
  generalize ((((((((((((((World.setCell _ _ _).setCell _ _).setCell _ _).setCell _ _).setCell _ _).setCell _ _).setCell _ _).setCell _ _).setCell _ _).setCell _ _).setCell _ _).setCell _ _).setCell _ _).setCell _ _)=W10
  intro hO hk9
  obtain ⟨⟨q0,q1,q2,q3,q4,q5,q6,q7,q8,q9,q10,q11,q12,q13⟩,_⟩:=hO.all14
  refine bodyPost_ret (v:=.agg #[.int .i64 qk,.int .i64 n0,.string (bs nm0),.int .i64 n2,.int .i64 n3,.int .i64 n4,.int .i64 n5,.int .i64 n6,.int .i64 n7,.slice A8 l8 c8,.int .i64 k5,.slice A5 m5 c5,.int .i64 qd,.int .i64 qs]) (by simp [results,Tryz.results17,go_sem,q0,q1,q2,q3,q4,q5,q6,q7,q8,q9,q10,q11,q12,q13]) rfl ?_
  refine ⟨⟨qk,QR,k5,o5,qd,qs⟩,_,rfl,below_put HF.out.2.1 hk9 (Nat.le_of_lt HG.out),?_,by show Qy.nodes QR≤_;omega,by show o5.length≤_;exact HM.out.2.1⟩
  have hR9:=RegAt.keep (S':=fun _=>True) hk9.size (fun g hg hl=>⟨trivial,hk9.heap hl hg.2⟩) _ _ HF.out.2.2.1
  have hI9:=HF.out.2.2.2.keep (S':=fun _=>True) hk9.size (fun g hg hl=>⟨trivial,hk9.heap hl hg.2⟩)
  exact HM.out.1▸isQry_mk hR9 hI9 HM.out.2.2.1 HM.out.2.2.2
set_option maxRecDepth 100000 in
set_option maxHeartbeats 12800000 in
theorem Spoilt_g1 (q:Qy.Qry) (hn:Qy.nodes q.reg≤700000) (ho:q.offs.length≤900) (v:Value) (w:World) (hv:IsQry w q v) {how by_:Int} (hh:in64 how) (hb:in64 by_) (hgr:around how 10=4∨around how 10=5∨around how 10=6∨around how 10=7) :
 Calls Tryz.prog 17 #[v,.int .i64 how,.int .i64 by_] w (SpR (Qy.nodes q.reg+260) (q.offs.length+9) w):=by
 obtain ⟨n0,s1,n2,n3,n4,n5,n6,n7,A8,l8,c8,vA,vl,vc,rfl,hvl,hR,hI,hv1,hv2⟩:=hv
 obtain ⟨qk,QR,qv,qo,qd,qs⟩:=q
 simp only at hn ho hvl hR hI hv1 ⊢
 rw [← hvl] at hv1
 obtain ⟨nm0,rfl⟩:=hR.nameS
 obtain ⟨a,ha⟩:∃ z,around how 10=z:=⟨_,rfl⟩
 have ca:=around_bd how (m:=10) (by omega)
 rw [ha] at ca
 rw [ha] at hgr
 have Ha:=Lib.hid fun u=>Around_any how 10 u hh.1 hh.2 (by omega) (by omega)
 rw [ha] at Ha
 clear ha
 obtain ⟨p,hp⟩:∃ z,around by_ 9=z:=⟨_,rfl⟩
 have cp:=around_bd by_ (m:=9) (by omega)
 rw [hp] at cp
 have Hp:=Lib.hid fun u=>Around_any by_ 9 u hb.1 hb.2 (by omega) (by omega)
 rw [hp] at Hp
 clear hp
 obtain ⟨q,hq⟩:∃ z,around by_ 5=z:=⟨_,rfl⟩
 have cq:=around_bd by_ (m:=5) (by omega)
 rw [hq] at cq
 have Hq:=Lib.hid fun u=>Around_any by_ 5 u hb.1 hb.2 (by omega) (by omega)
 rw [hq] at Hq
 clear hq
 obtain ⟨x,hx⟩:∃ z,around by_ 3=z:=⟨_,rfl⟩
 have cx:=around_bd by_ (m:=3) (by omega)
 rw [hx] at cx
 have Hx:=Lib.hid fun u=>Around_any by_ 3 u hb.1 hb.2 (by omega) (by omega)
 rw [hx] at Hx
 clear hx
 have HB:=Lib.hid (And.intro hh hb)
 have HT10:=Lib.hid (tdiv_bdS (m:=10) (by omega) hh.1 hh.2)
 have HQ:=Lib.hid (And.intro hR (And.intro hI (And.intro hv1 hv2)))
 have HN:=Lib.hid (And.intro hn (And.intro ho hvl))
 clear hh hb hR hI hv1 hv2 hn ho hvl
 go_enter Tryz.func17,Tryz.ntmps17
 go_upto_region 1 with fail
 refine wp_new2 fun W0 hA hQ hB=>?_
 obtain ⟨g2,hg2⟩:∃ g2,w.heap.size+1=g2:=⟨_,rfl⟩
 rw [hg2] at hQ ⊢
 have hg2w:w.heap.size<g2:=by omega
 have HG:=Lib.hid hg2w
 have HS:=Lib.hid (And.intro hA (And.intro hQ hB))
 clear hA hQ hB hg2 hg2w
 go_wp2_with fail
 refine (Hp.out _).mono ?_
 rintro e w3 ⟨rfl,k3⟩
 have hN:=(Own.new W0 _ _).on k3
 have hb3:Below W0.heap.size W0 w3:=Below.call ((Below.refl _ W0).alloc (Nat.le_refl _) _) k3
 obtain ⟨i,rfl⟩:∃ i:Nat,p=(i:Int):=⟨p.toNat,by omega⟩
 obtain ⟨u0,hy⟩:∃ y:Int,w3.cell? ⟨W0.heap.size,i,none⟩=some (.int .i64 y):=by
  rw [hN.cell i]
  have:i=0∨i=1∨i=2∨i=3∨i=4∨i=5∨i=6∨i=7∨i=8:=by omega
  rcases this with rfl | rfl | rfl | rfl | rfl | rfl | rfl | rfl | rfl <;> exact ⟨_,rfl⟩
 have i0:(0:Int)≤(i:Int):=by omega
 have i1:(i:Int)<9:=by omega
 have HI9:=Lib.hid i1
 have HP9:=Hp
 have HS3:=Lib.hid (And.intro (HS.out.1.on hb3) (And.intro (HS.out.2.1.on hb3) (Below.call HS.out.2.2 hb3)))
 clear hN hb3 k3 cp HS Hp
 go_wp2_with fail
 refine (Ha.out _).mono ?_
 rintro e w4 ⟨rfl,k4⟩
 have hA4:=HS3.out.1.on k4
 have hQ4:=HS3.out.2.1.on k4
 have hB4:=Below.call HS3.out.2.2 k4
 clear hy i0 i1 HS3 k4 Ha
 have HW:=Lib.hid (And.intro hQ4 hB4)
 clear hQ4 hB4
 clear ca
 rcases hgr with rfl | rfl | rfl | rfl
 ·
  have z1:=hA4.cell 1
  have f1:=hA4.frozen 1
  go_upto_region 30 with fail
  have hO:=(hA4.set_ 1 (.int .i64 u0))
  have hQ9:=(HW.out.1.far (p:=⟨w.heap.size,1,none⟩) (Nat.ne_of_gt HG.out) (.int .i64 u0))
  have hB9:=(HW.out.2.setCell (p:=⟨w.heap.size,1,none⟩) (Nat.le_refl _) (.int .i64 u0))
  clear hA4 z1 f1
  revert hO hQ9 hB9
  generalize World.setCell _ _ _=W9
  intro hO hQ9 hB9
  replace hO:Own W9 w.heap.size 36 [.int .i64 qk,.int .i64 u0,.string (bs nm0),.int .i64 n2,.int .i64 n3,.int .i64 n4,.int .i64 n5,.int .i64 n6,.int .i64 n7,.slice A8 l8 c8,.int .i64 qv,.slice vA vl vc,.int .i64 qd,.int .i64 qs]:=hO
  obtain ⟨⟨y0,y1,y2,y3,y4,y5,y6,y7,y8,y9,y10,y11,y12,y13⟩,_⟩:=hO.all14
  obtain ⟨⟨z0,z1,z2,z3,z4,z5,z6,z7,z8,z9,z10,z11,z12,z13⟩,f0,f1,f2,f3,f4,f5,f6,f7,f8,f9,f10,f11,f12,f13⟩:=hQ9.all14
  have HF:=Lib.hid (And.intro hQ9 (And.intro hB9 (And.intro (RegAt.sx (RegAt.other HQ.out.1 u0 nm0 n2 n3 n4 n5 n6 n7) hB9 HG.out) (IntsAt.sx HQ.out.2.1 hB9 HG.out))))
  clear hO hQ9 hB9
  have hg9:=HG.out
  go_wp2_with fail
  obtain ⟨hO,hk9⟩:=HF.out.1.put14 (x0:=.int .i64 qk) (x1:=.int .i64 u0) (x2:=.string (bs nm0)) (x3:=.int .i64 n2) (x4:=.int .i64 n3) (x5:=.int .i64 n4) (x6:=.int .i64 n5) (x7:=.int .i64 n6) (x8:=.int .i64 n7) (x9:=.slice A8 l8 c8) (x10:=.int .i64 qv) (x11:=.slice vA vl vc) (x12:=.int .i64 qd) (x13:=.int .i64 qs)
  clear z0 y0 f0 z1 y1 f1 z2 y2 f2 z3 y3 f3 z4 y4 f4 z5 y5 f5 z6 y6 f6 z7 y7 f7 z8 y8 f8 z9 y9 f9 z10 y10 f10 z11 y11 f11 z12 y12 f12 z13 y13 f13
  revert hO hk9
  generalize ((((((((((((((World.setCell _ _ _).setCell _ _).setCell _ _).setCell _ _).setCell _ _).setCell _ _).setCell _ _).setCell _ _).setCell _ _).setCell _ _).setCell _ _).setCell _ _).setCell _ _).setCell _ _)=W10
  intro hO hk9
  obtain ⟨⟨q0,q1,q2,q3,q4,q5,q6,q7,q8,q9,q10,q11,q12,q13⟩,_⟩:=hO.all14
  refine bodyPost_ret (v:=.agg #[.int .i64 qk,.int .i64 u0,.string (bs nm0),.int .i64 n2,.int .i64 n3,.int .i64 n4,.int .i64 n5,.int .i64 n6,.int .i64 n7,.slice A8 l8 c8,.int .i64 qv,.slice vA vl vc,.int .i64 qd,.int .i64 qs]) (by simp [results,Tryz.results17,go_sem,q0,q1,q2,q3,q4,q5,q6,q7,q8,q9,q10,q11,q12,q13]) rfl ?_
  refine ⟨⟨qk,.mk u0 nm0 n2 n3 n4 n5 n6 n7 QR.kids,qv,qo,qd,qs⟩,_,rfl,below_put HF.out.2.1 hk9 (Nat.le_of_lt HG.out),?_,by show Qy.nodes (.mk _ _ _ _ _ _ _ _ QR.kids)≤_;rw [nodes_kids];omega,by show qo.length≤_;omega⟩
  have hR9:=RegAt.keep (S':=fun _=>True) hk9.size (fun g hg hl=>⟨trivial,hk9.heap hl hg.2⟩) _ _ HF.out.2.2.1
  have hI9:=HF.out.2.2.2.keep (S':=fun _=>True) hk9.size (fun g hg hl=>⟨trivial,hk9.heap hl hg.2⟩)
  exact HN.out.2.2▸isQry_mk hR9 hI9 (by have:=HQ.out.2.2.1;have:=HN.out.2.2;omega) HQ.out.2.2.2
 ·
  go_wp2_with fail
  refine (Hq.out _).mono ?_
  rintro e w5 ⟨rfl,k5⟩
  have hN:=(Own.new w4 _ _).on k5
  have hb5:Below w4.heap.size w4 w5:=Below.call ((Below.refl _ w4).alloc (Nat.le_refl _) _) k5
  obtain ⟨j,rfl⟩:∃ j:Nat,q=(j:Int):=⟨q.toNat,by omega⟩
  obtain ⟨nm,hy⟩:∃ nm:Qy.Bs,w5.cell? ⟨w4.heap.size,j,none⟩=some (.string (bs nm)):=by
   rw [hN.cell j]
   rcases (by omega:j=0∨j=1∨j=2∨j=3∨j=4) with rfl | rfl | rfl | rfl | rfl
   ·exact ⟨[],rfl⟩
   ·exact ⟨[120],rfl⟩
   ·exact ⟨[88],rfl⟩
   ·exact ⟨[120,95],rfl⟩
   ·exact ⟨[115,101,118,101,110,116,101,101,110,45,98,121,116,101,115,45,55],rfl⟩
  have j0:(0:Int)≤(j:Int):=by omega
  have j1:(j:Int)<5:=by omega
  have hA5:=hA4.on hb5
  have HW5:=Lib.hid (And.intro (HW.out.1.on hb5) (Below.call HW.out.2 hb5))
  clear hN hb5 k5 hA4 HW cq
  have z2:=hA5.cell 2
  have f2:=hA5.frozen 2
  go_upto_region 30 with fail
  have hO:=(hA5.set_ 2 (.string (bs nm)))
  have hQ9:=(HW5.out.1.far (p:=⟨w.heap.size,2,none⟩) (Nat.ne_of_gt HG.out) (.string (bs nm)))
  have hB9:=(HW5.out.2.setCell (p:=⟨w.heap.size,2,none⟩) (Nat.le_refl _) (.string (bs nm)))
  clear hA5 z2 f2
  revert hO hQ9 hB9
  generalize World.setCell _ _ _=W9
  intro hO hQ9 hB9
  replace hO:Own W9 w.heap.size 36 [.int .i64 qk,.int .i64 n0,.string (bs nm),.int .i64 n2,.int .i64 n3,.int .i64 n4,.int .i64 n5,.int .i64 n6,.int .i64 n7,.slice A8 l8 c8,.int .i64 qv,.slice vA vl vc,.int .i64 qd,.int .i64 qs]:=hO
  obtain ⟨⟨y0,y1,y2,y3,y4,y5,y6,y7,y8,y9,y10,y11,y12,y13⟩,_⟩:=hO.all14
  obtain ⟨⟨z0,z1,z2,z3,z4,z5,z6,z7,z8,z9,z10,z11,z12,z13⟩,f0,f1,f2,f3,f4,f5,f6,f7,f8,f9,f10,f11,f12,f13⟩:=hQ9.all14
  have HF:=Lib.hid (And.intro hQ9 (And.intro hB9 (And.intro (RegAt.sx (RegAt.other HQ.out.1 n0 nm n2 n3 n4 n5 n6 n7) hB9 HG.out) (IntsAt.sx HQ.out.2.1 hB9 HG.out))))
  clear hO hQ9 hB9
  have hg9:=HG.out
  go_wp2_with fail
  obtain ⟨hO,hk9⟩:=HF.out.1.put14 (x0:=.int .i64 qk) (x1:=.int .i64 n0) (x2:=.string (bs nm)) (x3:=.int .i64 n2) (x4:=.int .i64 n3) (x5:=.int .i64 n4) (x6:=.int .i64 n5) (x7:=.int .i64 n6) (x8:=.int .i64 n7) (x9:=.slice A8 l8 c8) (x10:=.int .i64 qv) (x11:=.slice vA vl vc) (x12:=.int .i64 qd) (x13:=.int .i64 qs)
  clear z0 y0 f0 z1 y1 f1 z2 y2 f2 z3 y3 f3 z4 y4 f4 z5 y5 f5 z6 y6 f6 z7 y7 f7 z8 y8 f8 z9 y9 f9 z10 y10 f10 z11 y11 f11 z12 y12 f12 z13 y13 f13
  revert hO hk9
  generalize ((((((((((((((World.setCell _ _ _).setCell _ _).setCell _ _).setCell _ _).setCell _ _).setCell _ _).setCell _ _).setCell _ _).setCell _ _).setCell _ _).setCell _ _).setCell _ _).setCell _ _).setCell _ _)=W10
  intro hO hk9
  obtain ⟨⟨q0,q1,q2,q3,q4,q5,q6,q7,q8,q9,q10,q11,q12,q13⟩,_⟩:=hO.all14
  refine bodyPost_ret (v:=.agg #[.int .i64 qk,.int .i64 n0,.string (bs nm),.int .i64 n2,.int .i64 n3,.int .i64 n4,.int .i64 n5,.int .i64 n6,.int .i64 n7,.slice A8 l8 c8,.int .i64 qv,.slice vA vl vc,.int .i64 qd,.int .i64 qs]) (by simp [results,Tryz.results17,go_sem,q0,q1,q2,q3,q4,q5,q6,q7,q8,q9,q10,q11,q12,q13]) rfl ?_
  refine ⟨⟨qk,.mk n0 nm n2 n3 n4 n5 n6 n7 QR.kids,qv,qo,qd,qs⟩,_,rfl,below_put HF.out.2.1 hk9 (Nat.le_of_lt HG.out),?_,by show Qy.nodes (.mk _ _ _ _ _ _ _ _ QR.kids)≤_;rw [nodes_kids];omega,by show qo.length≤_;omega⟩
  have hR9:=RegAt.keep (S':=fun _=>True) hk9.size (fun g hg hl=>⟨trivial,hk9.heap hl hg.2⟩) _ _ HF.out.2.2.1
  have hI9:=HF.out.2.2.2.keep (S':=fun _=>True) hk9.size (fun g hg hl=>⟨trivial,hk9.heap hl hg.2⟩)
  exact HN.out.2.2▸isQry_mk hR9 hI9 (by have:=HQ.out.2.2.1;have:=HN.out.2.2;omega) HQ.out.2.2.2
 ·
  go_wp2_with fail
  refine (Hx.out _).mono ?_
  rintro e w5 ⟨rfl,k5⟩
  have hN:=(Own.new w4 _ _).on k5
  have hb5:Below w4.heap.size w4 w5:=Below.call ((Below.refl _ w4).alloc (Nat.le_refl _) _) k5
  obtain ⟨j,rfl⟩:∃ j:Nat,x=(j:Int):=⟨x.toNat,by omega⟩
  obtain ⟨ay,hy⟩:∃ y:Int,w5.cell? ⟨w4.heap.size,j,none⟩=some (.int .i64 y):=by
   rw [hN.cell j]
   rcases (by omega:j=0∨j=1∨j=2) with rfl | rfl | rfl <;> exact ⟨_,rfl⟩
  have j0:(0:Int)≤(j:Int):=by omega
  have j1:(j:Int)<3:=by omega
  have hA5:=hA4.on hb5
  have HW5:=Lib.hid (And.intro (HW.out.1.on hb5) (Below.call HW.out.2 hb5))
  clear hN hb5 k5 hA4 HW cx
  have z3:=hA5.cell 3
  have f3:=hA5.frozen 3
  have z4:=hA5.cell 4
  have f4:=hA5.frozen 4
  go_upto_region 30 with fail
  have hO:=((hA5.set_ 3 (.int .i64 0)).set_ 4 (.int .i64 ay))
  have hQ9:=((HW5.out.1.far (p:=⟨w.heap.size,3,none⟩) (Nat.ne_of_gt HG.out) (.int .i64 0)).far (p:=⟨w.heap.size,4,none⟩) (Nat.ne_of_gt HG.out) (.int .i64 ay))
  have hB9:=((HW5.out.2.setCell (p:=⟨w.heap.size,3,none⟩) (Nat.le_refl _) (.int .i64 0)).setCell (p:=⟨w.heap.size,4,none⟩) (Nat.le_refl _) (.int .i64 ay))
  clear hA5 z3 f3 z4 f4
  revert hO hQ9 hB9
  generalize (World.setCell _ _ _).setCell _ _=W9
  intro hO hQ9 hB9
  replace hO:Own W9 w.heap.size 36 [.int .i64 qk,.int .i64 n0,.string (bs nm0),.int .i64 0,.int .i64 ay,.int .i64 n4,.int .i64 n5,.int .i64 n6,.int .i64 n7,.slice A8 l8 c8,.int .i64 qv,.slice vA vl vc,.int .i64 qd,.int .i64 qs]:=hO
  obtain ⟨⟨y0,y1,y2,y3,y4,y5,y6,y7,y8,y9,y10,y11,y12,y13⟩,_⟩:=hO.all14
  obtain ⟨⟨z0,z1,z2,z3,z4,z5,z6,z7,z8,z9,z10,z11,z12,z13⟩,f0,f1,f2,f3,f4,f5,f6,f7,f8,f9,f10,f11,f12,f13⟩:=hQ9.all14
  have HF:=Lib.hid (And.intro hQ9 (And.intro hB9 (And.intro (RegAt.sx (RegAt.other HQ.out.1 n0 nm0 0 ay n4 n5 n6 n7) hB9 HG.out) (IntsAt.sx HQ.out.2.1 hB9 HG.out))))
  clear hO hQ9 hB9
  have hg9:=HG.out
  go_wp2_with fail
  obtain ⟨hO,hk9⟩:=HF.out.1.put14 (x0:=.int .i64 qk) (x1:=.int .i64 n0) (x2:=.string (bs nm0)) (x3:=.int .i64 0) (x4:=.int .i64 ay) (x5:=.int .i64 n4) (x6:=.int .i64 n5) (x7:=.int .i64 n6) (x8:=.int .i64 n7) (x9:=.slice A8 l8 c8) (x10:=.int .i64 qv) (x11:=.slice vA vl vc) (x12:=.int .i64 qd) (x13:=.int .i64 qs)
  clear z0 y0 f0 z1 y1 f1 z2 y2 f2 z3 y3 f3 z4 y4 f4 z5 y5 f5 z6 y6 f6 z7 y7 f7 z8 y8 f8 z9 y9 f9 z10 y10 f10 z11 y11 f11 z12 y12 f12 z13 y13 f13
  revert hO hk9
  generalize ((((((((((((((World.setCell _ _ _).setCell _ _).setCell _ _).setCell _ _).setCell _ _).setCell _ _).setCell _ _).setCell _ _).setCell _ _).setCell _ _).setCell _ _).setCell _ _).setCell _ _).setCell _ _)=W10
  intro hO hk9
  obtain ⟨⟨q0,q1,q2,q3,q4,q5,q6,q7,q8,q9,q10,q11,q12,q13⟩,_⟩:=hO.all14
  refine bodyPost_ret (v:=.agg #[.int .i64 qk,.int .i64 n0,.string (bs nm0),.int .i64 0,.int .i64 ay,.int .i64 n4,.int .i64 n5,.int .i64 n6,.int .i64 n7,.slice A8 l8 c8,.int .i64 qv,.slice vA vl vc,.int .i64 qd,.int .i64 qs]) (by simp [results,Tryz.results17,go_sem,q0,q1,q2,q3,q4,q5,q6,q7,q8,q9,q10,q11,q12,q13]) rfl ?_
  refine ⟨⟨qk,.mk n0 nm0 0 ay n4 n5 n6 n7 QR.kids,qv,qo,qd,qs⟩,_,rfl,below_put HF.out.2.1 hk9 (Nat.le_of_lt HG.out),?_,by show Qy.nodes (.mk _ _ _ _ _ _ _ _ QR.kids)≤_;rw [nodes_kids];omega,by show qo.length≤_;omega⟩
  have hR9:=RegAt.keep (S':=fun _=>True) hk9.size (fun g hg hl=>⟨trivial,hk9.heap hl hg.2⟩) _ _ HF.out.2.2.1
  have hI9:=HF.out.2.2.2.keep (S':=fun _=>True) hk9.size (fun g hg hl=>⟨trivial,hk9.heap hl hg.2⟩)
  exact HN.out.2.2▸isQry_mk hR9 hI9 (by have:=HQ.out.2.2.1;have:=HN.out.2.2;omega) HQ.out.2.2.2
 ·
  have z5:=hA4.cell 5
  have f5:=hA4.frozen 5
  have z6:=hA4.cell 6
  have f6:=hA4.frozen 6
  have z7:=hA4.cell 7
  have f7:=hA4.frozen 7
  have z8:=hA4.cell 8
  have f8:=hA4.frozen 8
  go_upto_region 30 with fail
  have hO:=((((hA4.set_ 5 (.int .i64 3)).set_ 6 (.int .i64 0)).set_ 7 (.int .i64 (by_.tmod 9))).set_ 8 (.int .i64 4))
  have hQ9:=((((HW.out.1.far (p:=⟨w.heap.size,5,none⟩) (Nat.ne_of_gt HG.out) (.int .i64 3)).far (p:=⟨w.heap.size,6,none⟩) (Nat.ne_of_gt HG.out) (.int .i64 0)).far (p:=⟨w.heap.size,7,none⟩) (Nat.ne_of_gt HG.out) (.int .i64 (by_.tmod 9))).far (p:=⟨w.heap.size,8,none⟩) (Nat.ne_of_gt HG.out) (.int .i64 4))
  have hB9:=((((HW.out.2.setCell (p:=⟨w.heap.size,5,none⟩) (Nat.le_refl _) (.int .i64 3)).setCell (p:=⟨w.heap.size,6,none⟩) (Nat.le_refl _) (.int .i64 0)).setCell (p:=⟨w.heap.size,7,none⟩) (Nat.le_refl _) (.int .i64 (by_.tmod 9))).setCell (p:=⟨w.heap.size,8,none⟩) (Nat.le_refl _) (.int .i64 4))
  clear hA4 z5 f5 z6 f6 z7 f7 z8 f8
  revert hO hQ9 hB9
  generalize (((World.setCell _ _ _).setCell _ _).setCell _ _).setCell _ _=W9
  intro hO hQ9 hB9
  replace hO:Own W9 w.heap.size 36 [.int .i64 qk,.int .i64 n0,.string (bs nm0),.int .i64 n2,.int .i64 n3,.int .i64 3,.int .i64 0,.int .i64 (by_.tmod 9),.int .i64 4,.slice A8 l8 c8,.int .i64 qv,.slice vA vl vc,.int .i64 qd,.int .i64 qs]:=hO
  obtain ⟨⟨y0,y1,y2,y3,y4,y5,y6,y7,y8,y9,y10,y11,y12,y13⟩,_⟩:=hO.all14
  obtain ⟨⟨z0,z1,z2,z3,z4,z5,z6,z7,z8,z9,z10,z11,z12,z13⟩,f0,f1,f2,f3,f4,f5,f6,f7,f8,f9,f10,f11,f12,f13⟩:=hQ9.all14
  have HF:=Lib.hid (And.intro hQ9 (And.intro hB9 (And.intro (RegAt.sx (RegAt.other HQ.out.1 n0 nm0 n2 n3 3 0 (by_.tmod 9) 4) hB9 HG.out) (IntsAt.sx HQ.out.2.1 hB9 HG.out))))
  clear hO hQ9 hB9
  have hg9:=HG.out
  go_wp2_with fail
  obtain ⟨hO,hk9⟩:=HF.out.1.put14 (x0:=.int .i64 qk) (x1:=.int .i64 n0) (x2:=.string (bs nm0)) (x3:=.int .i64 n2) (x4:=.int .i64 n3) (x5:=.int .i64 3) (x6:=.int .i64 0) (x7:=.int .i64 (by_.tmod 9)) (x8:=.int .i64 4) (x9:=.slice A8 l8 c8) (x10:=.int .i64 qv) (x11:=.slice vA vl vc) (x12:=.int .i64 qd) (x13:=.int .i64 qs)
  clear z0 y0 f0 z1 y1 f1 z2 y2 f2 z3 y3 f3 z4 y4 f4 z5 y5 f5 z6 y6 f6 z7 y7 f7 z8 y8 f8 z9 y9 f9 z10 y10 f10 z11 y11 f11 z12 y12 f12 z13 y13 f13
  revert hO hk9
  generalize ((((((((((((((World.setCell _ _ _).setCell _ _).setCell _ _).setCell _ _).setCell _ _).setCell _ _).setCell _ _).setCell _ _).setCell _ _).setCell _ _).setCell _ _).setCell _ _).setCell _ _).setCell _ _)=W10
  intro hO hk9
  obtain ⟨⟨q0,q1,q2,q3,q4,q5,q6,q7,q8,q9,q10,q11,q12,q13⟩,_⟩:=hO.all14
  refine bodyPost_ret (v:=.agg #[.int .i64 qk,.int .i64 n0,.string (bs nm0),.int .i64 n2,.int .i64 n3,.int .i64 3,.int .i64 0,.int .i64 (by_.tmod 9),.int .i64 4,.slice A8 l8 c8,.int .i64 qv,.slice vA vl vc,.int .i64 qd,.int .i64 qs]) (by simp [results,Tryz.results17,go_sem,q0,q1,q2,q3,q4,q5,q6,q7,q8,q9,q10,q11,q12,q13]) rfl ?_
  refine ⟨⟨qk,.mk n0 nm0 n2 n3 3 0 (by_.tmod 9) 4 QR.kids,qv,qo,qd,qs⟩,_,rfl,below_put HF.out.2.1 hk9 (Nat.le_of_lt HG.out),?_,by show Qy.nodes (.mk _ _ _ _ _ _ _ _ QR.kids)≤_;rw [nodes_kids];omega,by show qo.length≤_;omega⟩
  have hR9:=RegAt.keep (S':=fun _=>True) hk9.size (fun g hg hl=>⟨trivial,hk9.heap hl hg.2⟩) _ _ HF.out.2.2.1
  have hI9:=HF.out.2.2.2.keep (S':=fun _=>True) hk9.size (fun g hg hl=>⟨trivial,hk9.heap hl hg.2⟩)
  exact HN.out.2.2▸isQry_mk hR9 hI9 (by have:=HQ.out.2.2.1;have:=HN.out.2.2;omega) HQ.out.2.2.2
set_option maxRecDepth 100000 in
set_option maxHeartbeats 12800000 in
theorem Spoilt_g2 (q:Qy.Qry) (hn:Qy.nodes q.reg≤700000) (ho:q.offs.length≤900) (v:Value) (w:World) (hv:IsQry w q v) {how by_:Int} (hh:in64 how) (hb:in64 by_) (hgr:around how 10=8) :
 Calls Tryz.prog 17 #[v,.int .i64 how,.int .i64 by_] w (SpR (Qy.nodes q.reg+260) (q.offs.length+9) w):=by
 obtain ⟨n0,s1,n2,n3,n4,n5,n6,n7,A8,l8,c8,vA,vl,vc,rfl,hvl,hR,hI,hv1,hv2⟩:=hv
 obtain ⟨qk,QR,qv,qo,qd,qs⟩:=q
 simp only at hn ho hvl hR hI hv1 ⊢
 rw [← hvl] at hv1
 obtain ⟨nm0,rfl⟩:=hR.nameS
 obtain ⟨a,ha⟩:∃ z,around how 10=z:=⟨_,rfl⟩
 have ca:=around_bd how (m:=10) (by omega)
 rw [ha] at ca
 rw [ha] at hgr
 have Ha:=Lib.hid fun u=>Around_any how 10 u hh.1 hh.2 (by omega) (by omega)
 rw [ha] at Ha
 clear ha
 obtain ⟨p,hp⟩:∃ z,around by_ 9=z:=⟨_,rfl⟩
 have cp:=around_bd by_ (m:=9) (by omega)
 rw [hp] at cp
 have Hp:=Lib.hid fun u=>Around_any by_ 9 u hb.1 hb.2 (by omega) (by omega)
 rw [hp] at Hp
 clear hp
 obtain ⟨y,hy⟩:∃ z,around by_ 8=z:=⟨_,rfl⟩
 have cy:=around_bd by_ (m:=8) (by omega)
 rw [hy] at cy
 have Hy:=Lib.hid fun u=>Around_any by_ 8 u hb.1 hb.2 (by omega) (by omega)
 rw [hy] at Hy
 clear hy
 have HB:=Lib.hid (And.intro hh hb)
 have HT10:=Lib.hid (tdiv_bdS (m:=10) (by omega) hh.1 hh.2)
 have HQ:=Lib.hid (And.intro hR (And.intro hI (And.intro hv1 hv2)))
 have HN:=Lib.hid (And.intro hn (And.intro ho hvl))
 clear hh hb hR hI hv1 hv2 hn ho hvl
 go_enter Tryz.func17,Tryz.ntmps17
 go_upto_region 1 with fail
 refine wp_new2 fun W0 hA hQ hB=>?_
 obtain ⟨g2,hg2⟩:∃ g2,w.heap.size+1=g2:=⟨_,rfl⟩
 rw [hg2] at hQ ⊢
 have hg2w:w.heap.size<g2:=by omega
 have HG:=Lib.hid hg2w
 have HS:=Lib.hid (And.intro hA (And.intro hQ hB))
 clear hA hQ hB hg2 hg2w
 go_wp2_with fail
 refine (Hp.out _).mono ?_
 rintro e w3 ⟨rfl,k3⟩
 have hN:=(Own.new W0 _ _).on k3
 have hb3:Below W0.heap.size W0 w3:=Below.call ((Below.refl _ W0).alloc (Nat.le_refl _) _) k3
 obtain ⟨i,rfl⟩:∃ i:Nat,p=(i:Int):=⟨p.toNat,by omega⟩
 obtain ⟨u0,hy⟩:∃ y:Int,w3.cell? ⟨W0.heap.size,i,none⟩=some (.int .i64 y):=by
  rw [hN.cell i]
  have:i=0∨i=1∨i=2∨i=3∨i=4∨i=5∨i=6∨i=7∨i=8:=by omega
  rcases this with rfl | rfl | rfl | rfl | rfl | rfl | rfl | rfl | rfl <;> exact ⟨_,rfl⟩
 have i0:(0:Int)≤(i:Int):=by omega
 have i1:(i:Int)<9:=by omega
 have HI9:=Lib.hid i1
 have HP9:=Hp
 have HS3:=Lib.hid (And.intro (HS.out.1.on hb3) (And.intro (HS.out.2.1.on hb3) (Below.call HS.out.2.2 hb3)))
 clear hN hb3 k3 cp HS Hp
 go_wp2_with fail
 refine (Ha.out _).mono ?_
 rintro e w4 ⟨rfl,k4⟩
 have hA4:=HS3.out.1.on k4
 have hQ4:=HS3.out.2.1.on k4
 have hB4:=Below.call HS3.out.2.2 k4
 clear hy i0 i1 HS3 k4 Ha
 have HW:=Lib.hid (And.intro hQ4 hB4)
 clear hQ4 hB4
 clear ca
 subst hgr
 ·
  obtain ⟨y9,rfl⟩:∃ n:Nat,y=(n:Int):=⟨y.toNat,by omega⟩
  have hy9:y9<8:=by omega
  have HW4:=Lib.hid (And.intro hA4 (And.intro HW.out.1 HW.out.2))
  clear hA4 cy
  go_wp2_with fail
  go_loopw [8] (fun s8 wr=>∃ k:Nat,k≤12+y9∧s8=.int .i64 (k:Int)∧∃ (R:Qy.Reg) (m0:Int) (t1:ByteArray) (m2 m3 m4 m5 m6 m7:Int) (B8:Option Addr) (k8 d8:Nat),Qy.nodes R=Qy.nodes QR+k∧Own wr w.heap.size 36 [.int .i64 qk,.int .i64 m0,.string t1,.int .i64 m2,.int .i64 m3,.int .i64 m4,.int .i64 m5,.int .i64 m6,.int .i64 m7,.slice B8 k8 d8,.int .i64 qv,.slice vA vl vc,.int .i64 qd,.int .i64 qs]∧RegAt wr (SX w g2) [.int .i64 m0,.string t1,.int .i64 m2,.int .i64 m3,.int .i64 m4,.int .i64 m5,.int .i64 m6,.int .i64 m7,.slice B8 k8 d8] R∧Own wr g2 36 [.int .i64 0,.int .i64 0,.string ⟨#[]⟩,.int .i64 0,.int .i64 0,.int .i64 0,.int .i64 0,.int .i64 0,.int .i64 0,.slice none 0 0,.int .i64 0,.slice none 0 0,.int .i64 0,.int .i64 0]∧Below w.heap.size w wr) (fun s _=>12+y9 - (intOf s).toNat)
  case atStart=>exact ⟨0,by omega,rfl,QR,_,_,_,_,_,_,_,_,_,_,_,rfl,HW4.out.1,RegAt.sx HQ.out.1 HW4.out.2.2 HG.out,HW4.out.2.1,HW4.out.2.2⟩
  case round=>
   obtain ⟨k,hk,rfl,R,m0,t1,m2,m3,m4,m5,m6,m7,B8,k8,d8,hnd,hO,hR,hQ,hB⟩:=hrel
   have HR:=Lib.hid (And.intro hO (And.intro hR (And.intro hQ (And.intro hB hnd))))
   clear hO hR hQ hB hnd
   rcases Nat.lt_or_eq_of_le hk with hlt | heq
   ·have i1:(k:Int)<12+(y9:Int):=by omega
    go_wp2_with fail
    refine (Hy.out _).mono ?_
    rintro e w5 ⟨rfl,k5⟩
    have hO5:=HR.out.1.on k5
    have hB5:=Below.call HR.out.2.2.2.1 k5
    have hat:At1 w.heap.size w5 _:=(((((((((At1.set_ (r:=w.heap.size) _ (p:=⟨w.heap.size,1,none⟩) rfl (.int .i64 6)).trans (At1.set_ (r:=w.heap.size) _ (p:=⟨w.heap.size,2,none⟩) rfl (.string ⟨#[]⟩))).trans (At1.set_ (r:=w.heap.size) _ (p:=⟨w.heap.size,3,none⟩) rfl (.int .i64 0))).trans (At1.set_ (r:=w.heap.size) _ (p:=⟨w.heap.size,4,none⟩) rfl (.int .i64 0))).trans (At1.set_ (r:=w.heap.size) _ (p:=⟨w.heap.size,5,none⟩) rfl (.int .i64 0))).trans (At1.set_ (r:=w.heap.size) _ (p:=⟨w.heap.size,6,none⟩) rfl (.int .i64 0))).trans (At1.set_ (r:=w.heap.size) _ (p:=⟨w.heap.size,7,none⟩) rfl (.int .i64 0))).trans (At1.set_ (r:=w.heap.size) _ (p:=⟨w.heap.size,8,none⟩) rfl (.int .i64 0))).trans (At1.set_ (r:=w.heap.size) _ (p:=⟨w.heap.size,9,none⟩) rfl (.slice (some ⟨w5.heap.size,0,none⟩) 1 1)))
    have hO7:=(((((((((hO5.set_ 1 (.int .i64 6)).set_ 2 (.string ⟨#[]⟩)).set_ 3 (.int .i64 0)).set_ 4 (.int .i64 0)).set_ 5 (.int .i64 0)).set_ 6 (.int .i64 0)).set_ 7 (.int .i64 0)).set_ 8 (.int .i64 0)).set_ 9 (.slice (some ⟨w5.heap.size,0,none⟩) 1 1))
    obtain ⟨V5,hV5⟩:∃ V,(((((((((w5.setCell ⟨w.heap.size,1,none⟩ (.int .i64 6)).setCell ⟨w.heap.size,2,none⟩ (.string ⟨#[]⟩)).setCell ⟨w.heap.size,3,none⟩ (.int .i64 0)).setCell ⟨w.heap.size,4,none⟩ (.int .i64 0)).setCell ⟨w.heap.size,5,none⟩ (.int .i64 0)).setCell ⟨w.heap.size,6,none⟩ (.int .i64 0)).setCell ⟨w.heap.size,7,none⟩ (.int .i64 0)).setCell ⟨w.heap.size,8,none⟩ (.int .i64 0)).setCell ⟨w.heap.size,9,none⟩ (.slice (some ⟨w5.heap.size,0,none⟩) 1 1))=V:=⟨_,rfl⟩
    have hz:V5.heap.size=w5.heap.size:=by rw [← hV5];simp
    rw [hV5] at hat hO7
    have hR6:=RegAt.keep hat.size (fun g hg hl=>⟨hg,hat.heap hl hg.1⟩) _ _ (HR.out.2.1.on k5)
    have hQ6:=(HR.out.2.2.1.on k5).at1 hat (Nat.ne_of_gt HG.out)
    have hB6:=Below.trans hB5 (hat.below hB5.size)
    have hR7:=wrap_reg (T:=32) hR6 ⟨by have:=hO7.lt;omega,by have:=hQ6.lt;omega⟩
    rw [hz] at hR7
    have kn:=below_new V5 (.cells #[.int .i64 m0,.string t1,.int .i64 m2,.int .i64 m3,.int .i64 m4,.int .i64 m5,.int .i64 m6,.int .i64 m7,.slice B8 k8 d8] 32)
    have HF:=Lib.hid (And.intro (hO7.on kn) (And.intro hR7 (And.intro (hQ6.on kn) (Below.call hB6 kn))))
    obtain ⟨⟨z0,z1,z2,z3,z4,z5,z6,z7,z8,z9,z10,z11,z12,z13⟩,f0,f1,f2,f3,f4,f5,f6,f7,f8,f9,f10,f11,f12,f13⟩:=hO5.all14
    have hz5:=hO5.lt
    have HV:=Lib.hid hV5
    clear kn hat hO7 hO5 hB5 hR6 hQ6 hB6 hR7 hz hV5 k5 z0 z10 z11 z12 z13 f0 f10 f11 f12 f13
    go_wp2_with fail
    rw [HV.out]
    go_roundw
    case rel=>exact ⟨k+1,by omega,by go_num,Qy.kidsR 6 [R],6,⟨#[]⟩,0,0,0,0,0,0,some ⟨w5.heap.size,0,none⟩,1,1,by rw [nodes_wrap,HR.out.2.2.2.2];omega,HF.out.1,HF.out.2.1,HF.out.2.2.1,HF.out.2.2.2⟩
    case measure=>simp [intOf];omega
   ·have i1:¬ (k:Int)<12+(y9:Int):=by omega
    have i2:(12:Int)+(y9:Int)≤(k:Int):=by omega
    clear heq
    go_wp2_with fail
    refine (Hy.out _).mono ?_
    rintro e w5 ⟨rfl,k5⟩
    have hO:=HR.out.1.on k5
    have hQ9:=HR.out.2.2.1.on k5
    have hB9:=Below.call HR.out.2.2.2.1 k5
    have hR5:=HR.out.2.1.on k5
    clear k5
    go_upto_region 30 with fail
    obtain ⟨⟨y0,y1,y2,y3,y4,y5,y6,y7,y8,y9,y10,y11,y12,y13⟩,_⟩:=hO.all14
    obtain ⟨⟨z0,z1,z2,z3,z4,z5,z6,z7,z8,z9,z10,z11,z12,z13⟩,f0,f1,f2,f3,f4,f5,f6,f7,f8,f9,f10,f11,f12,f13⟩:=hQ9.all14
    have HF:=Lib.hid (And.intro hQ9 (And.intro hB9 (And.intro hR5 (IntsAt.sx HQ.out.2.1 hB9 HG.out))))
    clear hO hQ9 hB9
    have hg9:=HG.out
    go_wp2_with fail
    obtain ⟨hO,hk9⟩:=HF.out.1.put14 (x0:=.int .i64 qk) (x1:=.int .i64 m0) (x2:=.string t1) (x3:=.int .i64 m2) (x4:=.int .i64 m3) (x5:=.int .i64 m4) (x6:=.int .i64 m5) (x7:=.int .i64 m6) (x8:=.int .i64 m7) (x9:=.slice B8 k8 d8) (x10:=.int .i64 qv) (x11:=.slice vA vl vc) (x12:=.int .i64 qd) (x13:=.int .i64 qs)
    clear z0 y0 f0 z1 y1 f1 z2 y2 f2 z3 y3 f3 z4 y4 f4 z5 y5 f5 z6 y6 f6 z7 y7 f7 z8 y8 f8 z9 y9 f9 z10 y10 f10 z11 y11 f11 z12 y12 f12 z13 y13 f13
    revert hO hk9
    generalize ((((((((((((((World.setCell _ _ _).setCell _ _).setCell _ _).setCell _ _).setCell _ _).setCell _ _).setCell _ _).setCell _ _).setCell _ _).setCell _ _).setCell _ _).setCell _ _).setCell _ _).setCell _ _)=W10
    intro hO hk9
    obtain ⟨⟨q0,q1,q2,q3,q4,q5,q6,q7,q8,q9,q10,q11,q12,q13⟩,_⟩:=hO.all14
    refine bodyPost_ret (v:=.agg #[.int .i64 qk,.int .i64 m0,.string t1,.int .i64 m2,.int .i64 m3,.int .i64 m4,.int .i64 m5,.int .i64 m6,.int .i64 m7,.slice B8 k8 d8,.int .i64 qv,.slice vA vl vc,.int .i64 qd,.int .i64 qs]) (by simp [results,Tryz.results17,go_sem,q0,q1,q2,q3,q4,q5,q6,q7,q8,q9,q10,q11,q12,q13]) rfl ?_
    refine ⟨⟨qk,R,qv,qo,qd,qs⟩,_,rfl,below_put HF.out.2.1 hk9 (Nat.le_of_lt HG.out),?_,by show Qy.nodes R≤_;have:=HR.out.2.2.2.2;omega,by show qo.length≤_;omega⟩
    have hR9:=RegAt.keep (S':=fun _=>True) hk9.size (fun g hg hl=>⟨trivial,hk9.heap hl hg.2⟩) _ _ HF.out.2.2.1
    have hI9:=HF.out.2.2.2.keep (S':=fun _=>True) hk9.size (fun g hg hl=>⟨trivial,hk9.heap hl hg.2⟩)
    exact HN.out.2.2▸isQry_mk hR9 hI9 (by have:=HQ.out.2.2.1;have:=HN.out.2.2;omega) HQ.out.2.2.2
set_option maxRecDepth 100000 in
set_option maxHeartbeats 12800000 in
theorem Spoilt_g3 (q:Qy.Qry) (hn:Qy.nodes q.reg≤700000) (ho:q.offs.length≤900) (v:Value) (w:World) (hv:IsQry w q v) {how by_:Int} (hh:in64 how) (hb:in64 by_) (hgr:around how 10=9) :
 Calls Tryz.prog 17 #[v,.int .i64 how,.int .i64 by_] w (SpR (Qy.nodes q.reg+260) (q.offs.length+9) w):=by
 obtain ⟨n0,s1,n2,n3,n4,n5,n6,n7,A8,l8,c8,vA,vl,vc,rfl,hvl,hR,hI,hv1,hv2⟩:=hv
 obtain ⟨qk,QR,qv,qo,qd,qs⟩:=q
 simp only at hn ho hvl hR hI hv1 ⊢
 rw [← hvl] at hv1
 obtain ⟨nm0,rfl⟩:=hR.nameS
 obtain ⟨a,ha⟩:∃ z,around how 10=z:=⟨_,rfl⟩
 have ca:=around_bd how (m:=10) (by omega)
 rw [ha] at ca
 rw [ha] at hgr
 have Ha:=Lib.hid fun u=>Around_any how 10 u hh.1 hh.2 (by omega) (by omega)
 rw [ha] at Ha
 clear ha
 obtain ⟨p,hp⟩:∃ z,around by_ 9=z:=⟨_,rfl⟩
 have cp:=around_bd by_ (m:=9) (by omega)
 rw [hp] at cp
 have Hp:=Lib.hid fun u=>Around_any by_ 9 u hb.1 hb.2 (by omega) (by omega)
 rw [hp] at Hp
 clear hp
 have HB:=Lib.hid (And.intro hh hb)
 have HT10:=Lib.hid (tdiv_bdS (m:=10) (by omega) hh.1 hh.2)
 have HQ:=Lib.hid (And.intro hR (And.intro hI (And.intro hv1 hv2)))
 have HN:=Lib.hid (And.intro hn (And.intro ho hvl))
 clear hh hb hR hI hv1 hv2 hn ho hvl
 go_enter Tryz.func17,Tryz.ntmps17
 go_upto_region 1 with fail
 refine wp_new2 fun W0 hA hQ hB=>?_
 obtain ⟨g2,hg2⟩:∃ g2,w.heap.size+1=g2:=⟨_,rfl⟩
 rw [hg2] at hQ ⊢
 have hg2w:w.heap.size<g2:=by omega
 have HG:=Lib.hid hg2w
 have HS:=Lib.hid (And.intro hA (And.intro hQ hB))
 clear hA hQ hB hg2 hg2w
 go_wp2_with fail
 refine (Hp.out _).mono ?_
 rintro e w3 ⟨rfl,k3⟩
 have hN:=(Own.new W0 _ _).on k3
 have hb3:Below W0.heap.size W0 w3:=Below.call ((Below.refl _ W0).alloc (Nat.le_refl _) _) k3
 obtain ⟨i,rfl⟩:∃ i:Nat,p=(i:Int):=⟨p.toNat,by omega⟩
 obtain ⟨u0,hy⟩:∃ y:Int,w3.cell? ⟨W0.heap.size,i,none⟩=some (.int .i64 y):=by
  rw [hN.cell i]
  have:i=0∨i=1∨i=2∨i=3∨i=4∨i=5∨i=6∨i=7∨i=8:=by omega
  rcases this with rfl | rfl | rfl | rfl | rfl | rfl | rfl | rfl | rfl <;> exact ⟨_,rfl⟩
 have i0:(0:Int)≤(i:Int):=by omega
 have i1:(i:Int)<9:=by omega
 have HI9:=Lib.hid i1
 have HP9:=Hp
 have HS3:=Lib.hid (And.intro (HS.out.1.on hb3) (And.intro (HS.out.2.1.on hb3) (Below.call HS.out.2.2 hb3)))
 clear hN hb3 k3 cp HS Hp
 go_wp2_with fail
 refine (Ha.out _).mono ?_
 rintro e w4 ⟨rfl,k4⟩
 have hA4:=HS3.out.1.on k4
 have hQ4:=HS3.out.2.1.on k4
 have hB4:=Below.call HS3.out.2.2 k4
 clear hy i0 i1 HS3 k4 Ha
 have HW:=Lib.hid (And.intro hQ4 hB4)
 clear hQ4 hB4
 clear ca
 subst hgr
 ·
  have i9:=HI9.out
  have HA4:=Lib.hid hA4
  have hz4:=hA4.lt
  have hz42:=HW.out.1.lt
  clear hA4
  go_wp2_with fail
  go_loopw [9,10] (fun s9 s10 wr=>∃ k:Nat,k≤250+i∧s10=.int .i64 (k:Int)∧KRow 32 (fun g=>w4.heap.size≤g) wr s9 (List.replicate k regX)∧Below w4.heap.size w4 wr) (fun _ s _=>250+i - (intOf s).toNat)
  case atStart=>exact ⟨0,by omega,rfl,KRow.nil _ _,Below.refl _ _⟩
  case round=>
   obtain ⟨k,hk,rfl,hrow,hb⟩:=hrel
   have HR:=Lib.hid (And.intro hrow hb)
   clear hrow hb
   rcases Nat.lt_or_eq_of_le hk with hlt | heq
   ·have i1:(k:Int)<250+(i:Int):=by omega
    go_wp2_with fail
    refine (HP9.out _).mono ?_
    rintro e w5 ⟨rfl,k5⟩
    have kn:=below_new w5 (.cells #[.int .i64 1,.string ⟨#[120]⟩,.int .i64 0,.int .i64 0,.int .i64 0,.int .i64 0,.int .i64 0,.int .i64 0,.slice none 0 0] 32)
    have hb6:Below w4.heap.size w4 (w5.alloc (.cells #[.int .i64 1,.string ⟨#[120]⟩,.int .i64 0,.int .i64 0,.int .i64 0,.int .i64 0,.int .i64 0,.int .i64 0,.slice none 0 0] 32)):=Below.call (Below.call HR.out.2 k5) kn
    have hrow6:=(HR.out.1.on k5).on kn
    have HO:=own_news (Own.new w5 32 [.int .i64 1,.string ⟨#[120]⟩,.int .i64 0,.int .i64 0,.int .i64 0,.int .i64 0,.int .i64 0,.int .i64 0,.slice none 0 0])
    have hR1:RegAt (w5.alloc (.cells #[.int .i64 1,.string ⟨#[120]⟩,.int .i64 0,.int .i64 0,.int .i64 0,.int .i64 0,.int .i64 0,.int .i64 0,.slice none 0 0] 32)) (fun g=>w4.heap.size≤g∧u9.ownBlock≠some g) [.int .i64 1,.string ⟨#[120]⟩,.int .i64 0,.int .i64 0,.int .i64 0,.int .i64 0,.int .i64 0,.int .i64 0,.slice none 0 0] regX:=RegAt.leaf 1 [120] 0 0 0 0 0 0
    have one9:∀ u∈[Value.int .i64 1,.string ⟨#[120]⟩,.int .i64 0,.int .i64 0,.int .i64 0,.int .i64 0,.int .i64 0,.int .i64 0,.slice none 0 0],u.oneCell'=true:=by simp [Value.oneCell']
    have hown6:∀ g,u9.ownBlock=some g→w4.heap.size≤g:=fun g hg=>(hrow6.own g hg).1
    have hnew6:=hb6.size
    obtain ⟨css,q1,q2,q4,q3⟩:=hrow6
    have hlen:(List.replicate k regX).length=k:=List.length_replicate
    clear k5 kn
    obtain ⟨i0_,hi_,hz0,hz1,hz2⟩:=info_parts reg_infoS
    go_wp2_with (at_builtin;refine wpList_pushO _ rfl _ _ 30 rfl 32 i0_ (.agg #[.int .i64 0,.string ⟨#[]⟩,.int .i64 0,.int .i64 0,.int .i64 0,.int .i64 0,.int .i64 0,.int .i64 0,.slice none 0 0]) 9 96 Tryz.underlying30 hi_ hz0 hz1 hz2 rfl (by decide) 0 _ _ _ rfl q2 ⟨w5.heap.size,0,none⟩ 1 [.int .i64 1,.string ⟨#[120]⟩,.int .i64 0,.int .i64 0,.int .i64 0,.int .i64 0,.int .i64 0,.int .i64 0,.slice none 0 0] rfl rfl HO one9 ?c4 ?c5 ?c6 ?_)
    case c4=>unfold maxLen;omega
    case c5=>omega
    case c6=>exact Nat.zero_le _
    intro v7 w7 hrow3 hgrow hv7
    rw [← hlen] at hrow3
    have hrow4:=KRow.pushS q1 q4 q3 rfl hR1 hnew6 hrow3 hgrow (hv7.imp id fun e=>e.trans (by simp))
    rw [← List.replicate_succ'] at hrow4
    have HF:=Lib.hid (And.intro hrow4 (Below.grown hb6 hgrow hnew6 hown6))
    clear hrow4 hrow3 hgrow hv7 q1 q2 q3 q4 hR1 HO one9 hown6 hnew6 hb6 hlen hi_ hz0 hz1 hz2
    clear i0_
    go_wp2_with fail
    go_roundw
    case rel=>exact ⟨k+1,by omega,by go_num,HF.out.1,HF.out.2⟩
    case measure=>simp [intOf];omega
   ·have i1:¬ (k:Int)<250+(i:Int):=by omega
    have i2:(250:Int)+(i:Int)≤(k:Int):=by omega
    clear heq
    obtain ⟨A7,c7,hv7,hR7⟩:=HR.out.1.list5
    subst hv7
    go_wp2_with fail
    refine (HP9.out _).mono ?_
    rintro e w5 ⟨rfl,k5⟩
    have hb5:=Below.call HR.out.2 k5
    have hA5:=HA4.out.on hb5
    have HW5:=Lib.hid (And.intro (HW.out.1.on hb5) (Below.call HW.out.2 hb5))
    have hR8:RegAt w5 (SX w g2) _ _:=RegAt.keep k5.size (fun g hg hl=>⟨⟨by omega,by omega⟩,k5.block g hl⟩) _ _ hR7
    clear hb5 k5 hR7
    have z1:=hA5.cell 1
    have f1:=hA5.frozen 1
    have z2:=hA5.cell 2
    have f2:=hA5.frozen 2
    have z3:=hA5.cell 3
    have f3:=hA5.frozen 3
    have z4:=hA5.cell 4
    have f4:=hA5.frozen 4
    have z5:=hA5.cell 5
    have f5:=hA5.frozen 5
    have z6:=hA5.cell 6
    have f6:=hA5.frozen 6
    have z7:=hA5.cell 7
    have f7:=hA5.frozen 7
    have z8:=hA5.cell 8
    have f8:=hA5.frozen 8
    have z9:=hA5.cell 9
    have f9:=hA5.frozen 9
    go_upto_region 30 with fail
    have hO:=(((((((((hA5.set_ 1 (.int .i64 5)).set_ 2 (.string ⟨#[]⟩)).set_ 3 (.int .i64 0)).set_ 4 (.int .i64 0)).set_ 5 (.int .i64 0)).set_ 6 (.int .i64 0)).set_ 7 (.int .i64 0)).set_ 8 (.int .i64 0)).set_ 9 (.slice A7 k c7))
    have hQ9:=(((((((((HW5.out.1.far (p:=⟨w.heap.size,1,none⟩) (Nat.ne_of_gt HG.out) (.int .i64 5)).far (p:=⟨w.heap.size,2,none⟩) (Nat.ne_of_gt HG.out) (.string ⟨#[]⟩)).far (p:=⟨w.heap.size,3,none⟩) (Nat.ne_of_gt HG.out) (.int .i64 0)).far (p:=⟨w.heap.size,4,none⟩) (Nat.ne_of_gt HG.out) (.int .i64 0)).far (p:=⟨w.heap.size,5,none⟩) (Nat.ne_of_gt HG.out) (.int .i64 0)).far (p:=⟨w.heap.size,6,none⟩) (Nat.ne_of_gt HG.out) (.int .i64 0)).far (p:=⟨w.heap.size,7,none⟩) (Nat.ne_of_gt HG.out) (.int .i64 0)).far (p:=⟨w.heap.size,8,none⟩) (Nat.ne_of_gt HG.out) (.int .i64 0)).far (p:=⟨w.heap.size,9,none⟩) (Nat.ne_of_gt HG.out) (.slice A7 k c7))
    have hB9:=(((((((((HW5.out.2.setCell (p:=⟨w.heap.size,1,none⟩) (Nat.le_refl _) (.int .i64 5)).setCell (p:=⟨w.heap.size,2,none⟩) (Nat.le_refl _) (.string ⟨#[]⟩)).setCell (p:=⟨w.heap.size,3,none⟩) (Nat.le_refl _) (.int .i64 0)).setCell (p:=⟨w.heap.size,4,none⟩) (Nat.le_refl _) (.int .i64 0)).setCell (p:=⟨w.heap.size,5,none⟩) (Nat.le_refl _) (.int .i64 0)).setCell (p:=⟨w.heap.size,6,none⟩) (Nat.le_refl _) (.int .i64 0)).setCell (p:=⟨w.heap.size,7,none⟩) (Nat.le_refl _) (.int .i64 0)).setCell (p:=⟨w.heap.size,8,none⟩) (Nat.le_refl _) (.int .i64 0)).setCell (p:=⟨w.heap.size,9,none⟩) (Nat.le_refl _) (.slice A7 k c7))
    have hat:At1 w.heap.size w5 _:=(((((((((At1.set_ (r:=w.heap.size) _ (p:=⟨w.heap.size,1,none⟩) rfl (.int .i64 5)).trans (At1.set_ (r:=w.heap.size) _ (p:=⟨w.heap.size,2,none⟩) rfl (.string ⟨#[]⟩))).trans (At1.set_ (r:=w.heap.size) _ (p:=⟨w.heap.size,3,none⟩) rfl (.int .i64 0))).trans (At1.set_ (r:=w.heap.size) _ (p:=⟨w.heap.size,4,none⟩) rfl (.int .i64 0))).trans (At1.set_ (r:=w.heap.size) _ (p:=⟨w.heap.size,5,none⟩) rfl (.int .i64 0))).trans (At1.set_ (r:=w.heap.size) _ (p:=⟨w.heap.size,6,none⟩) rfl (.int .i64 0))).trans (At1.set_ (r:=w.heap.size) _ (p:=⟨w.heap.size,7,none⟩) rfl (.int .i64 0))).trans (At1.set_ (r:=w.heap.size) _ (p:=⟨w.heap.size,8,none⟩) rfl (.int .i64 0))).trans (At1.set_ (r:=w.heap.size) _ (p:=⟨w.heap.size,9,none⟩) rfl (.slice A7 k c7)))
    have hR5:=RegAt.keep hat.size (fun g hg hl=>⟨hg,hat.heap hl hg.1⟩) _ _ hR8
    clear hat
    clear hA5 z1 f1 z2 f2 z3 f3 z4 f4 z5 f5 z6 f6 z7 f7 z8 f8 z9 f9
    revert hO hQ9 hB9 hR5
    generalize ((((((((World.setCell _ _ _).setCell _ _).setCell _ _).setCell _ _).setCell _ _).setCell _ _).setCell _ _).setCell _ _).setCell _ _=W9
    intro hO hQ9 hB9 hR5
    replace hO:Own W9 w.heap.size 36 [.int .i64 qk,.int .i64 5,.string ⟨#[]⟩,.int .i64 0,.int .i64 0,.int .i64 0,.int .i64 0,.int .i64 0,.int .i64 0,.slice A7 k c7,.int .i64 qv,.slice vA vl vc,.int .i64 qd,.int .i64 qs]:=hO
    obtain ⟨⟨y0,y1,y2,y3,y4,y5,y6,y7,y8,y9,y10,y11,y12,y13⟩,_⟩:=hO.all14
    obtain ⟨⟨z0,z1,z2,z3,z4,z5,z6,z7,z8,z9,z10,z11,z12,z13⟩,f0,f1,f2,f3,f4,f5,f6,f7,f8,f9,f10,f11,f12,f13⟩:=hQ9.all14
    have HF:=Lib.hid (And.intro hQ9 (And.intro hB9 (And.intro hR5 (IntsAt.sx HQ.out.2.1 hB9 HG.out))))
    clear hO hQ9 hB9
    have hg9:=HG.out
    go_wp2_with fail
    obtain ⟨hO,hk9⟩:=HF.out.1.put14 (x0:=.int .i64 qk) (x1:=.int .i64 5) (x2:=.string ⟨#[]⟩) (x3:=.int .i64 0) (x4:=.int .i64 0) (x5:=.int .i64 0) (x6:=.int .i64 0) (x7:=.int .i64 0) (x8:=.int .i64 0) (x9:=.slice A7 k c7) (x10:=.int .i64 qv) (x11:=.slice vA vl vc) (x12:=.int .i64 qd) (x13:=.int .i64 qs)
    clear z0 y0 f0 z1 y1 f1 z2 y2 f2 z3 y3 f3 z4 y4 f4 z5 y5 f5 z6 y6 f6 z7 y7 f7 z8 y8 f8 z9 y9 f9 z10 y10 f10 z11 y11 f11 z12 y12 f12 z13 y13 f13
    revert hO hk9
    generalize ((((((((((((((World.setCell _ _ _).setCell _ _).setCell _ _).setCell _ _).setCell _ _).setCell _ _).setCell _ _).setCell _ _).setCell _ _).setCell _ _).setCell _ _).setCell _ _).setCell _ _).setCell _ _)=W10
    intro hO hk9
    obtain ⟨⟨q0,q1,q2,q3,q4,q5,q6,q7,q8,q9,q10,q11,q12,q13⟩,_⟩:=hO.all14
    refine bodyPost_ret (v:=.agg #[.int .i64 qk,.int .i64 5,.string ⟨#[]⟩,.int .i64 0,.int .i64 0,.int .i64 0,.int .i64 0,.int .i64 0,.int .i64 0,.slice A7 k c7,.int .i64 qv,.slice vA vl vc,.int .i64 qd,.int .i64 qs]) (by simp [results,Tryz.results17,go_sem,q0,q1,q2,q3,q4,q5,q6,q7,q8,q9,q10,q11,q12,q13]) rfl ?_
    refine ⟨⟨qk,Qy.kidsR 5 (List.replicate k regX),qv,qo,qd,qs⟩,_,rfl,below_put HF.out.2.1 hk9 (Nat.le_of_lt HG.out),?_,by show Qy.nodes (Qy.kidsR 5 _)≤_;rw [nodes_X];omega,by show qo.length≤_;omega⟩
    have hR9:=RegAt.keep (S':=fun _=>True) hk9.size (fun g hg hl=>⟨trivial,hk9.heap hl hg.2⟩) _ _ HF.out.2.2.1
    have hI9:=HF.out.2.2.2.keep (S':=fun _=>True) hk9.size (fun g hg hl=>⟨trivial,hk9.heap hl hg.2⟩)
    exact HN.out.2.2▸isQry_mk hR9 hI9 (by have:=HQ.out.2.2.1;have:=HN.out.2.2;omega) HQ.out.2.2.2
theorem Spoilt_any (q:Qy.Qry) (hn:Qy.nodes q.reg≤700000) (ho:q.offs.length≤900) (v:Value) (w:World) (hv:IsQry w q v) {how by_:Int} (hh:in64 how) (hb:in64 by_) :
 Calls Tryz.prog 17 #[v,.int .i64 how,.int .i64 by_] w (SpR (Qy.nodes q.reg+260) (q.offs.length+9) w):=by
 have h:=around_bd how (m:=10) (by omega)
 rcases (by omega:(around how 10=0∨around how 10=1∨around how 10=2∨around how 10=3)∨(around how 10=4∨around how 10=5∨around how 10=6∨around how 10=7)∨around how 10=8∨around how 10=9) with h | h | h | h
 ·exact Spoilt_g0 q hn ho v w hv hh hb h
 ·exact Spoilt_g1 q hn ho v w hv hh hb h
 ·exact Spoilt_g2 q hn ho v w hv hh hb h
 ·exact Spoilt_g3 q hn ho v w hv hh hb h
end Go.Proofs.YtmlpibdincfgbaaGreatDoor
