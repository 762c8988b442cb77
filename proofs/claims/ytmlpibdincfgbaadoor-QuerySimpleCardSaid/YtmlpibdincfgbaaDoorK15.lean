/-
  Package query: item; then the three readers of regions together.
-/
import Derived.Test.YtmlpibdincfgbaaDoorK14
namespace Go.Proofs.YtmlpibdincfgbaaDoor
open Go.RowKit
set_option linter.unusedSimpArgs false
set_option linter.unusedVariables false
theorem wpList_new1 {P:Program} {ops:Array Oper} {Q:Exit→Act→World→Prop} {rest:List Oper} {ac:Act} {w:World} {xs:List Value} {T:TypeId} (h:∀ W,W=w.alloc (.cells xs.toArray T)→wpList P ops Q rest ac W):wpList P ops Q rest ac (w.alloc (.cells xs.toArray T)):=h _ rfl
theorem RegAt.leaf {w:World} {S:Nat→Prop} (k:Int) (nm:Qy.Bs) (ax ay b0 b1 b2 b3:Int):RegAt w S [.int .i64 k,.string (bs nm),.int .i64 ax,.int .i64 ay,.int .i64 b0,.int .i64 b1,.int .i64 b2,.int .i64 b3,.slice none 0 0] (.mk k nm ax ay b0 b1 b2 b3 []):=by
 rw [RegAt]
 exact ⟨none,0,rfl,by rw [KidsAt];trivial⟩
theorem RegAt.kids {w:World} {S:Nat→Prop} {A:Option Addr} {c:Nat} {l:List Qy.Reg} (k:Int) (h:KidsAt w S A 0 l):RegAt w S [.int .i64 k,.string ⟨#[]⟩,.int .i64 0,.int .i64 0,.int .i64 0,.int .i64 0,.int .i64 0,.int .i64 0,.slice A l.length c] (Qy.kidsR k l):=by
 unfold Qy.kidsR
 rw [RegAt]
 exact ⟨A,c,rfl,h⟩
def sQ2 (RI:Qy.Res (Int × Int)):SpecE:=sE fun v _=>∃ q:Int × Int,v=.agg #[.int .i64 q.1,.int .i64 q.2]∧∃ l3,RI=.ok q l3
def sQ3 (px py:Int) (RI:Qy.Res (Int × Int)):SpecE:=sE fun v _=>∃ q:Int × Int,v=.agg #[.int .i64 px,.int .i64 py,.int .i64 q.1,.int .i64 q.2]∧∃ l3,RI=.ok q l3
def sQ4 (px py:Int) (RI:Qy.Res (Int × Int)):SpecE:=sE fun v _=>∃ q:Int × Int,v=.agg #[.int .i64 3,.string ⟨#[]⟩,.int .i64 0,.int .i64 0,.int .i64 px,.int .i64 py,.int .i64 q.1,.int .i64 q.2,.slice none 0 0]∧∃ l3,RI=.ok q l3
theorem UpD6 {a0 a1 a2:Value} {px py:Int} {RI:Qy.Res (Int × Int)} {D:Nat→Prop} {w w':World}:UpD [Spec.eq a0,Spec.eq a1,Spec.eq a2,sQ2 RI,sQ3 px py RI,sQ4 px py RI] D w w':=by
 intro k s hD hs
 match k,hD,hs with
 | 0,_,hs=>cases hs;exact fun _ h=>h
 | 1,_,hs=>cases hs;exact fun _ h=>h
 | 2,_,hs=>cases hs;exact fun _ h=>h
 | 3,_,hs=>cases hs;exact fun _ h=>h
 | 4,_,hs=>cases hs;exact fun _ h=>h
 | 5,_,hs=>cases hs;exact fun _ h=>h
 | k+6,_,hs=>cases hs
structure JP (B r g2 g5:Nat) (px py:Int) (w:World) (l2:List Qy.Tok) (RI:Qy.Res (Int × Int)) (D:Nat→Prop) (wz:World):Prop where
 at1:At1 r w wz
 o2:Own wz g2 32 [.int .i64 0,.string ⟨#[]⟩,.int .i64 0,.int .i64 0,.int .i64 0,.int .i64 0,.int .i64 0,.int .i64 0,.slice none 0 0]
 o5:Own wz g5 27 [.int .i64 px,.int .i64 py]
 rd:¬ D 3→RdAt B r l2 wz
 rd3:D 3→∃ q l3,RI=.ok q l3∧RdAt B r l3 wz
theorem JP.pure {B r g2 g5:Nat} {px py:Int} {w:World} {l2:List Qy.Tok} {RI:Qy.Res (Int × Int)} {D:Nat→Prop} {wz:World} {i:Nat} (h:JP B r g2 g5 px py w l2 RI D wz) (h3:i≠3):JP B r g2 g5 px py w l2 RI (fun k=>D k∨k=i) wz:=
 ⟨h.at1,h.o2,h.o5,fun hn=>h.rd fun hd=>hn (.inl hd),fun hd=>h.rd3 (hd.elim id fun e=>absurd e.symm h3)⟩
theorem JP.call {B r g2 g5:Nat} {px py:Int} {w:World} {l2 l3:List Qy.Tok} {RI:Qy.Res (Int × Int)} {q:Int × Int} {D:Nat→Prop} {wz wy:World} (h:JP B r g2 g5 px py w l2 RI D wz) (k:At1 r wz wy) (hri:RI=.ok q l3) (hrd:RdAt B r l3 wy) (hg2:g2≠r) (hg5:g5≠r):JP B r g2 g5 px py w l2 RI (fun k=>D k∨k=3) wy:=
 ⟨h.at1.trans k,h.o2.at1 k hg2,h.o5.at1 k hg5,fun hn=>absurd (.inr rfl) hn,fun _=>⟨q,l3,hri,hrd⟩⟩
set_option maxRecDepth 100000 in
set_option maxHeartbeats 1600000 in
theorem qItem (B r f:Nat) (ihI:∀ g,g<f→ItemW B r g) (ihL:∀ g,g<f→ListW B r g) (ihR:∀ g,g<f→RegW B r g):ItemW B r f:=by
 intro l w h hg hf hL
 obtain ⟨f,rfl⟩:∃ f',f=f'+1:=⟨f - 1,by omega⟩
 have hrw:=h.lt
 have hBw:=h.2.1
 have HG:=Lib.hid hg
 have HL5:=Lib.hid hL
 have HS:Hid (∀ l,Qy.Good l→Shaped l):=Lib.hid fun l hg t ht=>hg.shaped t ht
 have HIH:=Lib.hid (And.intro (ihI f (Nat.lt_succ_self f)) (And.intro (ihL f (Nat.lt_succ_self f)) (ihR f (Nat.lt_succ_self f))))
 have hf1:3 * l.length≤f:=by omega
 have HF1:=Lib.hid hf1
 obtain ⟨RES,hRES⟩:∃ RES,Qy.pItem (f+1) l=RES:=⟨_,rfl⟩
 rw [hRES]
 rw [Qy.pItem] at hRES
 have HRES:=Lib.hid hRES
 clear hg hL ihI ihL ihR hf1 hRES hf
 go_enter Tryd.func80,Tryd.ntmps80
 go_upto_region 2 with fail
 refine wp_new2 fun W0 hA hP hB=>?_
 have gA:w.heap.size≠r:=by omega
 have gP:w.heap.size+1≠r:=by omega
 have hrd0:=h.on hB
 have hat:=At1.of_below (r:=r) hB
 clear hB h
 by_cases c0:Qy.hd l=[119,104,111,108,101]
 ·
  replace HRES:=Lib.hid (by have:=HRES.out;rwa [if_pos c0] at this)
  have HT1:Hid (∀ u,RdAt B r l u→Calls Tryd.prog 75 #[.pointer (some ⟨r,0,none⟩),.string (bs [119,104,111,108,101])] u fun e w'=>e=.returned (.bool true)∧RdAt B r (Qy.stp l) w'∧At1 r u w'):=Lib.hid fun u k=>by
   have:=qTake B r l [119,104,111,108,101] u k
   rwa [decide_eq_true c0,if_pos c0] at this
  go_wp2_with fail
  refine (HT1.out _ hrd0).mono ?_
  rintro e2 w2 ⟨rfl,hrd3,k_⟩
  replace hat:=hat.trans k_
  replace hA:=hA.at1 k_ gA
  replace hP:=hP.at1 k_ gP
  clear k_ hrd0 HT1
  clear c0
  obtain ⟨⟨z0,z1,z2,z3,z4,z5,z6,z7,z8⟩,f0,f1,f2,f3,f4,f5,f6,f7,f8⟩:=hA.all9
  have HF:=Lib.hid (And.intro hA (And.intro hat hrd3))
  clear hA hP hat hrd3 
  go_wp2_with fail
  obtain ⟨hO,hk⟩:=HF.out.1.put9 (x0:=.int .i64 0) (x1:=.string ⟨#[]⟩) (x2:=.int .i64 0) (x3:=.int .i64 0) (x4:=.int .i64 0) (x5:=.int .i64 0) (x6:=.int .i64 0) (x7:=.int .i64 0) (x8:=.slice none 0 0)
  clear z0 z1 z2 z3 z4 z5 z6 z7 z8 f0 f1 f2 f3 f4 f5 f6 f7 f8
  revert hO hk
  generalize (((((((((World.setCell _ _ _).setCell _ _).setCell _ _).setCell _ _).setCell _ _).setCell _ _).setCell _ _).setCell _ _).setCell _ _)=W9
  intro hO hk
  obtain ⟨⟨q0,q1,q2,q3,q4,q5,q6,q7,q8⟩,_⟩:=hO.all9
  refine bodyPost_ret (v:=.agg #[.int .i64 0,.string ⟨#[]⟩,.int .i64 0,.int .i64 0,.int .i64 0,.int .i64 0,.int .i64 0,.int .i64 0,.slice none 0 0]) (by simp [results,Tryd.results80,go_sem,q0,q1,q2,q3,q4,q5,q6,q7,q8]) rfl ?_
  have hres9:=HRES.out
  subst hres9
  exact ⟨HF.out.2.1.at_ hk (Nat.le_refl _),⟨_,rfl,_,rfl,RegAt.leaf 0 [] 0 0 0 0 0 0⟩,HF.out.2.2.at_ hk hBw⟩
 replace HRES:=Lib.hid (by have:=HRES.out;rwa [if_neg c0] at this)
 have HT1:Hid (∀ u,RdAt B r l u→Calls Tryd.prog 75 #[.pointer (some ⟨r,0,none⟩),.string (bs [119,104,111,108,101])] u fun e w'=>e=.returned (.bool false)∧RdAt B r l w'∧At1 r u w'):=Lib.hid fun u k=>by
  have:=qTake B r l [119,104,111,108,101] u k
  rwa [decide_eq_false c0,if_neg c0] at this
 go_wp2_with fail
 refine (HT1.out _ hrd0).mono ?_
 rintro e2 w2 ⟨rfl,hrd3,k_⟩
 replace hat:=hat.trans k_
 replace hA:=hA.at1 k_ gA
 replace hP:=hP.at1 k_ gP
 clear k_ hrd0 HT1
 clear c0
 by_cases c1:Qy.hd l=[110,97,109,101,100]
 ·
  replace HRES:=Lib.hid (by have:=HRES.out;rwa [if_pos c1] at this)
  have HT4:Hid (∀ u,RdAt B r l u→Calls Tryd.prog 75 #[.pointer (some ⟨r,0,none⟩),.string (bs [110,97,109,101,100])] u fun e w'=>e=.returned (.bool true)∧RdAt B r (Qy.stp l) w'∧At1 r u w'):=Lib.hid fun u k=>by
   have:=qTake B r l [110,97,109,101,100] u k
   rwa [decide_eq_true c1,if_pos c1] at this
  go_wp2_with fail
  refine (HT4.out _ hrd3).mono ?_
  rintro e2 w5 ⟨rfl,hrd6,k_⟩
  replace hat:=hat.trans k_
  replace hA:=hA.at1 k_ gA
  replace hP:=hP.at1 k_ gP
  clear k_ hrd3 HT4
  have hL1:Qy.Less l (Qy.stp l):=⟨HG.out.stp,HG.out.stp_lt (by rw [c1];simp)⟩
  clear c1
  have c0:=hrd6.cell0.1
  obtain ⟨tx,htx⟩:∃ tx,Qy.hd (Qy.stp l)=tx:=⟨_,rfl⟩
  replace HRES:=Lib.hid (by have:=HRES.out;rwa [htx] at this)
  rw [htx] at c0
  have HFl:Hid (∀ er u,RdAt B r (Qy.stp l) u→Calls Tryd.prog 76 #[.pointer (some ⟨r,0,none⟩),.int .i64 er] u fun e w'=>e=.panicked (prob (Qy.hdAt (Qy.stp l)) er)∧w'=u):=Lib.hid fun er u k=>qFail B r _ er u k
  have HNm:=Lib.hid fun u=>name_any tx u
  have HSt:Hid (∀ u,RdAt B r (Qy.stp l) u→Calls Tryd.prog 31 #[.pointer (some ⟨r,0,none⟩)] u fun e w'=>e=.returned (.tuple #[])∧RdAt B r (Qy.stp (Qy.stp l)) w'∧At1 r u w'):=Lib.hid fun u k=>qStep B r _ u k
  obtain ⟨isl,hisl⟩:∃ b,Qy.isL (tx.headD 0)=b:=⟨_,rfl⟩
  obtain ⟨nok,hnok⟩:∃ b,Qy.nameOK tx=b:=⟨_,rfl⟩
  rw [hnok] at HNm
  replace HRES:=Lib.hid (by have:=HRES.out;rwa [hisl,hnok] at this)
  cases tx with
  | nil=>
   have hemp:((bs []).toList==[])=true:=by rw [bs_toList];rfl
   obtain rfl:isl=false:=by rw [← hisl];rfl
   obtain ⟨sd,hsd⟩:∃ sd,bs []=sd:=⟨_,rfl⟩
   rw [hsd] at c0 hemp
   clear hL1 hsd hisl hnok HNm htx
   go_wp2_with fail
   refine (HFl.out 2 _ hrd6).mono ?_
   rintro e2 w7 ⟨rfl,e_⟩
   subst e_
   have hpan_:=HRES.out
   simp only [if_true] at hpan_
   subst hpan_
   have HG_:=Lib.hid hat
   clear hat hA hP hrd6
   go_wp2
   exact ⟨rfl,HG_.out,rfl⟩
  | cons ch tr=>
   have hemp:((bs (ch :: tr)).toList==[])=false:=by rw [bs_toList];rfl
   have hx2:∀ hi:0<(bs (ch :: tr)).size,(bs (ch :: tr))[0]'hi=ch:=fun _=>rfl
   have hsz:(bs (ch :: tr)).size=tr.length+1:=bs_size _
   have hx1:(0:Int)<(tr.length:Int)+1:=by omega
   have HLt:=Lib.hid fun u=>letter_any ch u
   have hisl2:Qy.isL ch=isl:=hisl
   rw [hisl2] at HLt
   obtain ⟨nn,hnn⟩:∃ nn,tr.length=nn:=⟨_,rfl⟩
   rw [hnn] at hsz hx1
   have HL1:=Lib.hid hL1
   obtain ⟨tx,htx2⟩:∃ tx,ch :: tr=tx:=⟨_,rfl⟩
   rw [htx2] at htx
   replace HRES:=Lib.hid (by have:=HRES.out;rwa [htx2] at this)
   rw [htx2] at c0 hemp hx2 hsz HNm
   obtain ⟨sd,hsd⟩:∃ sd,bs tx=sd:=⟨_,rfl⟩
   rw [hsd] at c0 hemp hx2 hsz HNm
   have HSd:=Lib.hid hsd
   clear hL1 hisl hisl2 hnok htx htx2 hnn hsd
   have hpos:0<sd.size:=by omega
   cases isl
   ·
    go_wp2_with fail
    refine (HLt.out _).mono ?_
    rintro e2 w44 ⟨rfl,e_⟩
    subst e_
    go_wp2_with fail
    refine (HFl.out 2 _ hrd6).mono ?_
    rintro e2 w7 ⟨rfl,e_⟩
    subst e_
    have hpan_:=HRES.out
    simp only [if_true] at hpan_
    subst hpan_
    have HG_:=Lib.hid hat
    clear hat hA hP hrd6
    go_wp2
    exact ⟨rfl,HG_.out,rfl⟩
   go_wp2_with fail
   refine (HLt.out _).mono ?_
   rintro e2 w44 ⟨rfl,e_⟩
   subst e_
   cases nok
   ·
    go_wp2_with fail
    refine (HNm.out _).mono ?_
    rintro e2 w44 ⟨rfl,e_⟩
    subst e_
    go_wp2_with fail
    refine (HFl.out 6 _ hrd6).mono ?_
    rintro e2 w7 ⟨rfl,e_⟩
    subst e_
    have hpan_:=HRES.out
    simp only [Bool.true_eq_false,if_true,if_false] at hpan_
    subst hpan_
    have HG_:=Lib.hid hat
    clear hat hA hP hrd6
    go_wp2
    exact ⟨rfl,HG_.out,rfl⟩
   go_wp2_with fail
   refine (HNm.out _).mono ?_
   rintro e2 w44 ⟨rfl,e_⟩
   subst e_
   go_wp2_with fail
   refine (HSt.out _ hrd6).mono ?_
   rintro e2 w45 ⟨rfl,hrd45,k_⟩
   replace hat:=hat.trans k_
   replace hA:=hA.at1 k_ gA
   replace hP:=hP.at1 k_ gP
   clear k_ hemp hx2 hsz hx1 hpos c0 hrd6
   replace HRES:=Lib.hid (by have:=HRES.out;simpa only [Bool.false_eq_true,Bool.true_eq_false,if_true,if_false] using this)
   obtain rfl:=HSd.out
   obtain ⟨⟨z0,z1,z2,z3,z4,z5,z6,z7,z8⟩,f0,f1,f2,f3,f4,f5,f6,f7,f8⟩:=hA.all9
   have HF:=Lib.hid (And.intro hA (And.intro hat hrd45))
   clear hA hP hat hrd45 
   go_wp2_with fail
   obtain ⟨hO,hk⟩:=HF.out.1.put9 (x0:=.int .i64 1) (x1:=.string (bs tx)) (x2:=.int .i64 0) (x3:=.int .i64 0) (x4:=.int .i64 0) (x5:=.int .i64 0) (x6:=.int .i64 0) (x7:=.int .i64 0) (x8:=.slice none 0 0)
   clear z0 z1 z2 z3 z4 z5 z6 z7 z8 f0 f1 f2 f3 f4 f5 f6 f7 f8
   revert hO hk
   generalize (((((((((World.setCell _ _ _).setCell _ _).setCell _ _).setCell _ _).setCell _ _).setCell _ _).setCell _ _).setCell _ _).setCell _ _)=W9
   intro hO hk
   obtain ⟨⟨q0,q1,q2,q3,q4,q5,q6,q7,q8⟩,_⟩:=hO.all9
   refine bodyPost_ret (v:=.agg #[.int .i64 1,.string (bs tx),.int .i64 0,.int .i64 0,.int .i64 0,.int .i64 0,.int .i64 0,.int .i64 0,.slice none 0 0]) (by simp [results,Tryd.results80,go_sem,q0,q1,q2,q3,q4,q5,q6,q7,q8]) rfl ?_
   have hres9:=HRES.out
   subst hres9
   exact ⟨HF.out.2.1.at_ hk (Nat.le_refl _),⟨_,rfl,_,rfl,RegAt.leaf 1 tx 0 0 0 0 0 0⟩,HF.out.2.2.at_ hk hBw⟩
 replace HRES:=Lib.hid (by have:=HRES.out;rwa [if_neg c1] at this)
 have HT4:Hid (∀ u,RdAt B r l u→Calls Tryd.prog 75 #[.pointer (some ⟨r,0,none⟩),.string (bs [110,97,109,101,100])] u fun e w'=>e=.returned (.bool false)∧RdAt B r l w'∧At1 r u w'):=Lib.hid fun u k=>by
  have:=qTake B r l [110,97,109,101,100] u k
  rwa [decide_eq_false c1,if_neg c1] at this
 go_wp2_with fail
 refine (HT4.out _ hrd3).mono ?_
 rintro e2 w5 ⟨rfl,hrd6,k_⟩
 replace hat:=hat.trans k_
 replace hA:=hA.at1 k_ gA
 replace hP:=hP.at1 k_ gP
 clear k_ hrd3 HT4
 clear c1
 by_cases c2:Qy.hd l=[97,116]
 ·
  replace HRES:=Lib.hid (by have:=HRES.out;rwa [if_pos c2] at this)
  have HT7:Hid (∀ u,RdAt B r l u→Calls Tryd.prog 75 #[.pointer (some ⟨r,0,none⟩),.string (bs [97,116])] u fun e w'=>e=.returned (.bool true)∧RdAt B r (Qy.stp l) w'∧At1 r u w'):=Lib.hid fun u k=>by
   have:=qTake B r l [97,116] u k
   rwa [decide_eq_true c2,if_pos c2] at this
  go_wp2_with fail
  refine (HT7.out _ hrd6).mono ?_
  rintro e2 w8 ⟨rfl,hrd9,k_⟩
  replace hat:=hat.trans k_
  replace hA:=hA.at1 k_ gA
  replace hP:=hP.at1 k_ gP
  clear k_ hrd6 HT7
  have hL1:Qy.Less l (Qy.stp l):=⟨HG.out.stp,HG.out.stp_lt (by rw [c2];simp)⟩
  have H1:Hid (∀ u,RdAt B r (Qy.stp l) u→Calls Tryd.prog 94 #[.pointer (some ⟨r,0,none⟩),.agg #[.int .i64 (-1073741824),.int .i64 (-1073741824)]] u (Ends B r u (Qy.pPoint (-1073741824) (-1073741824) (Qy.stp l)) ptV)):=Lib.hid fun u k=>qPoint B r _ _ _ u k (HS.out _ hL1.1)
  obtain ⟨p0,p1,_⟩:=hP.all2
  clear hL1 c2
  go_wp2_with fail
  refine (H1.out _ hrd9).mono ?_
  rintro e2 w10 hE_
  rcases hE_.cases with ⟨p,l3,v,hr_,rfl,hv_,hrd11,k_⟩ | ⟨x_,er_,hr_,rfl,k_⟩
  rotate_left
  ·have hpan_:=HRES.out
   rw [hr_] at hpan_
   simp only [Qy.Res.on] at hpan_
   subst hpan_
   have HG_:=Lib.hid (hat.trans k_)
   clear k_ hE_ hr_ hrd9 p0 p1
   go_wp2
   exact ⟨rfl,HG_.out,rfl⟩
  have hres_:=HRES.out
  rw [hr_] at hres_
  simp only [Qy.Res.on] at hres_
  replace HRES:=Lib.hid hres_
  replace hat:=hat.trans k_
  replace hA:=hA.at1 k_ gA
  replace hP:=hP.at1 k_ gP
  clear hE_ hres_ hr_ k_ hrd9 p0 p1
  obtain rfl:=hv_
  obtain ⟨⟨z0,z1,z2,z3,z4,z5,z6,z7,z8⟩,f0,f1,f2,f3,f4,f5,f6,f7,f8⟩:=hA.all9
  have HF:=Lib.hid (And.intro hA (And.intro hat hrd11))
  clear hA hP hat hrd11 
  go_wp2_with fail
  obtain ⟨hO,hk⟩:=HF.out.1.put9 (x0:=.int .i64 2) (x1:=.string ⟨#[]⟩) (x2:=.int .i64 p.1) (x3:=.int .i64 p.2) (x4:=.int .i64 0) (x5:=.int .i64 0) (x6:=.int .i64 0) (x7:=.int .i64 0) (x8:=.slice none 0 0)
  clear z0 z1 z2 z3 z4 z5 z6 z7 z8 f0 f1 f2 f3 f4 f5 f6 f7 f8
  revert hO hk
  generalize (((((((((World.setCell _ _ _).setCell _ _).setCell _ _).setCell _ _).setCell _ _).setCell _ _).setCell _ _).setCell _ _).setCell _ _)=W9
  intro hO hk
  obtain ⟨⟨q0,q1,q2,q3,q4,q5,q6,q7,q8⟩,_⟩:=hO.all9
  refine bodyPost_ret (v:=.agg #[.int .i64 2,.string ⟨#[]⟩,.int .i64 p.1,.int .i64 p.2,.int .i64 0,.int .i64 0,.int .i64 0,.int .i64 0,.slice none 0 0]) (by simp [results,Tryd.results80,go_sem,q0,q1,q2,q3,q4,q5,q6,q7,q8]) rfl ?_
  have hres9:=HRES.out
  subst hres9
  exact ⟨HF.out.2.1.at_ hk (Nat.le_refl _),⟨_,rfl,_,rfl,RegAt.leaf 2 [] p.1 p.2 0 0 0 0⟩,HF.out.2.2.at_ hk hBw⟩
 replace HRES:=Lib.hid (by have:=HRES.out;rwa [if_neg c2] at this)
 have HT7:Hid (∀ u,RdAt B r l u→Calls Tryd.prog 75 #[.pointer (some ⟨r,0,none⟩),.string (bs [97,116])] u fun e w'=>e=.returned (.bool false)∧RdAt B r l w'∧At1 r u w'):=Lib.hid fun u k=>by
  have:=qTake B r l [97,116] u k
  rwa [decide_eq_false c2,if_neg c2] at this
 go_wp2_with fail
 refine (HT7.out _ hrd6).mono ?_
 rintro e2 w8 ⟨rfl,hrd9,k_⟩
 replace hat:=hat.trans k_
 replace hA:=hA.at1 k_ gA
 replace hP:=hP.at1 k_ gP
 clear k_ hrd6 HT7
 clear c2
 by_cases c3:Qy.hd l=[119,105,116,104,105,110]
 ·
  replace HRES:=Lib.hid (by have:=HRES.out;rwa [if_pos c3] at this)
  have HT10:Hid (∀ u,RdAt B r l u→Calls Tryd.prog 75 #[.pointer (some ⟨r,0,none⟩),.string (bs [119,105,116,104,105,110])] u fun e w'=>e=.returned (.bool true)∧RdAt B r (Qy.stp l) w'∧At1 r u w'):=Lib.hid fun u k=>by
   have:=qTake B r l [119,105,116,104,105,110] u k
   rwa [decide_eq_true c3,if_pos c3] at this
  go_wp2_with fail
  refine (HT10.out _ hrd9).mono ?_
  rintro e2 w11 ⟨rfl,hrd12,k_⟩
  replace hat:=hat.trans k_
  replace hA:=hA.at1 k_ gA
  replace hP:=hP.at1 k_ gP
  clear k_ hrd9 HT10
  have hL1:Qy.Less l (Qy.stp l):=⟨HG.out.stp,HG.out.stp_lt (by rw [c3];simp)⟩
  have H1:Hid (∀ u,RdAt B r (Qy.stp l) u→Calls Tryd.prog 94 #[.pointer (some ⟨r,0,none⟩),.agg #[.int .i64 (-1073741824),.int .i64 (-1073741824)]] u (Ends B r u (Qy.pPoint (-1073741824) (-1073741824) (Qy.stp l)) ptV)):=Lib.hid fun u k=>qPoint B r _ _ _ u k (HS.out _ hL1.1)
  obtain ⟨p0,p1,_⟩:=hP.all2
  have HL1:=Lib.hid hL1
  clear hL1 c3
  go_wp2_with fail
  refine (H1.out _ hrd12).mono ?_
  rintro e2 w13 hE_
  rcases hE_.cases with ⟨p,l3,v,hr_,rfl,hv_,hrd14,k_⟩ | ⟨x_,er_,hr_,rfl,k_⟩
  rotate_left
  ·have hpan_:=HRES.out
   rw [hr_] at hpan_
   simp only [Qy.Res.on] at hpan_
   subst hpan_
   have HG_:=Lib.hid (hat.trans k_)
   clear k_ hE_ hr_ hrd12 p0 p1
   go_wp2
   exact ⟨rfl,HG_.out,rfl⟩
  have hres_:=HRES.out
  rw [hr_] at hres_
  simp only [Qy.Res.on] at hres_
  replace HRES:=Lib.hid hres_
  have HL3:=Lib.hid (Qy.pPoint_ok HL1.out.1 hr_).1.1
  replace hat:=hat.trans k_
  replace hA:=hA.at1 k_ gA
  replace hP:=hP.at1 k_ gP
  clear hE_ hres_ hr_ k_ hrd12 p0 p1
  obtain rfl:=hv_
  go_upto_region 16 with fail
  refine wp_new1 fun W5 hQ kn=>?_
  obtain ⟨g5,hg5⟩:∃ g5,w13.heap.size=g5:=⟨_,rfl⟩
  rw [hg5] at hQ ⊢
  have gQ:g5≠r:=by have:=hA.lt;omega
  have gQ2:w.heap.size≤g5:=by have:=hA.lt;omega
  have hrd9:=hrd14.on kn
  replace hat:=hat.trans (At1.of_below kn)
  replace hA:=hA.on kn
  clear kn hrd14 hP hg5
  have H2:Hid (∀ u,RdAt B r l3 u→Calls Tryd.prog 52 #[.pointer (some ⟨r,0,none⟩),.string ⟨#[116,111]⟩] u (Ends B r u (Qy.need [116,111] l3) unitV)):=Lib.hid fun u k=>qNeed B r l3 [116,111] u k
  go_wp2_with fail
  refine (H2.out _ hrd9).mono ?_
  rintro e2 w15 hE_
  rcases hE_.cases with ⟨un,l4,v,hr_,rfl,hv_,hrd16,k_⟩ | ⟨x_,er_,hr_,rfl,k_⟩
  rotate_left
  ·have hpan_:=HRES.out
   rw [hr_] at hpan_
   simp only [Qy.Res.on] at hpan_
   subst hpan_
   have HG_:=Lib.hid (hat.trans k_)
   clear k_ hE_ hr_ hrd9 
   go_wp2
   exact ⟨rfl,HG_.out,rfl⟩
  have hres_:=HRES.out
  rw [hr_] at hres_
  simp only [Qy.Res.on] at hres_
  replace HRES:=Lib.hid hres_
  have HL4:=Lib.hid (Qy.need_ok HL3.out (by simp) hr_).1
  replace hat:=hat.trans k_
  replace hA:=hA.at1 k_ gA
  replace hQ:=hQ.at1 k_ gQ
  clear hE_ hres_ hr_ k_ hrd9 
  obtain rfl:=hv_
  obtain ⟨RI,hRI⟩:∃ RI,Qy.pPoint p.1 p.2 l4=RI:=⟨_,rfl⟩
  have H3:Hid (∀ u,RdAt B r l4 u→Calls Tryd.prog 94 #[.pointer (some ⟨r,0,none⟩),.agg #[.int .i64 p.1,.int .i64 p.2]] u (Ends B r u RI ptV)):=Lib.hid fun u k=>hRI▸qPoint B r _ _ _ u k (HS.out _ HL4.out)
  replace HRES:=Lib.hid (by have:=HRES.out;rwa [hRI] at this)
  have kd:=Below.drew (Below.refl w15.heap.size w15)
  have hJ0:JP B r w.heap.size g5 p.1 p.2 w l4 RI (fun _=>False) w15.drew:=⟨hat.drew,hA.on kd,hQ.on kd,fun _=>hrd16.on kd,False.elim⟩
  obtain ⟨px,py⟩:=p
  simp only at HRES H3 hJ0
  clear hRI kd hat hA hQ hrd16
  go_wp2_with fail
  refine wp_region_suffixK (JP B r w.heap.size g5 px py w l4 RI) 6 [Spec.eq (.agg #[.int .i64 px,.int .i64 py]),Spec.eq (.pointer (some ⟨r,0,none⟩)),Spec.eq (.agg #[.int .i64 px,.int .i64 py]),sQ2 RI,sQ3 px py RI,sQ4 px py RI]
   (by kernel_rfl) (by kernel_rfl) rfl (by kernel_rfl) (by kernel_rfl) hJ0 ?_ ?_
  ·
   refine RegStepsK.cons ?_ ?_
   ·intro DD az wz hcl hnd hC hdf hF hD K hK;replace hdf:=Lib.hid hdf
    have q5:az.tmps[5]? = some (.pointer (some ⟨g5,0,none⟩)):=hF 5 rfl
    have z0:wz.cell? ⟨g5,0,none⟩=some (.int .i64 px):=hC.o5.cell 0
    have z1:wz.cell? ⟨g5,1,none⟩=some (.int .i64 py):=hC.o5.cell 1
    clear hF hD
    refine want_none rfl ?_
    go_simp
    exact hK _ _ (hC.pure (by decide)) UpD6 rfl
   refine RegStepsK.cons ?_ ?_
   ·intro DD az wz hcl hnd hC hdf hF hD K hK;replace hdf:=Lib.hid hdf
    have q0:az.tmps[0]? = some (.pointer (some ⟨r,0,none⟩)):=hF 0 rfl
    clear hF hD
    refine want_none rfl ?_
    go_simp
    exact hK _ _ (hC.pure (by decide)) UpD6 rfl
   refine RegStepsK.cons ?_ ?_
   ·intro DD az wz hcl hnd hC hdf hF hD K hK;replace hdf:=Lib.hid hdf
    have q5:az.tmps[5]? = some (.pointer (some ⟨g5,0,none⟩)):=hF 5 rfl
    have z0:wz.cell? ⟨g5,0,none⟩=some (.int .i64 px):=hC.o5.cell 0
    have z1:wz.cell? ⟨g5,1,none⟩=some (.int .i64 py):=hC.o5.cell 1
    clear hF hD
    refine want_none rfl ?_
    go_simp
    exact hK _ _ (hC.pure (by decide)) UpD6 rfl
   refine RegStepsK.cons ?_ ?_
   ·intro DD az wz hcl hnd hC hdf hF hD K hK;replace hdf:=Lib.hid hdf
    obtain ⟨_,q55,rfl⟩:=dep hD 1 rfl rfl rfl rfl
    obtain ⟨_,q56,rfl⟩:=dep hD 2 rfl rfl rfl rfl
    have hrd:=hC.rd hnd
    have HJ:=Lib.hid hC
    clear hF hD hC hcl hnd
    refine want_none rfl ?_
    go_simp
    refine (H3.out wz hrd).mono ?_
    rintro e wy hE
    clear hrd
    rcases hE.cases with ⟨q,l5,u,hri,rfl,hu,hrd3,hat3⟩ | ⟨x,er,hri,rfl,hat3⟩
    ·obtain rfl:=hu
     exact hK _ _ (HJ.out.call hat3 hri hrd3 gA gQ) UpD6 ⟨q,rfl,l5,hri⟩
    ·have hpan:=HRES.out
     rw [hri] at hpan
     simp only [Qy.Res.on] at hpan
     subst hpan
     have HG:=Lib.hid (HJ.out.at1.trans hat3)
     clear hK hat3 hE hri
     go_wp2
     exact ⟨hdf.out,HG.out,rfl⟩
   refine RegStepsK.cons ?_ ?_
   ·intro DD az wz hcl hnd hC hdf hF hD K hK;replace hdf:=Lib.hid hdf
    obtain ⟨_,q54,rfl⟩:=dep hD 0 rfl rfl rfl rfl
    obtain ⟨_,q57,x57,rfl,hx57⟩:=dep hD 3 rfl rfl rfl rfl
    clear hF hD
    refine want_none rfl ?_
    go_simp
    exact hK _ _ (hC.pure (by decide)) UpD6 ⟨x57,rfl,hx57⟩
   refine RegStepsK.cons ?_ ?_
   ·intro DD az wz hcl hnd hC hdf hF hD K hK;replace hdf:=Lib.hid hdf
    obtain ⟨_,q58,x58,rfl,hx58⟩:=dep hD 4 rfl rfl rfl rfl
    clear hF hD
    refine want_none rfl ?_
    go_simp
    exact hK _ _ (hC.pure (by decide)) UpD6 ⟨x58,rfl,hx58⟩
   exact RegStepsK.nil
  intro w7 hJ7
  rintro _ rfl _ rfl _ rfl _ ⟨y57,rfl,hy57⟩ _ ⟨y58,rfl,hy58⟩ _ ⟨y59,rfl,hy59⟩
  simp only [List.take,FinOK,Act.put,List.setIfInBounds_toArray,List.set_cons_zero,List.set_cons_succ]
  simp only [List.drop,TailOK]
  obtain ⟨l5,hri⟩:=hy59
  obtain ⟨q5,l6,hri2,hrd5⟩:=hJ7.rd3 (by decide)
  obtain ⟨rfl,rfl⟩:y59=q5∧l5=l6:=by rw [hri] at hri2;cases hri2;exact ⟨rfl,rfl⟩
  replace HRES:=Lib.hid (by have:=HRES.out;rw [hri] at this;simp only [Qy.Res.on] at this;exact this)
  have hA:=hJ7.o2
  have hat:=hJ7.at1
  obtain ⟨⟨z0,z1,z2,z3,z4,z5,z6,z7,z8⟩,f0,f1,f2,f3,f4,f5,f6,f7,f8⟩:=hA.all9
  have HF:=Lib.hid (And.intro hA (And.intro hat hrd5))
  clear hA hat hrd5 hJ7 hJ0 hri hri2
  intro K hK
  refine want_none rfl ?_
  go_simp
  refine hK _ _ ?_
  clear hK K
  go_wp2_with fail
  obtain ⟨hO,hk⟩:=HF.out.1.put9 (x0:=.int .i64 3) (x1:=.string ⟨#[]⟩) (x2:=.int .i64 0) (x3:=.int .i64 0) (x4:=.int .i64 px) (x5:=.int .i64 py) (x6:=.int .i64 y59.1) (x7:=.int .i64 y59.2) (x8:=.slice none 0 0)
  clear z0 z1 z2 z3 z4 z5 z6 z7 z8 f0 f1 f2 f3 f4 f5 f6 f7 f8
  revert hO hk
  generalize (((((((((World.setCell _ _ _).setCell _ _).setCell _ _).setCell _ _).setCell _ _).setCell _ _).setCell _ _).setCell _ _).setCell _ _)=W9
  intro hO hk
  obtain ⟨⟨q0,q1,q2,q3,q4,q5,q6,q7,q8⟩,_⟩:=hO.all9
  refine bodyPost_ret (v:=.agg #[.int .i64 3,.string ⟨#[]⟩,.int .i64 0,.int .i64 0,.int .i64 px,.int .i64 py,.int .i64 y59.1,.int .i64 y59.2,.slice none 0 0]) (by simp [results,Tryd.results80,go_sem,q0,q1,q2,q3,q4,q5,q6,q7,q8]) rfl ?_
  have hres9:=HRES.out
  subst hres9
  exact ⟨HF.out.2.1.at_ hk (Nat.le_refl _),⟨_,rfl,_,rfl,RegAt.leaf 3 [] 0 0 px py y59.1 y59.2⟩,HF.out.2.2.at_ hk hBw⟩
 replace HRES:=Lib.hid (by have:=HRES.out;rwa [if_neg c3] at this)
 have HT10:Hid (∀ u,RdAt B r l u→Calls Tryd.prog 75 #[.pointer (some ⟨r,0,none⟩),.string (bs [119,105,116,104,105,110])] u fun e w'=>e=.returned (.bool false)∧RdAt B r l w'∧At1 r u w'):=Lib.hid fun u k=>by
  have:=qTake B r l [119,105,116,104,105,110] u k
  rwa [decide_eq_false c3,if_neg c3] at this
 go_wp2_with fail
 refine (HT10.out _ hrd9).mono ?_
 rintro e2 w11 ⟨rfl,hrd12,k_⟩
 replace hat:=hat.trans k_
 replace hA:=hA.at1 k_ gA
 replace hP:=hP.at1 k_ gP
 clear k_ hrd9 HT10
 clear c3
 by_cases c4:Qy.hd l=[110,111,116]
 ·
  replace HRES:=Lib.hid (by have:=HRES.out;rwa [if_pos c4] at this)
  have HT13:Hid (∀ u,RdAt B r l u→Calls Tryd.prog 75 #[.pointer (some ⟨r,0,none⟩),.string (bs [110,111,116])] u fun e w'=>e=.returned (.bool true)∧RdAt B r (Qy.stp l) w'∧At1 r u w'):=Lib.hid fun u k=>by
   have:=qTake B r l [110,111,116] u k
   rwa [decide_eq_true c4,if_pos c4] at this
  go_wp2_with fail
  refine (HT13.out _ hrd12).mono ?_
  rintro e2 w14 ⟨rfl,hrd15,k_⟩
  replace hat:=hat.trans k_
  replace hA:=hA.at1 k_ gA
  replace hP:=hP.at1 k_ gP
  clear k_ hrd12 HT13
  have hL1:Qy.Less l (Qy.stp l):=⟨HG.out.stp,HG.out.stp_lt (by rw [c4];simp)⟩
  have H1:Hid (∀ u,RdAt B r (Qy.stp l) u→Calls Tryd.prog 80 #[.pointer (some ⟨r,0,none⟩)] u (Ends B r u (Qy.pItem f (Qy.stp l)) (regV u))):=Lib.hid fun u k=>HIH.out.1 _ u k hL1.1 (by have:=hL1.2;have:=HF1.out;omega) (by have:=hL1.2;have:=HL5.out;omega)
  clear hL1 c4
  have hsz5:=hA.lt
  go_wp2_with fail
  refine (H1.out _ hrd15).mono ?_
  rintro e2 w16 hE_
  rcases hE_.cases with ⟨R5,l3,v,hr_,rfl,hv_,hrd17,k_⟩ | ⟨x_,er_,hr_,rfl,k_⟩
  rotate_left
  ·have hpan_:=HRES.out
   rw [hr_] at hpan_
   simp only [Qy.Res.on] at hpan_
   subst hpan_
   have HG_:=Lib.hid (hat.trans k_)
   clear k_ hE_ hr_ hrd15 
   go_wp2
   exact ⟨rfl,HG_.out,rfl⟩
  have hres_:=HRES.out
  rw [hr_] at hres_
  simp only [Qy.Res.on] at hres_
  replace HRES:=Lib.hid hres_
  replace hat:=hat.trans k_
  replace hA:=hA.at1 k_ gA
  replace hP:=hP.at1 k_ gP
  clear hE_ hres_ hr_ k_ hrd15 
  obtain ⟨n0,s1,n2,n3,n4,n5,n6,n7,A8,l8,c9,rfl,hR1,hR3⟩:=hv_.lit
  have hsz6:=hA.lt
  have kn:=below_new w16 (.cells #[.int .i64 n0,.string s1,.int .i64 n2,.int .i64 n3,.int .i64 n4,.int .i64 n5,.int .i64 n6,.int .i64 n7,.slice A8 l8 c9] 32)
  have hrow:=hR3 32 w16 (fun g=>w.heap.size<g) (RegAt.keep (Nat.le_refl _) (fun g hg _=>⟨Nat.lt_of_lt_of_le hsz5 hg,rfl⟩) _ _ hR1) hsz6
  have hA2:=hA.on kn
  have hrd2:=hrd17.on kn
  have hat2:=hat.trans (At1.of_below kn)
  clear hA hrd17 hat kn hR1 hR3
  go_wp2_with (refine wpList_new1 ?_)
  intro W5 eW
  rw [← eW] at hrow hA2 hat2 hrd2
  clear eW
  obtain ⟨⟨z0,z1,z2,z3,z4,z5,z6,z7,z8⟩,f0,f1,f2,f3,f4,f5,f6,f7,f8⟩:=hA2.all9
  have HF:=Lib.hid (And.intro hA2 (And.intro hat2 (And.intro hrd2 hrow)))
  clear hA2 hP hat2 hrd2 hrow
  go_wp2_with fail
  obtain ⟨hO,hk⟩:=HF.out.1.put9 (x0:=.int .i64 6) (x1:=.string ⟨#[]⟩) (x2:=.int .i64 0) (x3:=.int .i64 0) (x4:=.int .i64 0) (x5:=.int .i64 0) (x6:=.int .i64 0) (x7:=.int .i64 0) (x8:=.slice (some ⟨w16.heap.size,0,none⟩) 1 1)
  clear z0 z1 z2 z3 z4 z5 z6 z7 z8 f0 f1 f2 f3 f4 f5 f6 f7 f8
  revert hO hk
  generalize (((((((((World.setCell _ _ _).setCell _ _).setCell _ _).setCell _ _).setCell _ _).setCell _ _).setCell _ _).setCell _ _).setCell _ _)=W9
  intro hO hk
  obtain ⟨⟨q0,q1,q2,q3,q4,q5,q6,q7,q8⟩,_⟩:=hO.all9
  refine bodyPost_ret (v:=.agg #[.int .i64 6,.string ⟨#[]⟩,.int .i64 0,.int .i64 0,.int .i64 0,.int .i64 0,.int .i64 0,.int .i64 0,.slice (some ⟨w16.heap.size,0,none⟩) 1 1]) (by simp [results,Tryd.results80,go_sem,q0,q1,q2,q3,q4,q5,q6,q7,q8]) rfl ?_
  have hres9:=HRES.out
  subst hres9
  exact ⟨HF.out.2.1.at_ hk (Nat.le_refl _),⟨_,rfl,_,rfl,(by obtain ⟨A5,c5,hA5,hkids⟩:=(HF.out.2.2.2.at1 hk (fun h=>absurd h (Nat.lt_irrefl _))).listV (w0:=w) (fun g hg=>Nat.le_of_lt hg);cases hA5;exact RegAt.kids 6 hkids)⟩,HF.out.2.2.1.at_ hk hBw⟩
 replace HRES:=Lib.hid (by have:=HRES.out;rwa [if_neg c4] at this)
 have HT13:Hid (∀ u,RdAt B r l u→Calls Tryd.prog 75 #[.pointer (some ⟨r,0,none⟩),.string (bs [110,111,116])] u fun e w'=>e=.returned (.bool false)∧RdAt B r l w'∧At1 r u w'):=Lib.hid fun u k=>by
  have:=qTake B r l [110,111,116] u k
  rwa [decide_eq_false c4,if_neg c4] at this
 go_wp2_with fail
 refine (HT13.out _ hrd12).mono ?_
 rintro e2 w14 ⟨rfl,hrd15,k_⟩
 replace hat:=hat.trans k_
 replace hA:=hA.at1 k_ gA
 replace hP:=hP.at1 k_ gP
 clear k_ hrd12 HT13
 clear c4
 by_cases c5:Qy.hd l=[97,108,108]
 ·
  replace HRES:=Lib.hid (by have:=HRES.out;rwa [if_pos c5] at this)
  have HT16:Hid (∀ u,RdAt B r l u→Calls Tryd.prog 75 #[.pointer (some ⟨r,0,none⟩),.string (bs [97,108,108])] u fun e w'=>e=.returned (.bool true)∧RdAt B r (Qy.stp l) w'∧At1 r u w'):=Lib.hid fun u k=>by
   have:=qTake B r l [97,108,108] u k
   rwa [decide_eq_true c5,if_pos c5] at this
  go_wp2_with fail
  refine (HT16.out _ hrd15).mono ?_
  rintro e2 w17 ⟨rfl,hrd18,k_⟩
  replace hat:=hat.trans k_
  replace hA:=hA.at1 k_ gA
  replace hP:=hP.at1 k_ gP
  clear k_ hrd15 HT16
  have hL1:Qy.Less l (Qy.stp l):=⟨HG.out.stp,HG.out.stp_lt (by rw [c5];simp)⟩
  have H1:Hid (∀ u,RdAt B r (Qy.stp l) u→Calls Tryd.prog 95 #[.pointer (some ⟨r,0,none⟩)] u (Ends B r u (Qy.pList f (Qy.stp l)) (listV u))):=Lib.hid fun u k=>HIH.out.2.1 _ u k hL1.1 (by have:=hL1.2;have:=HF1.out;omega) (by have:=hL1.2;have:=HL5.out;omega)
  clear hL1 c5
  have hsz5:=hA.lt
  go_wp2_with fail
  refine (H1.out _ hrd18).mono ?_
  rintro e2 w19 hE_
  rcases hE_.cases with ⟨kl,l3,v,hr_,rfl,hv_,hrd20,k_⟩ | ⟨x_,er_,hr_,rfl,k_⟩
  rotate_left
  ·have hpan_:=HRES.out
   rw [hr_] at hpan_
   simp only [Qy.Res.on] at hpan_
   subst hpan_
   have HG_:=Lib.hid (hat.trans k_)
   clear k_ hE_ hr_ hrd18 
   go_wp2
   exact ⟨rfl,HG_.out,rfl⟩
  have hres_:=HRES.out
  rw [hr_] at hres_
  simp only [Qy.Res.on] at hres_
  replace HRES:=Lib.hid hres_
  replace hat:=hat.trans k_
  replace hA:=hA.at1 k_ gA
  replace hP:=hP.at1 k_ gP
  clear hE_ hres_ hr_ k_ hrd18 
  obtain ⟨A5,c5,rfl,hkids⟩:=hv_
  have HK:Hid (∀ W9,At1 w.heap.size w19 W9→KidsAt W9 (New w) A5 0 kl):=Lib.hid fun W9 k=>KidsAt.keep k.size (fun g hg hl=>⟨Nat.le_trans (Nat.le_of_lt hsz5) hg,k.heap hl (fun e=>by have hg9:w17.heap.size≤g:=hg;omega)⟩) A5 0 kl hkids
  clear hkids
  obtain ⟨⟨z0,z1,z2,z3,z4,z5,z6,z7,z8⟩,f0,f1,f2,f3,f4,f5,f6,f7,f8⟩:=hA.all9
  have HF:=Lib.hid (And.intro hA (And.intro hat hrd20))
  clear hA hP hat hrd20 
  go_wp2_with fail
  obtain ⟨hO,hk⟩:=HF.out.1.put9 (x0:=.int .i64 4) (x1:=.string ⟨#[]⟩) (x2:=.int .i64 0) (x3:=.int .i64 0) (x4:=.int .i64 0) (x5:=.int .i64 0) (x6:=.int .i64 0) (x7:=.int .i64 0) (x8:=.slice A5 kl.length c5)
  clear z0 z1 z2 z3 z4 z5 z6 z7 z8 f0 f1 f2 f3 f4 f5 f6 f7 f8
  revert hO hk
  generalize (((((((((World.setCell _ _ _).setCell _ _).setCell _ _).setCell _ _).setCell _ _).setCell _ _).setCell _ _).setCell _ _).setCell _ _)=W9
  intro hO hk
  obtain ⟨⟨q0,q1,q2,q3,q4,q5,q6,q7,q8⟩,_⟩:=hO.all9
  refine bodyPost_ret (v:=.agg #[.int .i64 4,.string ⟨#[]⟩,.int .i64 0,.int .i64 0,.int .i64 0,.int .i64 0,.int .i64 0,.int .i64 0,.slice A5 kl.length c5]) (by simp [results,Tryd.results80,go_sem,q0,q1,q2,q3,q4,q5,q6,q7,q8]) rfl ?_
  have hres9:=HRES.out
  subst hres9
  exact ⟨HF.out.2.1.at_ hk (Nat.le_refl _),⟨_,rfl,_,rfl,RegAt.kids 4 (HK.out _ hk)⟩,HF.out.2.2.at_ hk hBw⟩
 replace HRES:=Lib.hid (by have:=HRES.out;rwa [if_neg c5] at this)
 have HT16:Hid (∀ u,RdAt B r l u→Calls Tryd.prog 75 #[.pointer (some ⟨r,0,none⟩),.string (bs [97,108,108])] u fun e w'=>e=.returned (.bool false)∧RdAt B r l w'∧At1 r u w'):=Lib.hid fun u k=>by
  have:=qTake B r l [97,108,108] u k
  rwa [decide_eq_false c5,if_neg c5] at this
 go_wp2_with fail
 refine (HT16.out _ hrd15).mono ?_
 rintro e2 w17 ⟨rfl,hrd18,k_⟩
 replace hat:=hat.trans k_
 replace hA:=hA.at1 k_ gA
 replace hP:=hP.at1 k_ gP
 clear k_ hrd15 HT16
 clear c5
 by_cases c6:Qy.hd l=[97,110,121]
 ·
  replace HRES:=Lib.hid (by have:=HRES.out;rwa [if_pos c6] at this)
  have HT19:Hid (∀ u,RdAt B r l u→Calls Tryd.prog 75 #[.pointer (some ⟨r,0,none⟩),.string (bs [97,110,121])] u fun e w'=>e=.returned (.bool true)∧RdAt B r (Qy.stp l) w'∧At1 r u w'):=Lib.hid fun u k=>by
   have:=qTake B r l [97,110,121] u k
   rwa [decide_eq_true c6,if_pos c6] at this
  go_wp2_with fail
  refine (HT19.out _ hrd18).mono ?_
  rintro e2 w20 ⟨rfl,hrd21,k_⟩
  replace hat:=hat.trans k_
  replace hA:=hA.at1 k_ gA
  replace hP:=hP.at1 k_ gP
  clear k_ hrd18 HT19
  have hL1:Qy.Less l (Qy.stp l):=⟨HG.out.stp,HG.out.stp_lt (by rw [c6];simp)⟩
  have H1:Hid (∀ u,RdAt B r (Qy.stp l) u→Calls Tryd.prog 95 #[.pointer (some ⟨r,0,none⟩)] u (Ends B r u (Qy.pList f (Qy.stp l)) (listV u))):=Lib.hid fun u k=>HIH.out.2.1 _ u k hL1.1 (by have:=hL1.2;have:=HF1.out;omega) (by have:=hL1.2;have:=HL5.out;omega)
  clear hL1 c6
  have hsz5:=hA.lt
  go_wp2_with fail
  refine (H1.out _ hrd21).mono ?_
  rintro e2 w22 hE_
  rcases hE_.cases with ⟨kl,l3,v,hr_,rfl,hv_,hrd23,k_⟩ | ⟨x_,er_,hr_,rfl,k_⟩
  rotate_left
  ·have hpan_:=HRES.out
   rw [hr_] at hpan_
   simp only [Qy.Res.on] at hpan_
   subst hpan_
   have HG_:=Lib.hid (hat.trans k_)
   clear k_ hE_ hr_ hrd21 
   go_wp2
   exact ⟨rfl,HG_.out,rfl⟩
  have hres_:=HRES.out
  rw [hr_] at hres_
  simp only [Qy.Res.on] at hres_
  replace HRES:=Lib.hid hres_
  replace hat:=hat.trans k_
  replace hA:=hA.at1 k_ gA
  replace hP:=hP.at1 k_ gP
  clear hE_ hres_ hr_ k_ hrd21 
  obtain ⟨A5,c5,rfl,hkids⟩:=hv_
  have HK:Hid (∀ W9,At1 w.heap.size w22 W9→KidsAt W9 (New w) A5 0 kl):=Lib.hid fun W9 k=>KidsAt.keep k.size (fun g hg hl=>⟨Nat.le_trans (Nat.le_of_lt hsz5) hg,k.heap hl (fun e=>by have hg9:w20.heap.size≤g:=hg;omega)⟩) A5 0 kl hkids
  clear hkids
  obtain ⟨⟨z0,z1,z2,z3,z4,z5,z6,z7,z8⟩,f0,f1,f2,f3,f4,f5,f6,f7,f8⟩:=hA.all9
  have HF:=Lib.hid (And.intro hA (And.intro hat hrd23))
  clear hA hP hat hrd23 
  go_wp2_with fail
  obtain ⟨hO,hk⟩:=HF.out.1.put9 (x0:=.int .i64 5) (x1:=.string ⟨#[]⟩) (x2:=.int .i64 0) (x3:=.int .i64 0) (x4:=.int .i64 0) (x5:=.int .i64 0) (x6:=.int .i64 0) (x7:=.int .i64 0) (x8:=.slice A5 kl.length c5)
  clear z0 z1 z2 z3 z4 z5 z6 z7 z8 f0 f1 f2 f3 f4 f5 f6 f7 f8
  revert hO hk
  generalize (((((((((World.setCell _ _ _).setCell _ _).setCell _ _).setCell _ _).setCell _ _).setCell _ _).setCell _ _).setCell _ _).setCell _ _)=W9
  intro hO hk
  obtain ⟨⟨q0,q1,q2,q3,q4,q5,q6,q7,q8⟩,_⟩:=hO.all9
  refine bodyPost_ret (v:=.agg #[.int .i64 5,.string ⟨#[]⟩,.int .i64 0,.int .i64 0,.int .i64 0,.int .i64 0,.int .i64 0,.int .i64 0,.slice A5 kl.length c5]) (by simp [results,Tryd.results80,go_sem,q0,q1,q2,q3,q4,q5,q6,q7,q8]) rfl ?_
  have hres9:=HRES.out
  subst hres9
  exact ⟨HF.out.2.1.at_ hk (Nat.le_refl _),⟨_,rfl,_,rfl,RegAt.kids 5 (HK.out _ hk)⟩,HF.out.2.2.at_ hk hBw⟩
 replace HRES:=Lib.hid (by have:=HRES.out;rwa [if_neg c6] at this)
 have HT19:Hid (∀ u,RdAt B r l u→Calls Tryd.prog 75 #[.pointer (some ⟨r,0,none⟩),.string (bs [97,110,121])] u fun e w'=>e=.returned (.bool false)∧RdAt B r l w'∧At1 r u w'):=Lib.hid fun u k=>by
  have:=qTake B r l [97,110,121] u k
  rwa [decide_eq_false c6,if_neg c6] at this
 go_wp2_with fail
 refine (HT19.out _ hrd18).mono ?_
 rintro e2 w20 ⟨rfl,hrd21,k_⟩
 replace hat:=hat.trans k_
 replace hA:=hA.at1 k_ gA
 replace hP:=hP.at1 k_ gP
 clear k_ hrd18 HT19
 clear c6
 have H1:Hid (∀ u,RdAt B r l u→Calls Tryd.prog 52 #[.pointer (some ⟨r,0,none⟩),.string ⟨#[40]⟩] u (Ends B r u (Qy.need [40] l) unitV)):=Lib.hid fun u k=>qNeed B r l [40] u k
 go_wp2_with fail
 refine (H1.out _ hrd21).mono ?_
 rintro e2 w22 hE_
 rcases hE_.cases with ⟨un,l3,v,hr_,rfl,hv_,hrd23,k_⟩ | ⟨x_,er_,hr_,rfl,k_⟩
 rotate_left
 ·have hpan_:=HRES.out
  rw [hr_] at hpan_
  simp only [Qy.Res.on] at hpan_
  subst hpan_
  have HG_:=Lib.hid (hat.trans k_)
  clear k_ hE_ hr_ hrd21 
  go_wp2
  exact ⟨rfl,HG_.out,rfl⟩
 have hres_:=HRES.out
 rw [hr_] at hres_
 simp only [Qy.Res.on] at hres_
 replace HRES:=Lib.hid hres_
 have HL3:=Lib.hid (Qy.need_ok HG.out (by simp) hr_)
 replace hat:=hat.trans k_
 replace hA:=hA.at1 k_ gA
 replace hP:=hP.at1 k_ gP
 clear hE_ hres_ hr_ k_ hrd21 
 obtain rfl:=hv_
 have H2:Hid (∀ u,RdAt B r l3 u→Calls Tryd.prog 54 #[.pointer (some ⟨r,0,none⟩)] u (Ends B r u (Qy.pReg f l3) (regV u))):=Lib.hid fun u k=>HIH.out.2.2 _ u k HL3.out.1 (by have:=HL3.out.2;have:=HF1.out;omega) (by have:=HL3.out.2;have:=HL5.out;omega)
 have hsz5:=hA.lt
 go_wp2_with fail
 refine (H2.out _ hrd23).mono ?_
 rintro e2 w24 hE_
 rcases hE_.cases with ⟨R5,l4,v,hr_,rfl,hv_,hrd25,k_⟩ | ⟨x_,er_,hr_,rfl,k_⟩
 rotate_left
 ·have hpan_:=HRES.out
  rw [hr_] at hpan_
  simp only [Qy.Res.on] at hpan_
  subst hpan_
  have HG_:=Lib.hid (hat.trans k_)
  clear k_ hE_ hr_ hrd23 
  go_wp2
  exact ⟨rfl,HG_.out,rfl⟩
 have hres_:=HRES.out
 rw [hr_] at hres_
 simp only [Qy.Res.on] at hres_
 replace HRES:=Lib.hid hres_
 replace hat:=hat.trans k_
 replace hA:=hA.at1 k_ gA
 replace hP:=hP.at1 k_ gP
 clear hE_ hres_ hr_ k_ hrd23 
 obtain ⟨n0,s1,n2,n3,n4,n5,n6,n7,A8,l8,c9,rfl,hR1,hR3⟩:=hv_.lit
 have gR:r<w22.heap.size:=Nat.lt_of_lt_of_le hrw (Nat.le_of_lt hsz5)
 clear hR3
 go_upto_region 26 with fail
 refine wp_new1 fun W5 hQ kn=>?_
 obtain ⟨g5,hg5⟩:∃ g5,w24.heap.size=g5:=⟨_,rfl⟩
 rw [hg5] at hQ ⊢
 have gQ:g5≠r:=by have:=hA.lt;omega
 have hrd9:=hrd25.on kn
 replace hat:=hat.trans (At1.of_below kn)
 replace hR1:=hR1.at1 (At1.of_below kn) gR
 replace hA:=hA.on kn
 clear kn hrd25 hP hg5
 have H3:Hid (∀ u,RdAt B r l4 u→Calls Tryd.prog 52 #[.pointer (some ⟨r,0,none⟩),.string ⟨#[41]⟩] u (Ends B r u (Qy.need [41] l4) unitV)):=Lib.hid fun u k=>qNeed B r l4 [41] u k
 go_wp2_with fail
 refine (H3.out _ hrd9).mono ?_
 rintro e2 w26 hE_
 rcases hE_.cases with ⟨un2,l5,v,hr_,rfl,hv_,hrd27,k_⟩ | ⟨x_,er_,hr_,rfl,k_⟩
 rotate_left
 ·have hpan_:=HRES.out
  rw [hr_] at hpan_
  simp only [Qy.Res.on] at hpan_
  subst hpan_
  have HG_:=Lib.hid (hat.trans k_)
  clear k_ hE_ hr_ hrd9 
  go_wp2
  exact ⟨rfl,HG_.out,rfl⟩
 have hres_:=HRES.out
 rw [hr_] at hres_
 simp only [Qy.Res.on] at hres_
 replace HRES:=Lib.hid hres_
 replace hat:=hat.trans k_
 replace hA:=hA.at1 k_ gA
 replace hQ:=hQ.at1 k_ gQ
 replace hR1:=hR1.at1 k_ gR
 clear hE_ hres_ hr_ k_ hrd9 
 obtain rfl:=hv_
 obtain ⟨⟨y0,y1,y2,y3,y4,y5,y6,y7,y8⟩,_⟩:=hQ.all9
 have HR2:Hid (∀ W9,At1 w.heap.size w26 W9→RegAt W9 (New w) [.int .i64 n0,.string s1,.int .i64 n2,.int .i64 n3,.int .i64 n4,.int .i64 n5,.int .i64 n6,.int .i64 n7,.slice A8 l8 c9] R5):=Lib.hid fun W9 k=>by
  exact RegAt.keep k.size (fun g hg hl=>⟨Nat.le_trans (Nat.le_of_lt hsz5) hg,k.heap hl (fun e=>by have hg9:w22.heap.size≤g:=hg;omega)⟩) _ _ hR1
 clear hR1
 obtain ⟨⟨z0,z1,z2,z3,z4,z5,z6,z7,z8⟩,f0,f1,f2,f3,f4,f5,f6,f7,f8⟩:=hA.all9
 have HF:=Lib.hid (And.intro hA (And.intro hat hrd27))
 clear hA  hat hrd27 
 go_wp2_with fail
 obtain ⟨hO,hk⟩:=HF.out.1.put9 (x0:=.int .i64 n0) (x1:=.string s1) (x2:=.int .i64 n2) (x3:=.int .i64 n3) (x4:=.int .i64 n4) (x5:=.int .i64 n5) (x6:=.int .i64 n6) (x7:=.int .i64 n7) (x8:=.slice A8 l8 c9)
 clear z0 z1 z2 z3 z4 z5 z6 z7 z8 f0 f1 f2 f3 f4 f5 f6 f7 f8
 revert hO hk
 generalize (((((((((World.setCell _ _ _).setCell _ _).setCell _ _).setCell _ _).setCell _ _).setCell _ _).setCell _ _).setCell _ _).setCell _ _)=W9
 intro hO hk
 obtain ⟨⟨q0,q1,q2,q3,q4,q5,q6,q7,q8⟩,_⟩:=hO.all9
 refine bodyPost_ret (v:=.agg #[.int .i64 n0,.string s1,.int .i64 n2,.int .i64 n3,.int .i64 n4,.int .i64 n5,.int .i64 n6,.int .i64 n7,.slice A8 l8 c9]) (by simp [results,Tryd.results80,go_sem,q0,q1,q2,q3,q4,q5,q6,q7,q8]) rfl ?_
 have hres9:=HRES.out
 subst hres9
 exact ⟨HF.out.2.1.at_ hk (Nat.le_refl _),⟨_,rfl,_,rfl,(HR2.out _ hk)⟩,HF.out.2.2.at_ hk hBw⟩
end Go.Proofs.YtmlpibdincfgbaaDoor
