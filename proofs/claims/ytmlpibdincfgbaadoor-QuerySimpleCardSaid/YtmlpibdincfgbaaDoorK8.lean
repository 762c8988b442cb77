/-
  Package query: numbers and points.
-/
import Derived.Test.YtmlpibdincfgbaaDoorK7
import Derived.Lib.ConvBytes
namespace Go.Proofs.YtmlpibdincfgbaaDoor
open Go.RowKit
theorem trim_digs (t:Qy.Bs):Lib.trimPrefix t [45]=Qy.digs t:=by
 unfold Lib.trimPrefix Lib.hasPrefix
 match t with
 | []=>rfl
 | c :: r=>
  by_cases h:c=45
  ·subst h
   simp [List.isPrefixOf,Qy.digs]
  ·have e:Qy.digs (c :: r)=c :: r:=by
    unfold Qy.digs
    split
    ·rename_i x e
     injection e with e
     exact absurd e h
    ·rfl
   rw [e]
   have h2:(45==c)=false:=by simpa using fun e=>h e.symm
   simp [List.isPrefixOf,h2]
theorem bytesW_below (w:World) (x:ByteArray):Below w.heap.size w (Lib.bytesWorld w 5 x):=by
 refine ⟨rfl,rfl,rfl,?_,fun k hk=>Lib.bytesWorld_at_old w _ x k hk⟩
 simp [Lib.bytesWorld,World.freeze]
set_option maxRecDepth 100000 in
set_option maxHeartbeats 3200000 in
theorem qNum (B r:Nat) (l:List Qy.Tok) (lo hi:Int) (w:World) (h:RdAt B r l w) (hs:Qy.Shape (Qy.hd l)) :
 Calls Tryd.prog 53 #[.pointer (some ⟨r,0,none⟩),.int .i64 lo,.int .i64 hi] w (Ends B r w (Qy.pNum lo hi l) intV):=by
 obtain ⟨t,ht⟩:∃ t,Qy.hd l=t:=⟨_,rfl⟩
 obtain ⟨d,hd⟩:∃ d,Qy.digs t=d:=⟨_,rfl⟩
 have c0:=h.cell0.1
 rw [ht] at c0 hs
 have HTr:Hid (∀ u,Calls Tryd.prog 77 #[.string (bs t),.string ⟨#[45]⟩] u fun e w'=>e=.returned (.string (bs d))∧w'=u):=Lib.hid fun u=>by
  have:=Tryd.strings_TrimPrefix (bs t) ⟨#[45]⟩ u
  rwa [show (Lib.trimPrefix (bs t).data.toList (⟨#[45]⟩:ByteArray).data.toList).toArray=d.toArray by rw [bs_list,show (⟨#[45]⟩:ByteArray).data.toList=[45] from rfl,trim_digs,hd]] at this
 have HIn:Hid (∀ u,Calls Tryd.prog 78 #[.int .i64 (d.length:Int),.int .i64 1,.int .i64 10] u fun e w'=>e=.returned (.bool (decide (1≤d.length)&&decide (d.length≤10)))∧w'=u):=Lib.hid fun u=>by
  have:=in_any (d.length:Int) 1 10 u
  rwa [show decide ((1:Int)≤(d.length:Int))=decide (1≤d.length) by rw [decide_eq_decide];omega,show decide ((d.length:Int)≤10)=decide (d.length≤10) by rw [decide_eq_decide];omega] at this
 have HFl:Hid (∀ er,Calls Tryd.prog 76 #[.pointer (some ⟨r,0,none⟩),.int .i64 er] w fun e w'=>e=.panicked (prob (Qy.hdAt l) er)∧w'=w):=Lib.hid fun er=>qFail B r l er w h
 have hsz:(bs d).size=d.length:=bs_size d
 have HN:Qy.numOK t=(decide (1≤d.length)&&decide (d.length≤10)&&Qy.isD (d.headD 0)&&!(d.headD 0==48&&!(t==[48]))):=by unfold Qy.numOK;rw [hd]
 obtain ⟨m,hm⟩:∃ m,d.length=m:=⟨_,rfl⟩
 rw [hm] at HIn HN hsz
 by_cases hl:1≤m∧m≤10
 ·obtain ⟨h1,h2⟩:=hl
  obtain ⟨c,r',rfl⟩:∃ c r',d=c :: r':=by
   cases d with
   | nil=>simp at hm;omega
   | cons c r'=>exact ⟨c,r',rfl⟩
  rw [decide_eq_true h1,decide_eq_true h2] at HIn HN
  simp only [Bool.true_and,List.headD_cons] at HN HIn
  have HDg:=Lib.hid fun u=>digit_any c u
  obtain ⟨sd,hsd⟩:∃ sd,bs (c :: r')=sd:=⟨_,rfl⟩
  have hx2:∀ hi:0<sd.size,sd[0]'hi=c:=by rw [← hsd];exact fun _=>rfl
  rw [hsd] at hsz HTr
  have hx1:(0:Int)<(m:Int):=by omega
  clear hsd
  by_cases hdc:Qy.isD c=true
  ·rw [hdc] at HDg HN
   simp only [Bool.true_and] at HN
   by_cases hz:c=48∧t≠[48]
   ·have hp:Qy.pNum lo hi l=.bad (Qy.hdAt l) 2:=by
     unfold Qy.pNum
     rw [ht,if_neg (by rw [HN];simp [hz.1,hz.2])]
    rw [hp]
    have hcmp:((bs t).toList==[48])=false:=by
     rw [bs_toList]
     simpa using hz.2
    have hc48:c=48:=hz.1
    subst hc48
    have HDg2:Hid (∀ u,Calls Tryd.prog 51 #[.int .u8 48] u fun e w'=>e=.returned (.bool true)∧w'=u):=HDg
    clear hp HN hs hd h hdc hz
    go_enter Tryd.func53,Tryd.ntmps53
    go_wp2_with fail
    refine (HTr.out _).mono ?_
    rintro e w1 ⟨rfl,e_⟩
    subst e_
    go_wp2_with fail
    refine (HIn.out _).mono ?_
    rintro e w2 ⟨rfl,e_⟩
    subst e_
    go_wp2_with fail
    refine (HDg2.out _).mono ?_
    rintro e w2 ⟨rfl,e_⟩
    subst e_
    go_wp2_with fail
    refine (HFl.out 2).mono ?_
    rintro e w3 ⟨rfl,e_⟩
    subst e_
    go_wp2
    exact ⟨rfl,At1.refl _ _,rfl⟩
   ·have hok:Qy.numOK t=true:=by
     rw [HN]
     by_cases e:c=48
     ·have:t=[48]:=by
       by_cases e2:t=[48]
       ·exact e2
       ·exact absurd ⟨e,e2⟩ hz
      simp [e,this]
     ·simp [e]
    obtain ⟨hat,hv1,hv2⟩:=Qy.atoi_tok hs hok
    have HAt:Hid (∀ u,Calls Tryd.prog 79 #[.string (bs t)] u fun e w'=>e=.returned (.tuple #[.int .i64 (Qy.numV t),.nilIface])∧Below u.heap.size u w'):=Lib.hid fun u=>
     (Tryd.strconv_Atoi_ok (bs t) (by rw [bs_size];have:=Qy.digs_len t;rw [hd,hm] at this;omega) (Qy.numV t) (by rw [bs_list];exact hat) u).mono fun e w' ⟨k1,k2⟩=>⟨k1,k2.elim (fun k=>by rw [k];exact Below.refl _ _) (fun ⟨x,k⟩=>by rw [k];exact bytesW_below u x)⟩
    have HI2:Hid (∀ u,Calls Tryd.prog 78 #[.int .i64 (Qy.numV t),.int .i64 lo,.int .i64 hi] u fun e w'=>e=.returned (.bool (decide (lo≤Qy.numV t)&&decide (Qy.numV t≤hi)))∧w'=u):=Lib.hid fun u=>in_any _ lo hi u
    have HP:Qy.pNum lo hi l=if lo≤Qy.numV t∧Qy.numV t≤hi then .ok (Qy.numV t) (Qy.stp l) else .bad (Qy.hdAt l) 5:=by
     unfold Qy.pNum
     rw [ht,if_pos hok]
    rw [HP]
    obtain ⟨v,hv⟩:∃ v,Qy.numV t=v:=⟨_,rfl⟩
    rw [hv] at HAt HI2 hv1 hv2 ⊢
    have HS:Hid (∀ u,RdAt B r l u→Calls Tryd.prog 31 #[.pointer (some ⟨r,0,none⟩)] u fun e w'=>e=.returned (.tuple #[])∧RdAt B r (Qy.stp l) w'∧At1 r u w'):=Lib.hid fun u k=>qStep B r l u k
    have HF5:Hid (∀ u,RdAt B r l u→Calls Tryd.prog 76 #[.pointer (some ⟨r,0,none⟩),.int .i64 5] u fun e w'=>e=.panicked (prob (Qy.hdAt l) 5)∧w'=u):=Lib.hid fun u k=>qFail B r l 5 u k
    have HRd:=Lib.hid h
    obtain ⟨ok,hko⟩:∃ b,(decide (lo≤v)&&decide (v≤hi))=b:=⟨_,rfl⟩
    rw [hko] at HI2
    have hres:(if lo≤v∧v≤hi then Qy.Res.ok v (Qy.stp l) else .bad (Qy.hdAt l) 5)=if ok=true then Qy.Res.ok v (Qy.stp l) else .bad (Qy.hdAt l) 5:=by
     rw [← hko]
     simp
    rw [hres]
    have hz2:Hid (c.toNat=48→((bs t).toList==[48])=true):=Lib.hid fun e=>by
     have:t=[48]:=by
      by_cases e2:t=[48]
      ·exact e2
      ·exact absurd ⟨UInt8.toNat.inj e,e2⟩ hz
     rw [bs_toList,this]
     rfl
    clear hat hok hs hd h hz HP hv hko hres HN hdc ht hm
    by_cases hc:c.toNat=48
    ·have hcmp:=hz2.out hc
     have hc48:c=48:=UInt8.toNat.inj hc
     subst hc48
     have HDg2:Hid (∀ u,Calls Tryd.prog 51 #[.int .u8 48] u fun e w'=>e=.returned (.bool true)∧w'=u):=HDg
     clear hc hz2 HDg
     cases ok
     ·simp only [Bool.false_eq_true,if_false]
      go_enter Tryd.func53,Tryd.ntmps53
      go_wp2_with fail
      refine (HTr.out _).mono ?_
      rintro e w1 ⟨rfl,e_⟩
      subst e_
      go_wp2_with fail
      refine (HIn.out _).mono ?_
      rintro e w2 ⟨rfl,e_⟩
      subst e_
      go_wp2_with fail
      refine (HDg2.out _).mono ?_
      rintro e w2 ⟨rfl,e_⟩
      subst e_
      go_wp2_with fail
      refine (HAt.out _).mono ?_
      rintro e w3 ⟨rfl,k3⟩
      go_wp2_with fail
      refine (HI2.out _).mono ?_
      rintro e w4 ⟨rfl,e_⟩
      subst e_
      have h4:=HRd.out.on k3
      have K3:=Lib.hid (At1.of_below (r:=r) k3)
      clear k3
      go_wp2_with fail
      refine (HF5.out _ h4).mono ?_
      rintro e w5 ⟨rfl,e_⟩
      subst e_
      go_wp2
      exact ⟨rfl,K3.out,rfl⟩
     ·simp only [if_true]
      go_enter Tryd.func53,Tryd.ntmps53
      go_wp2_with fail
      refine (HTr.out _).mono ?_
      rintro e w1 ⟨rfl,e_⟩
      subst e_
      go_wp2_with fail
      refine (HIn.out _).mono ?_
      rintro e w2 ⟨rfl,e_⟩
      subst e_
      go_wp2_with fail
      refine (HDg2.out _).mono ?_
      rintro e w2 ⟨rfl,e_⟩
      subst e_
      go_wp2_with fail
      refine (HAt.out _).mono ?_
      rintro e w3 ⟨rfl,k3⟩
      go_wp2_with fail
      refine (HI2.out _).mono ?_
      rintro e w4 ⟨rfl,e_⟩
      subst e_
      have h4:=HRd.out.on k3
      have K3:=Lib.hid (At1.of_below (r:=r) k3)
      clear k3
      go_wp2_with fail
      refine (HS.out _ h4).mono ?_
      rintro e w5 ⟨rfl,h5,k5⟩
      have HF:=Lib.hid (And.intro (K3.out.trans k5) h5)
      clear h4 h5 k5
      go_wp2
      go_returns
      exact ⟨HF.out.1,⟨_,rfl,rfl⟩,HF.out.2⟩
    ·have hc2:¬ ((c.toNat:Int)=48):=by omega
     have hc3:¬ c.toNat=48:=hc
     clear hz2 hc
     cases ok
     ·simp only [Bool.false_eq_true,if_false]
      go_enter Tryd.func53,Tryd.ntmps53
      go_wp2_with fail
      refine (HTr.out _).mono ?_
      rintro e w1 ⟨rfl,e_⟩
      subst e_
      go_wp2_with fail
      refine (HIn.out _).mono ?_
      rintro e w2 ⟨rfl,e_⟩
      subst e_
      go_wp2_with fail
      refine (HDg.out _).mono ?_
      rintro e w2 ⟨rfl,e_⟩
      subst e_
      go_wp2_with fail
      refine (HAt.out _).mono ?_
      rintro e w3 ⟨rfl,k3⟩
      go_wp2_with fail
      refine (HI2.out _).mono ?_
      rintro e w4 ⟨rfl,e_⟩
      subst e_
      have h4:=HRd.out.on k3
      have K3:=Lib.hid (At1.of_below (r:=r) k3)
      clear k3
      go_wp2_with fail
      refine (HF5.out _ h4).mono ?_
      rintro e w5 ⟨rfl,e_⟩
      subst e_
      go_wp2
      exact ⟨rfl,K3.out,rfl⟩
     ·simp only [if_true]
      go_enter Tryd.func53,Tryd.ntmps53
      go_wp2_with fail
      refine (HTr.out _).mono ?_
      rintro e w1 ⟨rfl,e_⟩
      subst e_
      go_wp2_with fail
      refine (HIn.out _).mono ?_
      rintro e w2 ⟨rfl,e_⟩
      subst e_
      go_wp2_with fail
      refine (HDg.out _).mono ?_
      rintro e w2 ⟨rfl,e_⟩
      subst e_
      go_wp2_with fail
      refine (HAt.out _).mono ?_
      rintro e w3 ⟨rfl,k3⟩
      go_wp2_with fail
      refine (HI2.out _).mono ?_
      rintro e w4 ⟨rfl,e_⟩
      subst e_
      have h4:=HRd.out.on k3
      have K3:=Lib.hid (At1.of_below (r:=r) k3)
      clear k3
      go_wp2_with fail
      refine (HS.out _ h4).mono ?_
      rintro e w5 ⟨rfl,h5,k5⟩
      have HF:=Lib.hid (And.intro (K3.out.trans k5) h5)
      clear h4 h5 k5
      go_wp2
      go_returns
      exact ⟨HF.out.1,⟨_,rfl,rfl⟩,HF.out.2⟩
  ·have hdf:Qy.isD c=false:=by simpa using hdc
   rw [hdf] at HDg HN
   have hp:Qy.pNum lo hi l=.bad (Qy.hdAt l) 2:=by
    unfold Qy.pNum
    rw [ht,if_neg (by rw [HN];simp)]
   rw [hp]
   clear hp HN hs hd h hdc
   go_enter Tryd.func53,Tryd.ntmps53
   go_wp2_with fail
   refine (HTr.out _).mono ?_
   rintro e w1 ⟨rfl,e_⟩
   subst e_
   go_wp2_with fail
   refine (HIn.out _).mono ?_
   rintro e w2 ⟨rfl,e_⟩
   subst e_
   go_wp2_with fail
   refine (HDg.out _).mono ?_
   rintro e w2 ⟨rfl,e_⟩
   subst e_
   go_wp2_with fail
   refine (HFl.out 2).mono ?_
   rintro e w3 ⟨rfl,e_⟩
   subst e_
   go_wp2
   exact ⟨rfl,At1.refl _ _,rfl⟩
 ·have hno:(decide (1≤m)&&decide (m≤10))=false:=by
   rw [Bool.and_eq_false_iff]
   simp only [decide_eq_false_iff_not]
   omega
  rw [hno] at HIn HN
  have hp:Qy.pNum lo hi l=.bad (Qy.hdAt l) 2:=by
   unfold Qy.pNum
   rw [ht,if_neg (by rw [HN];simp)]
  rw [hp]
  clear hp HN hno hl hs hd h hm
  go_enter Tryd.func53,Tryd.ntmps53
  go_wp2_with fail
  refine (HTr.out _).mono ?_
  rintro e w1 ⟨rfl,e_⟩
  subst e_
  go_wp2_with fail
  refine (HIn.out _).mono ?_
  rintro e w2 ⟨rfl,e_⟩
  subst e_
  go_wp2_with fail
  refine (HFl.out 2).mono ?_
  rintro e w3 ⟨rfl,e_⟩
  subst e_
  go_wp2
  exact ⟨rfl,At1.refl _ _,rfl⟩
end Go.Proofs.YtmlpibdincfgbaaDoor
