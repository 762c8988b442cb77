/-
  Queries, plain: the parser as a tree of looks and steps: it asks the tokens' texts alone; an error's offset is its token's; tokens behind an error don't count.
-/
import Derived.Test.YtmlpibdincfgbaaGreatDoorK4
import Derived.Test.YtmlpibdincfgbaaGreatDoorL32
namespace Qy
inductive T (α:Type) where
 | ret (a:α)
 | fail (e:Int)
 | peek (k:Bs→T α)
 | step (k:T α)
def run {α:Type}:T α→List Tok→Res α
 | .ret a,l=>.ok a l
 | .fail e,l=>.bad (hdAt l) e
 | .peek k,l=>run (k (hd l)) l
 | .step k,l=>run k (stp l)
def T.bind {α β:Type}:T α→(α→T β)→T β
 | .ret a,g=>g a
 | .fail e,_=>.fail e
 | .peek k,g=>.peek fun t=>(k t).bind g
 | .step k,g=>.step (k.bind g)
theorem run_bind {α β:Type} (t:T α) (g:α→T β):∀ l,run (t.bind g) l=(run t l).on fun a l=>run (g a) l:=by
 induction t with
 | ret a=>intro l;rfl
 | fail e=>intro l;rfl
 | peek k ih=>intro l;exact ih (hd l) l
 | step k ih=>intro l;exact ih (stp l)
def tNeed (s:Bs):T Unit:=.peek fun t=>if t=s then .step (.ret ()) else .fail 2
def tNum (lo hi:Int):T Int:=.peek fun t=>if numOK t=true then (if lo≤numV t∧numV t≤hi then .step (.ret (numV t)) else .fail 5) else .fail 2
def tPoint (lx ly:Int):T (Int × Int):=(tNum lx 1073741824).bind fun x=>(tNeed [44]).bind fun _=>(tNum ly 1073741824).bind fun y=>.ret (x,y)
mutual
def tReg:Nat→T Reg
 | 0=>.fail 0
 | f+1=>(tItem f).bind fun r=>.peek fun t=>if t=wAnd∨t=wOr then tJoin f t [r] else .ret r
def tJoin:Nat→Bs→List Reg→T Reg
 | 0,_,_=>.fail 0
 | f+1,op,acc=>.peek fun t=>if t=op then .step ((tItem f).bind fun r=>tJoin f op (acc++[r])) else .ret (kidsR (if op=wOr then 5 else 4) acc)
def tList:Nat→T (List Reg)
 | 0=>.fail 0
 | f+1=>(tNeed [40]).bind fun _=>.peek fun t=>if t=[41] then .step (.ret []) else (tReg f).bind fun r=>tMore f [r]
def tMore:Nat→List Reg→T (List Reg)
 | 0,_=>.fail 0
 | f+1,acc=>.peek fun t=>if t=[44] then .step ((tReg f).bind fun r=>tMore f (acc++[r])) else (tNeed [41]).bind fun _=>.ret acc
def tItem:Nat→T Reg
 | 0=>.fail 0
 | f+1=>.peek fun t=>
  if t=[119,104,111,108,101] then .step (.ret (kidsR 0 []))
  else if t=[110,97,109,101,100] then .step (.peek fun n=>if isL (n.headD 0)=false then .fail 2 else if nameOK n=false then .fail 6 else .step (.ret (.mk 1 n 0 0 0 0 0 0 [])))
  else if t=[97,116] then .step ((tPoint (-1073741824) (-1073741824)).bind fun p=>.ret (.mk 2 [] p.1 p.2 0 0 0 0 []))
  else if t=[119,105,116,104,105,110] then .step ((tPoint (-1073741824) (-1073741824)).bind fun p=>(tNeed [116,111]).bind fun _=>(tPoint p.1 p.2).bind fun q=>.ret (.mk 3 [] 0 0 p.1 p.2 q.1 q.2 []))
  else if t=[110,111,116] then .step ((tItem f).bind fun r=>.ret (kidsR 6 [r]))
  else if t=[97,108,108] then .step ((tList f).bind fun k=>.ret (kidsR 4 k))
  else if t=[97,110,121] then .step ((tList f).bind fun k=>.ret (kidsR 5 k))
  else (tNeed [40]).bind fun _=>(tReg f).bind fun r=>(tNeed [41]).bind fun _=>.ret r
end
structure Runs (f:Nat):Prop where
 reg:∀ l,run (tReg f) l=pReg f l
 join:∀ op acc l,run (tJoin f op acc) l=pJoin f op acc l
 list:∀ l,run (tList f) l=pList f l
 more:∀ acc l,run (tMore f acc) l=pMore f acc l
 item:∀ l,run (tItem f) l=pItem f l
end Qy
/-
 (second part)
-/
namespace Qy
mutual
def sameR:Reg→Reg→Bool
 | .mk k nm ax ay b0 b1 b2 b3 l,.mk k' nm' ax' ay' c0 c1 c2 c3 l'=>
  decide (k=k')&&decide (nm=nm')&&(decide (ax=ax')&&decide (ay=ay'))&&(decide (b0=c0)&&decide (b1=c1)&&decide (b2=c2)&&decide (b3=c3))&&decide (l.length=l'.length)&&sameL l l'
def sameL:List Reg→List Reg→Bool
 | [],_=>true
 | _ :: _,[]=>true
 | r :: l,r' :: l'=>sameR r r'&&sameL l l'
end
mutual
theorem sameR_self:∀ r,sameR r r=true
 | .mk k nm ax ay b0 b1 b2 b3 l=>by rw [sameR,sameL_self l];simp
theorem sameL_self:∀ l,sameL l l=true
 | []=>by rw [sameL]
 | r :: l=>by rw [sameL,sameR_self r,sameL_self l];rfl
end
mutual
theorem sameR_eq:∀ a b,sameR a b=true→a=b
 | .mk k nm ax ay b0 b1 b2 b3 l,.mk k' nm' ax' ay' c0 c1 c2 c3 l',h=>by
  rw [sameR] at h
  simp only [Bool.and_eq_true,decide_eq_true_eq] at h
  obtain ⟨⟨⟨⟨⟨rfl,rfl⟩,rfl,rfl⟩,⟨⟨rfl,rfl⟩,rfl⟩,rfl⟩,hl⟩,hs⟩:=h
  rw [sameL_eq l l' hl hs]
theorem sameL_eq:∀ l l',l.length=l'.length→sameL l l'=true→l=l'
 | [],[],_,_=>rfl
 | [],_ :: _,h,_=>by simp at h
 | _ :: _,[],h,_=>by simp at h
 | r :: l,r' :: l',h,hs=>by
  rw [sameL] at hs
  simp only [Bool.and_eq_true] at hs
  rw [sameR_eq r r' hs.1,sameL_eq l l' (by simpa using h) hs.2]
end
theorem sameR_iff (a b:Reg):sameR a b=true↔a=b:=⟨sameR_eq a b,fun h=>h▸sameR_self a⟩
theorem sameL_drop {l l':List Reg} {i:Nat} {r r':Reg} (h:l[i]? = some r) (h':l'[i]? = some r'):sameL (l.drop i) (l'.drop i)=(sameR r r'&&sameL (l.drop (i+1)) (l'.drop (i+1))):=by
 have h1:=(List.getElem?_eq_some_iff.1 h)
 have h2:=(List.getElem?_eq_some_iff.1 h')
 obtain ⟨a1,rfl⟩:=h1
 obtain ⟨a2,rfl⟩:=h2
 rw [List.drop_eq_getElem_cons a1,List.drop_eq_getElem_cons a2,sameL]
theorem Res.on_bad {α β:Type} {r:Res α} {f:α→List Tok→Res β} {x:Nat} {e:Int} (h:r.on f=.bad x e):r=.bad x e∨∃ a l1,r=.ok a l1∧f a l1=.bad x e:=by
 cases r with
 | ok a l=>exact .inr ⟨a,l,rfl,h⟩
 | bad y e'=>exact .inl (by simp only [Res.on,Res.bad.injEq] at h;rw [h.1,h.2])
theorem need_nz {s:Bs} {l:List Tok} {x:Nat} {e:Int} (h:need s l=.bad x e):e≠0:=by
 unfold need at h
 split at h
 ·cases h
 ·injection h with _ h;omega
theorem pNum_nz {lo hi:Int} {l:List Tok} {x:Nat} {e:Int} (h:pNum lo hi l=.bad x e):e≠0:=by
 unfold pNum at h
 split at h
 ·split at h
  ·cases h
  ·injection h with _ h;omega
 ·injection h with _ h;omega
theorem pPoint_nz {a b:Int} {l:List Tok} {x:Nat} {e:Int} (h:pPoint a b l=.bad x e):e≠0:=by
 unfold pPoint at h
 rcases Res.on_bad h with h | ⟨u,l1,_,h⟩
 ·exact pNum_nz h
 rcases Res.on_bad h with h | ⟨u,l1,_,h⟩
 ·exact need_nz h
 rcases Res.on_bad h with h | ⟨u,l1,_,h⟩
 ·exact pNum_nz h
 ·cases h
structure NoZ (f:Nat):Prop where
 reg:∀ l x e,Good l→3 * l.length+2≤f→pReg f l=.bad x e→e≠0
 join:∀ op acc l x e,op≠[]→Good l→3 * l.length+1≤f→pJoin f op acc l=.bad x e→e≠0
 list:∀ l x e,Good l→3 * l.length+1≤f→pList f l=.bad x e→e≠0
 more:∀ acc l x e,Good l→3 * l.length+1≤f→pMore f acc l=.bad x e→e≠0
 item:∀ l x e,Good l→3 * l.length+1≤f→pItem f l=.bad x e→e≠0
theorem noz:∀ f,NoZ f:=by
 intro f
 induction f with
 | zero=>exact ⟨fun _ _ _ _ h=>by omega,fun _ _ _ _ _ _ _ h=>by omega,fun _ _ _ _ h=>by omega,fun _ _ _ _ _ h=>by omega,fun _ _ _ _ h=>by omega⟩
 | succ f ih=>
  have EA:=eats f
  refine ⟨fun l x e hg hf h=>?_,fun op acc l x e ho hg hf h=>?_,fun l x e hg hf h=>?_,fun acc l x e hg hf h=>?_,fun l x e hg hf h=>?_⟩
  ·rw [pReg] at h
   rcases Res.on_bad h with h | ⟨a,l1,h1,h⟩
   ·exact ih.item _ _ _ hg (by omega) h
   have g1:=EA.item l a l1 hg h1
   split at h
   ·rename_i k
    exact ih.join _ _ _ _ _ (by rcases k with k | k <;> rw [k] <;> simp [wAnd,wOr]) g1.1 (by have:=g1.2;omega) h
   ·cases h
  ·rw [pJoin] at h
   split at h
   ·rename_i k
    have hlt:=hg.stp_lt (by rw [k];exact ho)
    rcases Res.on_bad h with h | ⟨a,l1,h1,h⟩
    ·exact ih.item _ _ _ hg.stp (by omega) h
    have g1:=EA.item _ a l1 hg.stp h1
    exact ih.join _ _ _ _ _ ho g1.1 (by have:=g1.2;omega) h
   ·cases h
  ·rw [pList] at h
   rcases Res.on_bad h with h | ⟨a,l1,h1,h⟩
   ·exact need_nz h
   have g1:=need_ok hg (by simp) h1
   split at h
   ·cases h
   rcases Res.on_bad h with h | ⟨b,l2,h2,h⟩
   ·exact ih.reg _ _ _ g1.1 (by have:=g1.2;omega) h
   have g2:=EA.reg _ b l2 g1.1 h2
   exact ih.more _ _ _ _ g2.1 (by have:=g1.2;have:=g2.2;omega) h
  ·rw [pMore] at h
   split at h
   ·rename_i k
    have hlt:=hg.stp_lt (by rw [k];simp)
    rcases Res.on_bad h with h | ⟨a,l1,h1,h⟩
    ·exact ih.reg _ _ _ hg.stp (by omega) h
    have g1:=EA.reg _ a l1 hg.stp h1
    exact ih.more _ _ _ _ g1.1 (by have:=g1.2;omega) h
   rcases Res.on_bad h with h | ⟨a,l1,h1,h⟩
   ·exact need_nz h
   ·cases h
  ·rw [pItem] at h
   have ks:∀ {s:Bs},hd l=s→s≠[]→Less l (stp l):=fun e hs=>⟨hg.stp,hg.stp_lt (by rw [e];exact hs)⟩
   split at h
   ·cases h
   split at h
   ·split at h
    ·injection h with _ h;omega
    split at h
    ·injection h with _ h;omega
    ·cases h
   split at h
   ·rcases Res.on_bad h with h | ⟨a,l1,h1,h⟩
    ·exact pPoint_nz h
    ·cases h
   split at h
   ·rcases Res.on_bad h with h | ⟨a,l1,h1,h⟩
    ·exact pPoint_nz h
    rcases Res.on_bad h with h | ⟨a,l1,h1,h⟩
    ·exact need_nz h
    rcases Res.on_bad h with h | ⟨a,l1,h1,h⟩
    ·exact pPoint_nz h
    ·cases h
   split at h
   ·rename_i k
    have k0:=ks k (by simp)
    rcases Res.on_bad h with h | ⟨a,l1,h1,h⟩
    ·exact ih.item _ _ _ k0.1 (by have:=k0.2;omega) h
    ·cases h
   split at h
   ·rename_i k
    have k0:=ks k (by simp)
    rcases Res.on_bad h with h | ⟨a,l1,h1,h⟩
    ·exact ih.list _ _ _ k0.1 (by have:=k0.2;omega) h
    ·cases h
   split at h
   ·rename_i k
    have k0:=ks k (by simp)
    rcases Res.on_bad h with h | ⟨a,l1,h1,h⟩
    ·exact ih.list _ _ _ k0.1 (by have:=k0.2;omega) h
    ·cases h
   rcases Res.on_bad h with h | ⟨a,l1,h1,h⟩
   ·exact need_nz h
   have k0:=need_ok hg (by simp) h1
   rcases Res.on_bad h with h | ⟨b,l2,h2,h⟩
   ·exact ih.reg _ _ _ k0.1 (by have:=k0.2;omega) h
   rcases Res.on_bad h with h | ⟨b,l2,h2,h⟩
   ·exact need_nz h
   ·cases h
theorem pOff_nz:∀ (f:Nat) (acc:List Int) (l:List Tok) (x:Nat) (e:Int),Good l→l.length≤f→1≤f→pOff f acc l=.bad x e→e≠0:=by
 intro f
 induction f with
 | zero=>intro acc l x e hg hf h1;omega
 | succ f ih=>
  intro acc l x e hg hf h1 h
  rw [pOff] at h
  rcases Res.on_bad h with h | ⟨n,l1,h1,h⟩
  ·exact pNum_nz h
  have g1:=(pNum_ok hg h1).1
  split at h
  ·injection h with _ h;omega
  split at h
  ·injection h with _ h;omega
  split at h
  ·rename_i k
   have hlt:=g1.1.stp_lt (by rw [k];simp)
   have:=g1.2
   have hp:=g1.1.stp.pos
   exact ih _ _ _ _ g1.1.stp (by omega) (by omega) h
  ·cases h
theorem pView_nz {f:Nat} {l:List Tok} {x:Nat} {e:Int} (hg:Good l) (hf:l.length≤f) (h:pView f l=.bad x e):e≠0:=by
 unfold pView at h
 split at h
 ·cases h
 split at h
 ·rcases Res.on_bad h with h | ⟨n,l1,h1,h⟩
  ·exact pNum_nz h
  ·cases h
 rcases Res.on_bad h with h | ⟨n,l1,h1,h⟩
 ·exact need_nz h
 have g1:=need_ok hg (by simp) h1
 rcases Res.on_bad h with h | ⟨n,l2,h2,h⟩
 ·have:=g1.2
  exact pOff_nz _ _ _ _ _ g1.1 (by omega) (by have:=hg.pos;omega) h
 ·cases h
theorem query_nz {f:Nat} {l:List Tok} {x:Nat} {e:Int} (hg:Good l) (hf:3 * l.length+2≤f) (h:pQuery f l=.bad x e):e≠0:=by
 unfold pQuery at h
 rcases Res.on_bad h with h | ⟨a,l1,h1,h⟩
 ·exact need_nz h
 have g1:=need_ok hg (by simp) h1
 rcases Res.on_bad h with h | ⟨a,l2,h2,h⟩
 ·exact pNum_nz h
 have g2:=g1.trans (pNum_ok g1.1 h2).1.le
 rcases Res.on_bad h with h | ⟨a,l3,h3,h⟩
 ·exact need_nz h
 have g3:=g2.trans (need_ok g2.1 (by simp) h3).le
 rcases Res.on_bad h with h | ⟨a,l4,h4,h⟩
 ·exact (noz f).reg _ _ _ g3.1 (by have:=g3.2;omega) h
 have g4:=g3.trans ((eats f).reg _ _ _ g3.1 h4).le
 rcases Res.on_bad h with h | ⟨a,l5,h5,h⟩
 ·exact need_nz h
 have g5:=g4.trans (need_ok g4.1 (by simp) h5).le
 rcases Res.on_bad h with h | ⟨a,l6,h6,h⟩
 ·exact pView_nz g5.1 (by have:=g5.2;omega) h
 rcases Res.on_bad h with h | ⟨a,l7,h7,h⟩
 ·exact need_nz h
 rcases Res.on_bad h with h | ⟨a,l8,h8,h⟩
 ·exact pNum_nz h
 rcases Res.on_bad h with h | ⟨a,l9,h9,h⟩
 ·exact need_nz h
 rcases Res.on_bad h with h | ⟨a,l10,h10,h⟩
 ·exact pNum_nz h
 rcases Res.on_bad h with h | ⟨a,l11,h11,h⟩
 ·exact need_nz h
 ·cases h
def Whole (t:Bs):Prop:=∃ c w,t=c :: w∧c≠32∧∀ d∈w,more c d=true
def sp (p:Nat→Nat):Nat→List Tok→Bs
 | _,[]=>[]
 | i,t :: r=>List.replicate (p i+1) 32++(t.text++sp p (i+1) r)
theorem toks_le:∀ (n:Nat) (s:Bs) (i:Nat),s.length≤n→(toks s i).length≤s.length+1:=by
 intro n
 induction n with
 | zero=>
  intro s i h
  obtain rfl:s=[]:=List.eq_nil_of_length_eq_zero (by omega)
  rw [toks]
  simp
 | succ n ih=>
  intro s i h
  match s,h with
  | [],_=>rw [toks];simp
  | c :: s,h=>
   rw [toks]
   simp only [List.length_cons] at h
   split
   ·have:=ih s (i+1) (by omega)
    simp only [List.length_cons]
    omega
   ·have hd:=drop_le (more c) s
    have:=ih (s.dropWhile (more c)) (i+1+(s.takeWhile (more c)).length) (by omega)
    simp only [List.length_cons]
    omega
theorem take_stop {p:UInt8→Bool} {w r:Bs} (hw:∀ d∈w,p d=true) (hr:∀ d r',r=d :: r'→p d=false):(w++r).takeWhile p=w∧(w++r).dropWhile p=r:=by
 induction w with
 | nil=>
  match r,hr with
  | [],_=>exact ⟨rfl,rfl⟩
  | d :: r',hr=>simp [hr d r' rfl]
 | cons d w ih=>
  have h1:=hw d (by simp)
  have h2:=ih fun x hx=>hw x (List.mem_cons_of_mem _ hx)
  simp [h1,h2]
end Qy
