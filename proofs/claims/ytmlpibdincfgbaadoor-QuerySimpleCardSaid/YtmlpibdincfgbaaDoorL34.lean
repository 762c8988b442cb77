/-
  Queries, plain: the parser as a tree of looks and steps: it asks the tokens' texts alone; an error's offset is its token's; tokens behind an error don't count.
-/
import Derived.Test.YtmlpibdincfgbaaDoorK4
import Derived.Test.YtmlpibdincfgbaaDoorL32
namespace Qy
inductive T (α:Type) where
 | ret (a:α)
 | fail (e:Int)
 | peek (k:Bs→T α)
 | step (k:T α)
def run {α:Type}:T α→List Tok→Res α
 | .ret a,l=>.ok a l
 | .fail e,l=>.bad (hdAt l) e
 | .peek k,l=>run (k (hd l)) l
 | .step k,l=>run k (stp l)
def T.bind {α β:Type}:T α→(α→T β)→T β
 | .ret a,g=>g a
 | .fail e,_=>.fail e
 | .peek k,g=>.peek fun t=>(k t).bind g
 | .step k,g=>.step (k.bind g)
theorem run_bind {α β:Type} (t:T α) (g:α→T β):∀ l,run (t.bind g) l=(run t l).on fun a l=>run (g a) l:=by
 induction t with
 | ret a=>intro l;rfl
 | fail e=>intro l;rfl
 | peek k ih=>intro l;exact ih (hd l) l
 | step k ih=>intro l;exact ih (stp l)
def tNeed (s:Bs):T Unit:=.peek fun t=>if t=s then .step (.ret ()) else .fail 2
def tNum (lo hi:Int):T Int:=.peek fun t=>if numOK t=true then (if lo≤numV t∧numV t≤hi then .step (.ret (numV t)) else .fail 5) else .fail 2
def tPoint (lx ly:Int):T (Int × Int):=(tNum lx 1073741824).bind fun x=>(tNeed [44]).bind fun _=>(tNum ly 1073741824).bind fun y=>.ret (x,y)
mutual
def tReg:Nat→T Reg
 | 0=>.fail 0
 | f+1=>(tItem f).bind fun r=>.peek fun t=>if t=wAnd∨t=wOr then tJoin f t [r] else .ret r
def tJoin:Nat→Bs→List Reg→T Reg
 | 0,_,_=>.fail 0
 | f+1,op,acc=>.peek fun t=>if t=op then .step ((tItem f).bind fun r=>tJoin f op (acc++[r])) else .ret (kidsR (if op=wOr then 5 else 4) acc)
def tList:Nat→T (List Reg)
 | 0=>.fail 0
 | f+1=>(tNeed [40]).bind fun _=>.peek fun t=>if t=[41] then .step (.ret []) else (tReg f).bind fun r=>tMore f [r]
def tMore:Nat→List Reg→T (List Reg)
 | 0,_=>.fail 0
 | f+1,acc=>.peek fun t=>if t=[44] then .step ((tReg f).bind fun r=>tMore f (acc++[r])) else (tNeed [41]).bind fun _=>.ret acc
def tItem:Nat→T Reg
 | 0=>.fail 0
 | f+1=>.peek fun t=>
  if t=[119,104,111,108,101] then .step (.ret (kidsR 0 []))
  else if t=[110,97,109,101,100] then .step (.peek fun n=>if isL (n.headD 0)=false then .fail 2 else if nameOK n=false then .fail 6 else .step (.ret (.mk 1 n 0 0 0 0 0 0 [])))
  else if t=[97,116] then .step ((tPoint (-1073741824) (-1073741824)).bind fun p=>.ret (.mk 2 [] p.1 p.2 0 0 0 0 []))
  else if t=[119,105,116,104,105,110] then .step ((tPoint (-1073741824) (-1073741824)).bind fun p=>(tNeed [116,111]).bind fun _=>(tPoint p.1 p.2).bind fun q=>.ret (.mk 3 [] 0 0 p.1 p.2 q.1 q.2 []))
  else if t=[110,111,116] then .step ((tItem f).bind fun r=>.ret (kidsR 6 [r]))
  else if t=[97,108,108] then .step ((tList f).bind fun k=>.ret (kidsR 4 k))
  else if t=[97,110,121] then .step ((tList f).bind fun k=>.ret (kidsR 5 k))
  else (tNeed [40]).bind fun _=>(tReg f).bind fun r=>(tNeed [41]).bind fun _=>.ret r
end
structure Runs (f:Nat):Prop where
 reg:∀ l,run (tReg f) l=pReg f l
 join:∀ op acc l,run (tJoin f op acc) l=pJoin f op acc l
 list:∀ l,run (tList f) l=pList f l
 more:∀ acc l,run (tMore f acc) l=pMore f acc l
 item:∀ l,run (tItem f) l=pItem f l
end Qy
/-
 (second part)
-/
namespace Qy
mutual
def sameR:Reg→Reg→Bool
 | .mk k nm ax ay b0 b1 b2 b3 l,.mk k' nm' ax' ay' c0 c1 c2 c3 l'=>
  decide (k=k')&&decide (nm=nm')&&(decide (ax=ax')&&decide (ay=ay'))&&(decide (b0=c0)&&decide (b1=c1)&&decide (b2=c2)&&decide (b3=c3))&&decide (l.length=l'.length)&&sameL l l'
def sameL:List Reg→List Reg→Bool
 | [],_=>true
 | _ :: _,[]=>true
 | r :: l,r' :: l'=>sameR r r'&&sameL l l'
end
mutual
theorem sameR_self:∀ r,sameR r r=true
 | .mk k nm ax ay b0 b1 b2 b3 l=>by rw [sameR,sameL_self l];simp
theorem sameL_self:∀ l,sameL l l=true
 | []=>by rw [sameL]
 | r :: l=>by rw [sameL,sameR_self r,sameL_self l];rfl
end
mutual
theorem sameR_eq:∀ a b,sameR a b=true→a=b
 | .mk k nm ax ay b0 b1 b2 b3 l,.mk k' nm' ax' ay' c0 c1 c2 c3 l',h=>by
  rw [sameR] at h
  simp only [Bool.and_eq_true,decide_eq_true_eq] at h
  obtain ⟨⟨⟨⟨⟨rfl,rfl⟩,rfl,rfl⟩,⟨⟨rfl,rfl⟩,rfl⟩,rfl⟩,hl⟩,hs⟩:=h
  rw [sameL_eq l l' hl hs]
theorem sameL_eq:∀ l l',l.length=l'.length→sameL l l'=true→l=l'
 | [],[],_,_=>rfl
 | [],_ :: _,h,_=>by simp at h
 | _ :: _,[],h,_=>by simp at h
 | r :: l,r' :: l',h,hs=>by
  rw [sameL] at hs
  simp only [Bool.and_eq_true] at hs
  rw [sameR_eq r r' hs.1,sameL_eq l l' (by simpa using h) hs.2]
end
theorem sameR_iff (a b:Reg):sameR a b=true↔a=b:=⟨sameR_eq a b,fun h=>h▸sameR_self a⟩
theorem sameL_drop {l l':List Reg} {i:Nat} {r r':Reg} (h:l[i]? = some r) (h':l'[i]? = some r'):sameL (l.drop i) (l'.drop i)=(sameR r r'&&sameL (l.drop (i+1)) (l'.drop (i+1))):=by
 have h1:=(List.getElem?_eq_some_iff.1 h)
 have h2:=(List.getElem?_eq_some_iff.1 h')
 obtain ⟨a1,rfl⟩:=h1
 obtain ⟨a2,rfl⟩:=h2
 rw [List.drop_eq_getElem_cons a1,List.drop_eq_getElem_cons a2,sameL]
structure NoZ (f:Nat):Prop where
 reg:∀ l x e,Good l→3 * l.length+2≤f→pReg f l=.bad x e→e≠0
 join:∀ op acc l x e,op≠[]→Good l→3 * l.length+1≤f→pJoin f op acc l=.bad x e→e≠0
 list:∀ l x e,Good l→3 * l.length+1≤f→pList f l=.bad x e→e≠0
 more:∀ acc l x e,Good l→3 * l.length+1≤f→pMore f acc l=.bad x e→e≠0
 item:∀ l x e,Good l→3 * l.length+1≤f→pItem f l=.bad x e→e≠0
def Whole (t:Bs):Prop:=∃ c w,t=c :: w∧c≠32∧∀ d∈w,more c d=true
def sp (p:Nat→Nat):Nat→List Tok→Bs
 | _,[]=>[]
 | i,t :: r=>List.replicate (p i+1) 32++(t.text++sp p (i+1) r)
end Qy
