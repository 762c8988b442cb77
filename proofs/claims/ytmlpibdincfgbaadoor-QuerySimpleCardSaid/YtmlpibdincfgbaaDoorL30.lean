/-
  Queries, plain: the reference's reader, that goes on after an error and moves no more; it reads what the parser reads.
-/
import Derived.Test.YtmlpibdincfgbaaDoorK4
namespace Qy
abbrev St:=List Tok × Option (Nat × Int)
def see (s:St):Bs:=match s.2 with
 | none=>hd s.1
 | some _=>[32]
def failS (e:Int) (s:St):St:=match s.2 with
 | none=>(s.1,some (hdAt s.1,e))
 | some _=>s
def adv (s:St):St:=(stp s.1,s.2)
def takeS (t:Bs) (s:St):St:=if see s=t then (if t=[] then s else adv s) else s
def needS (t:Bs) (s:St):St:=if see s=t then (if t=[] then s else adv s) else failS 2 s
def numS (lo hi:Int) (s:St):Int × St:=
 if numOK (see s)=true then (if lo≤numV (see s)∧numV (see s)≤hi then (numV (see s),adv s) else (0,failS 5 s)) else (0,failS 2 s)
def pointS (x y:Int) (s:St):(Int × Int) × St:=
 let a:=numS x 1073741824 s
 let b:=numS y 1073741824 (needS [44] a.2)
 ((a.1,b.1),b.2)
def nameS (s:St):Bs × St:=if isL ((see s).headD 0)=false then ([],failS 2 s) else if nameOK (see s)=false then ([],failS 6 s) else (see s,adv s)
mutual
def rReg:Nat→St→Reg × St
 | 0,s=>(kidsR 0 [],s)
 | f+1,s=>let a:=rItem f s
  if see a.2=wAnd∨see a.2=wOr then rJoin f (see a.2) [a.1] a.2 else a
def rJoin:Nat→Bs→List Reg→St→Reg × St
 | 0,_,_,s=>(kidsR 0 [],s)
 | f+1,op,acc,s=>if see s=op then (let a:=rItem f (adv s);rJoin f op (acc++[a.1]) a.2) else (kidsR (if op=wOr then 5 else 4) acc,s)
def rKids:Nat→St→List Reg × St
 | 0,s=>([],s)
 | f+1,s=>let s1:=needS [40] s
  if see s1=[41] then ([],adv s1) else (let a:=rReg f s1;rMore f [a.1] a.2)
def rMore:Nat→List Reg→St→List Reg × St
 | 0,_,s=>([],s)
 | f+1,acc,s=>if see s=[44] then (let a:=rReg f (adv s);rMore f (acc++[a.1]) a.2) else (acc,needS [41] s)
def rItem:Nat→St→Reg × St
 | 0,s=>(kidsR 0 [],s)
 | f+1,s=>
  if see s=[40] then (let a:=rReg f (adv s);(a.1,needS [41] a.2))
  else if see s=[119,104,111,108,101] then (kidsR 0 [],adv s)
  else if see s=[110,97,109,101,100] then (let a:=nameS (adv s);(.mk 1 a.1 0 0 0 0 0 0 [],a.2))
  else if see s=[97,116] then (let a:=pointS (-1073741824) (-1073741824) (adv s);(.mk 2 [] a.1.1 a.1.2 0 0 0 0 [],a.2))
  else if see s=[119,105,116,104,105,110] then
   (let a:=pointS (-1073741824) (-1073741824) (adv s);let b:=pointS a.1.1 a.1.2 (needS [116,111] a.2);(.mk 3 [] 0 0 a.1.1 a.1.2 b.1.1 b.1.2 [],b.2))
  else if see s=[97,108,108] then (let a:=rKids f (adv s);(kidsR 4 a.1,a.2))
  else if see s=[97,110,121] then (let a:=rKids f (adv s);(kidsR 5 a.1,a.2))
  else if see s=[110,111,116] then (let a:=rItem f (adv s);(kidsR 6 [a.1],a.2))
  else (kidsR 0 [],failS 2 s)
end
theorem ne_jo:¬ (([32]:Bs)=wAnd∨([32]:Bs)=wOr):=by decide
theorem see_bad {l:List Tok} {b:Nat × Int}:see (l,some b)=[32]:=by
 have h:some b=some b:=Eq.refl _
 cases h
 simp [see]
theorem rItem_bad (f:Nat) {l:List Tok} {b:Nat × Int}:(rItem f (l,some b)).2=(l,some b):=by
 cases f with
 | zero=>rfl
 | succ f=>
  rw [rItem,see_bad]
  simp [failS]
theorem rReg_bad (f:Nat) {l:List Tok} {b:Nat × Int}:(rReg f (l,some b)).2=(l,some b):=by
 cases f with
 | zero=>rfl
 | succ f=>
  rw [rReg]
  simp only [rItem_bad]
  rw [see_bad,if_neg ne_jo,rItem_bad]
theorem need_rel {t:Bs} (ht:t≠[]) (l:List Tok):(∃ l1,need t l=.ok () l1∧needS t (l,none)=(l1,none))∨∃ x,need t l=.bad x 2∧needS t (l,none)=(l,some (x,2)):=by
 unfold need needS
 have e:see (l,none)=hd l:=rfl
 rw [e]
 by_cases h:hd l=t
 ·rw [if_pos h,if_pos h,if_neg ht]
  exact .inl ⟨_,rfl,rfl⟩
 ·rw [if_neg h,if_neg h]
  exact .inr ⟨_,rfl,rfl⟩
def Two {α:Type} (p:Res α) (q:α × St):Prop:=(∃ a l,p=.ok a l∧q=(a,(l,none)))∨∃ x e,p=.bad x e∧q.2.2=some (x,e)
structure Twos (f:Nat):Prop where
 reg:∀ l,3 * l.length+2≤f→Good l→Two (pReg f l) (rReg f (l,none))
 join:∀ op acc l,op=wAnd∨op=wOr→3 * l.length+1≤f→Good l→Two (pJoin f op acc l) (rJoin f op acc (l,none))
 list:∀ l,3 * l.length+1≤f→Good l→Two (pList f l) (rKids f (l,none))
 more:∀ acc l,3 * l.length+1≤f→Good l→Two (pMore f acc l) (rMore f acc (l,none))
 item:∀ l,3 * l.length+1≤f→Good l→Two (pItem f l) (rItem f (l,none))
end Qy
