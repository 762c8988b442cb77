/-
  Queries, plain: tokens, and the parser on tokens. No program in it.
-/
import Derived.Lib.AtoiAll
namespace Qy
open Go
abbrev Bs:=List UInt8
structure Tok where
 text:Bs
 at_:Nat
inductive Reg where
 | mk (kind:Int) (name:Bs) (ax ay b0 b1 b2 b3:Int) (kids:List Reg)
def Reg.kind:Reg→Int | .mk k _ _ _ _ _ _ _ _=>k
def Reg.name:Reg→Bs | .mk _ n _ _ _ _ _ _ _=>n
def Reg.kids:Reg→List Reg | .mk _ _ _ _ _ _ _ _ l=>l
def isL (c:UInt8):Bool:=decide (97≤c.toNat)&&decide (c.toNat≤122)
def isD (c:UInt8):Bool:=decide (48≤c.toNat)&&decide (c.toNat≤57)
def isW (c:UInt8):Bool:=isL c||isD c||c==45
def more (c:UInt8):UInt8→Bool:=if isL c then isW else if isD c||c==45 then isD else fun _=>false
theorem drop_le (p:UInt8→Bool) (l:Bs):(l.dropWhile p).length≤l.length:=by
 induction l with
 | nil=>exact Nat.le_refl _
 | cons c l ih=>
  rw [List.dropWhile_cons]
  split
  ·exact Nat.le_succ_of_le ih
  ·exact Nat.le_refl _
def toks (s:Bs) (i:Nat):List Tok:=
 match s with
 | []=>[⟨[],i⟩]
 | c :: s=>if c=32 then toks s (i+1) else ⟨c :: s.takeWhile (more c),i⟩ :: toks (s.dropWhile (more c)) (i+1+(s.takeWhile (more c)).length)
termination_by s.length
decreasing_by
 ·simp
 ·simp only [List.length_cons]
  exact Nat.lt_succ_of_le (drop_le _ _)
inductive Res (α:Type) where
 | ok (a:α) (l:List Tok)
 | bad (at_:Nat) (e:Int)
def Res.on {α β:Type} (r:Res α) (f:α→List Tok→Res β):Res β:=match r with
 | .ok a l=>f a l
 | .bad x e=>.bad x e
def hd:List Tok→Bs
 | []=>[]
 | t :: _=>t.text
def hdAt:List Tok→Nat
 | []=>0
 | t :: _=>t.at_
def stp:List Tok→List Tok
 | _ :: u :: r=>u :: r
 | l=>l
def need (s:Bs) (l:List Tok):Res Unit:=if hd l=s then .ok () (stp l) else .bad (hdAt l) 2
def digs:Bs→Bs
 | 45 :: r=>r
 | t=>t
def numOK (t:Bs):Bool:=decide (1≤(digs t).length)&&decide ((digs t).length≤10)&&isD ((digs t).headD 0)&&!((digs t).headD 0==48&&!(t==[48]))
def digV (l:Bs):Nat:=l.foldl (fun a c=>a * 10+(c.toNat - 48)) 0
def numV (t:Bs):Int:=if t.headD 0=45 then -(digV (digs t):Int) else digV (digs t)
def pNum (lo hi:Int) (l:List Tok):Res Int:=
 if numOK (hd l)=true then (if lo≤numV (hd l)∧numV (hd l)≤hi then .ok (numV (hd l)) (stp l) else .bad (hdAt l) 5) else .bad (hdAt l) 2
def pPoint (lx ly:Int) (l:List Tok):Res (Int × Int):=
 (pNum lx 1073741824 l).on fun x l=>(need [44] l).on fun _ l=>(pNum ly 1073741824 l).on fun y l=>.ok (x,y) l
def nameOK (t:Bs):Bool:=decide (1≤t.length)&&decide (t.length≤16)&&isL (t.headD 0)&&t.all isW
def wAnd:Bs:=[97,110,100]
def wOr:Bs:=[111,114]
def kidsR (k:Int) (l:List Reg):Reg:=.mk k [] 0 0 0 0 0 0 l
mutual
def pReg:Nat→List Tok→Res Reg
 | 0,l=>.bad (hdAt l) 0
 | f+1,l=>(pItem f l).on fun r l=>if hd l=wAnd∨hd l=wOr then pJoin f (hd l) [r] l else .ok r l
def pJoin:Nat→Bs→List Reg→List Tok→Res Reg
 | 0,_,_,l=>.bad (hdAt l) 0
 | f+1,op,acc,l=>if hd l=op then (pItem f (stp l)).on fun r l=>pJoin f op (acc++[r]) l else .ok (kidsR (if op=wOr then 5 else 4) acc) l
def pList:Nat→List Tok→Res (List Reg)
 | 0,l=>.bad (hdAt l) 0
 | f+1,l=>(need [40] l).on fun _ l=>if hd l=[41] then .ok [] (stp l) else (pReg f l).on fun r l=>pMore f [r] l
def pMore:Nat→List Reg→List Tok→Res (List Reg)
 | 0,_,l=>.bad (hdAt l) 0
 | f+1,acc,l=>if hd l=[44] then (pReg f (stp l)).on fun r l=>pMore f (acc++[r]) l else (need [41] l).on fun _ l=>.ok acc l
def pItem:Nat→List Tok→Res Reg
 | 0,l=>.bad (hdAt l) 0
 | f+1,l=>
  if hd l=[119,104,111,108,101] then .ok (kidsR 0 []) (stp l)
  else if hd l=[110,97,109,101,100] then
   (if isL ((hd (stp l)).headD 0)=false then .bad (hdAt (stp l)) 2 else if nameOK (hd (stp l))=false then .bad (hdAt (stp l)) 6 else .ok (.mk 1 (hd (stp l)) 0 0 0 0 0 0 []) (stp (stp l)))
  else if hd l=[97,116] then (pPoint (-1073741824) (-1073741824) (stp l)).on fun p l=>.ok (.mk 2 [] p.1 p.2 0 0 0 0 []) l
  else if hd l=[119,105,116,104,105,110] then (pPoint (-1073741824) (-1073741824) (stp l)).on fun p l=>(need [116,111] l).on fun _ l=>(pPoint p.1 p.2 l).on fun q l=>.ok (.mk 3 [] 0 0 p.1 p.2 q.1 q.2 []) l
  else if hd l=[110,111,116] then (pItem f (stp l)).on fun r l=>.ok (kidsR 6 [r]) l
  else if hd l=[97,108,108] then (pList f (stp l)).on fun k l=>.ok (kidsR 4 k) l
  else if hd l=[97,110,121] then (pList f (stp l)).on fun k l=>.ok (kidsR 5 k) l
  else (need [40] l).on fun _ l=>(pReg f l).on fun r l=>(need [41] l).on fun _ l=>.ok r l
end
def pOff:Nat→List Int→List Tok→Res (List Int)
 | 0,_,l=>.bad (hdAt l) 0
 | f+1,acc,l=>(pNum 0 63 l).on fun n l1=>if n∈acc then .bad (hdAt l) 8 else if acc.length=8 then .bad (hdAt l) 4 else
  if hd l1=[44] then pOff f (acc++[n]) (stp l1) else .ok (acc++[n]) l1
def pView (f:Nat) (l:List Tok):Res (Int × List Int):=
 if hd l=[99,111,110,116,114,111,108] then .ok (2,[]) (stp l)
 else if hd l=[111,102,102,105,99,101] then (pNum 0 63 (stp l)).on fun n l=>.ok (0,[n]) l
 else (need [99,111,97,108,105,116,105,111,110] l).on fun _ l=>(pOff f [] l).on fun o l=>.ok (1,o) l
structure Qry where
 kind:Int
 reg:Reg
 vkind:Int
 offs:List Int
 day:Int
 scale:Int
def Qry.none:Qry:=⟨0,kidsR 0 [],0,[],0,0⟩
def pQuery (f:Nat) (l:List Tok):Res Qry:=
 (need [99,111,117,110,116] l).on fun _ l=>(pNum 0 255 l).on fun k l=>(need [111,102] l).on fun _ l=>(pReg f l).on fun r l=>(need [105,110] l).on fun _ l=>
 (pView f l).on fun v l=>(need [111,110] l).on fun _ l=>(pNum 0 73048 l).on fun d l=>(need [97,116] l).on fun _ l=>(pNum 0 23 l).on fun s l=>(need [] l).on fun _ l=>.ok ⟨k,r,v.1,v.2,d,s⟩ l
mutual
def nodes:Reg→Nat
 | .mk _ _ _ _ _ _ _ _ l=>nodesL l+1
def nodesL:List Reg→Nat
 | []=>0
 | r :: l=>nodes r+nodesL l
end
mutual
def nest:Reg→Nat
 | .mk _ _ _ _ _ _ _ _ l=>nestL l+1
def nestL:List Reg→Nat
 | []=>0
 | r :: l=>max (nest r) (nestL l)
end
def FU:Nat:=15010
def parse (s:Bs):Qry × Nat × Int:=
 if 4096<s.length then (Qry.none,4096,4) else
 match pQuery FU (toks s 0) with
 | .bad x e=>(Qry.none,x,e)
 | .ok q _=>if 256<nodes q.reg∨16<nest q.reg then (Qry.none,s.length,4) else (q,0,0)
end Qy
/-
 (second part)
-/
namespace Qy
theorem Res.on_ok {α β:Type} {r:Res α} {f:α→List Tok→Res β} {b:β} {l:List Tok} (h:r.on f=.ok b l):∃ a l1,r=.ok a l1∧f a l1=.ok b l:=by
 cases r with
 | ok a l1=>exact ⟨a,l1,rfl,h⟩
 | bad x e=>cases h
def Shape (t:Bs):Prop:=∀ c w,t=c :: w→(isD c=true∨c=45)→∀ d∈w,isD d=true
def Good (l:List Tok):Prop:=∃ pre n,l=pre++[⟨[],n⟩]∧∀ t∈pre,t.text≠[]∧Shape t.text
theorem Good.shaped {l:List Tok} (h:Good l):∀ t∈l,Shape t.text:=by
 obtain ⟨pre,n,rfl,h⟩:=h
 intro t ht
 rcases List.mem_append.1 ht with ht | ht
 ·exact (h t ht).2
 ·rw [List.mem_singleton.1 ht]
  intro c w e
  cases e
theorem Good.ne {l:List Tok} (h:Good l):l≠[]:=by
 obtain ⟨pre,n,rfl,_⟩:=h
 simp
theorem Good.pos {l:List Tok} (h:Good l):0<l.length:=List.length_pos_iff.2 h.ne
theorem Good.stp {l:List Tok} (h:Good l):Good (stp l):=by
 obtain ⟨pre,n,rfl,hp⟩:=h
 match pre,hp with
 | [],_=>exact ⟨[],n,rfl,by simp⟩
 | [t],_=>exact ⟨[],n,rfl,by simp⟩
 | t :: u :: r,hp=>exact ⟨u :: r,n,rfl,fun x hx=>hp x (List.mem_cons_of_mem _ hx)⟩
theorem stp_le (l:List Tok):(stp l).length≤l.length:=by
 match l with
 | []=>exact Nat.le_refl _
 | [_]=>exact Nat.le_refl _
 | _ :: u :: r=>show (u :: r).length≤_;simp
theorem Good.stp_lt {l:List Tok} (h:Good l) (hne:hd l≠[]):(Qy.stp l).length<l.length:=by
 obtain ⟨pre,n,rfl,hp⟩:=h
 match pre,hp with
 | [],_=>exact absurd rfl hne
 | [t],_=>simp [Qy.stp]
 | t :: u :: r,hp=>simp [Qy.stp]
def Less (l l':List Tok):Prop:=Good l'∧l'.length<l.length
def LeE (l l':List Tok):Prop:=Good l'∧l'.length≤l.length
theorem Less.le {l l':List Tok} (h:Less l l'):LeE l l':=⟨h.1,Nat.le_of_lt h.2⟩
theorem Less.trans {a b c:List Tok} (h:Less a b) (k:LeE b c):Less a c:=⟨k.1,Nat.lt_of_le_of_lt k.2 h.2⟩
theorem Less.trans' {a b c:List Tok} (h:LeE a b) (k:Less b c):Less a c:=⟨k.1,Nat.lt_of_lt_of_le k.2 h.2⟩
theorem LeE.trans {a b c:List Tok} (h:LeE a b) (k:LeE b c):LeE a c:=⟨k.1,Nat.le_trans k.2 h.2⟩
theorem need_ok {s:Bs} {l l':List Tok} {u:Unit} (hg:Good l) (hs:s≠[]) (h:need s l=.ok u l'):Less l l':=by
 unfold need at h
 split at h
 ·rename_i e
  injection h with _ h
  subst h
  exact ⟨hg.stp,hg.stp_lt (by rw [e];exact hs)⟩
 ·cases h
theorem need_le {s:Bs} {l l':List Tok} {u:Unit} (hg:Good l) (h:need s l=.ok u l'):LeE l l':=by
 unfold need at h
 split at h
 ·injection h with _ h
  subst h
  exact ⟨hg.stp,stp_le l⟩
 ·cases h
theorem numOK_ne {t:Bs} (h:numOK t=true):t≠[]:=by
 rintro rfl
 simp [numOK,digs] at h
theorem pNum_ok {lo hi n:Int} {l l':List Tok} (hg:Good l) (h:pNum lo hi l=.ok n l'):Less l l'∧lo≤n∧n≤hi:=by
 unfold pNum at h
 split at h
 ·rename_i e
  split at h
  ·rename_i k
   injection h with h1 h
   subst h
   subst h1
   exact ⟨⟨hg.stp,hg.stp_lt (numOK_ne e)⟩,k⟩
  ·cases h
 ·cases h
theorem pPoint_ok {lx ly:Int} {p:Int × Int} {l l':List Tok} (hg:Good l) (h:pPoint lx ly l=.ok p l'):Less l l'∧(lx≤p.1∧p.1≤1073741824)∧(ly≤p.2∧p.2≤1073741824):=by
 unfold pPoint at h
 obtain ⟨x,l1,h1,h⟩:=Res.on_ok h
 obtain ⟨u,l2,h2,h⟩:=Res.on_ok h
 obtain ⟨y,l3,h3,h⟩:=Res.on_ok h
 injection h with e1 e2
 subst e1
 subst e2
 obtain ⟨k1,b1⟩:=pNum_ok hg h1
 have k2:=need_ok k1.1 (by simp) h2
 obtain ⟨k3,b3⟩:=pNum_ok k2.1 h3
 exact ⟨k1.trans (k2.trans k3.le).le,b1,b3⟩
theorem or_ne:wOr≠[]:=by simp [wOr]
structure Eats (f:Nat):Prop where
 reg:∀ l r l',Good l→pReg f l=.ok r l'→Less l l'
 join:∀ op acc l r l',Good l→op≠[]→pJoin f op acc l=.ok r l'→LeE l l'
 list:∀ l r l',Good l→pList f l=.ok r l'→Less l l'
 more:∀ acc l r l',Good l→pMore f acc l=.ok r l'→Less l l'
 item:∀ l r l',Good l→pItem f l=.ok r l'→Less l l'
theorem eats:∀ f,Eats f:=by
 intro f
 induction f with
 | zero=>exact ⟨fun _ _ _ _ h=>by simp [pReg] at h,fun _ _ _ _ _ _ _ h=>by simp [pJoin] at h,fun _ _ _ _ h=>by simp [pList] at h,fun _ _ _ _ _ h=>by simp [pMore] at h,fun _ _ _ _ h=>by simp [pItem] at h⟩
 | succ f ih=>
  refine ⟨fun l r l' hg h=>?_,fun op acc l r l' hg ho h=>?_,fun l r l' hg h=>?_,fun acc l r l' hg h=>?_,fun l r l' hg h=>?_⟩
  ·rw [pReg] at h
   obtain ⟨a,l1,h1,h⟩:=Res.on_ok h
   have k1:=ih.item l a l1 hg h1
   split at h
   ·rename_i e
    exact k1.trans (ih.join _ _ _ _ _ k1.1 (by rcases e with e | e <;> rw [e] <;> simp [wAnd,wOr]) h)
   ·injection h with _ h
    subst h
    exact k1
  ·rw [pJoin] at h
   split at h
   ·rename_i e
    obtain ⟨a,l1,h1,h⟩:=Res.on_ok h
    have k0:LeE l (stp l):=⟨hg.stp,stp_le l⟩
    have k1:=ih.item _ _ _ k0.1 h1
    exact k0.trans (k1.le.trans (ih.join _ _ _ _ _ k1.1 ho h))
   ·injection h with _ h
    subst h
    exact ⟨hg,Nat.le_refl _⟩
  ·rw [pList] at h
   obtain ⟨a,l1,h1,h⟩:=Res.on_ok h
   have k1:=need_ok hg (by simp) h1
   split at h
   ·injection h with _ h
    subst h
    exact k1.trans ⟨k1.1.stp,stp_le l1⟩
   ·obtain ⟨b,l2,h2,h⟩:=Res.on_ok h
    have k2:=ih.reg _ _ _ k1.1 h2
    exact k1.trans (k2.trans (ih.more _ _ _ _ k2.1 h).le).le
  ·rw [pMore] at h
   split at h
   ·rename_i e
    obtain ⟨a,l1,h1,h⟩:=Res.on_ok h
    have k0:LeE l (stp l):=⟨hg.stp,stp_le l⟩
    have k1:=ih.reg _ _ _ k0.1 h1
    exact Less.trans' k0 (k1.trans (ih.more _ _ _ _ k1.1 h).le)
   ·obtain ⟨a,l1,h1,h⟩:=Res.on_ok h
    injection h with _ h
    subst h
    exact need_ok hg (by simp) h1
  ·rw [pItem] at h
   have ks:∀ {s:Bs},hd l=s→s≠[]→Less l (stp l):=fun e hs=>⟨hg.stp,hg.stp_lt (by rw [e];exact hs)⟩
   split at h
   ·rename_i e
    injection h with _ h
    subst h
    exact ks e (by simp)
   split at h
   ·rename_i e
    have k0:=ks e (by simp)
    split at h
    ·cases h
    split at h
    ·cases h
    ·injection h with _ h
     subst h
     exact k0.trans ⟨k0.1.stp,stp_le _⟩
   split at h
   ·rename_i e
    have k0:=ks e (by simp)
    obtain ⟨p,l1,h1,h⟩:=Res.on_ok h
    injection h with _ h
    subst h
    exact k0.trans (pPoint_ok k0.1 h1).1.le
   split at h
   ·rename_i e
    have k0:=ks e (by simp)
    obtain ⟨p,l1,h1,h⟩:=Res.on_ok h
    obtain ⟨u,l2,h2,h⟩:=Res.on_ok h
    obtain ⟨q,l3,h3,h⟩:=Res.on_ok h
    injection h with _ h
    subst h
    have k1:=(pPoint_ok k0.1 h1).1
    have k2:=need_ok k1.1 (by simp) h2
    exact k0.trans (k1.trans (k2.trans (pPoint_ok k2.1 h3).1.le).le).le
   split at h
   ·rename_i e
    have k0:=ks e (by simp)
    obtain ⟨p,l1,h1,h⟩:=Res.on_ok h
    injection h with _ h
    subst h
    exact k0.trans (ih.item _ _ _ k0.1 h1).le
   split at h
   ·rename_i e
    have k0:=ks e (by simp)
    obtain ⟨p,l1,h1,h⟩:=Res.on_ok h
    injection h with _ h
    subst h
    exact k0.trans (ih.list _ _ _ k0.1 h1).le
   split at h
   ·rename_i e
    have k0:=ks e (by simp)
    obtain ⟨p,l1,h1,h⟩:=Res.on_ok h
    injection h with _ h
    subst h
    exact k0.trans (ih.list _ _ _ k0.1 h1).le
   ·obtain ⟨u,l1,h1,h⟩:=Res.on_ok h
    obtain ⟨r2,l2,h2,h⟩:=Res.on_ok h
    obtain ⟨u3,l3,h3,h⟩:=Res.on_ok h
    injection h with _ h
    subst h
    have k1:=need_ok hg (by simp) h1
    have k2:=ih.reg _ _ _ k1.1 h2
    exact k1.trans (k2.trans (need_le k2.1 h3)).le
theorem pOff_ok:∀ (f:Nat) (acc:List Int) (l:List Tok) (o:List Int) (l':List Tok),Good l→pOff f acc l=.ok o l'→Less l l':=by
 intro f
 induction f with
 | zero=>intro acc l o l' _ h;simp [pOff] at h
 | succ f ih=>
  intro acc l o l' hg h
  rw [pOff] at h
  obtain ⟨n,l1,h1,h⟩:=Res.on_ok h
  have k1:=(pNum_ok hg h1).1
  split at h
  ·cases h
  split at h
  ·cases h
  split at h
  ·exact k1.trans (Less.trans' ⟨k1.1.stp,stp_le l1⟩ (ih _ _ _ _ k1.1.stp h)).le
  ·injection h with _ h
   subst h
   exact k1
theorem pView_ok {f:Nat} {v:Int × List Int} {l l':List Tok} (hg:Good l) (h:pView f l=.ok v l'):Less l l':=by
 unfold pView at h
 split at h
 ·rename_i e
  injection h with _ h
  subst h
  exact ⟨hg.stp,hg.stp_lt (by rw [e];simp)⟩
 split at h
 ·rename_i e
  obtain ⟨n,l1,h1,h⟩:=Res.on_ok h
  injection h with _ h
  subst h
  exact Less.trans' ⟨hg.stp,stp_le l⟩ (pNum_ok hg.stp h1).1
 ·obtain ⟨u,l1,h1,h⟩:=Res.on_ok h
  obtain ⟨o,l2,h2,h⟩:=Res.on_ok h
  injection h with _ h
  subst h
  have k1:=need_ok hg (by simp) h1
  exact k1.trans (pOff_ok _ _ _ _ _ k1.1 h2).le
end Qy
/-
 (second part)
-/
namespace Qy
open Go.Lib
theorem foldl_dig (l:List UInt8) (a:Nat):l.foldl (fun a c=>a * 10+(c.toNat - 48)) a=a * 10 ^ l.length+digV l:=by
 induction l generalizing a with
 | nil=>simp [digV]
 | cons c l ih=>
  simp only [List.foldl_cons,digV,List.length_cons]
  rw [ih,ih (0 * 10+(c.toNat - 48))]
  simp only [Nat.pow_succ,Nat.zero_mul,Nat.zero_add]
  grind
theorem digV_append (a b:List UInt8):digV (a++b)=digV a * 10 ^ b.length+digV b:=by
 conv=>lhs;unfold digV
 rw [List.foldl_append,foldl_dig]
 rfl
theorem digV_cons (c:UInt8) (a:List UInt8):digV (c :: a)=(c.toNat - 48) * 10 ^ a.length+digV a:=by
 have:=digV_append [c] a
 simpa [digV] using this
theorem digV_lt {l:List UInt8} (h:∀ c∈l,isD c=true):digV l<10 ^ l.length:=by
 induction l with
 | nil=>simp [digV]
 | cons c l ih=>
  rw [digV_cons,List.length_cons,Nat.pow_succ]
  have h1:=ih fun x hx=>h x (by simp [hx])
  have h2:=h c (by simp)
  simp [isD] at h2
  have h3:(c.toNat - 48) * 10 ^ l.length≤9 * 10 ^ l.length:=Nat.mul_le_mul_right _ (by omega)
  omega
theorem parse_digits:∀ (l:List UInt8) (acc:Nat),(∀ c∈l,isD c=true)→acc * 10 ^ l.length+10 ^ l.length≤10 ^ 18→parseUint10 acc l=.ok (acc * 10 ^ l.length+digV l)
 | [],acc,_,_=>by simp [parseUint10,digV]
 | c :: l,acc,h,hb=>by
  have hc:=h c (by simp)
  simp only [isD,Bool.and_eq_true,decide_eq_true_eq] at hc
  rw [List.length_cons,Nat.pow_succ] at hb
  have hp:0<10 ^ l.length:=Nat.pow_pos (by decide)
  have h1:(acc * 10+10) * 10 ^ l.length≤10 ^ 18:=by
   have:(acc * 10+10) * 10 ^ l.length=acc * (10 ^ l.length * 10)+10 ^ l.length * 10:=by grind
   omega
  have h2:(acc * 10+10) * 1≤10 ^ 18:=Nat.le_trans (Nat.mul_le_mul_left _ hp) h1
  rw [parseUint10,if_pos hc,if_neg (by omega),if_neg (by omega)]
  have h3:(acc * 10+(c.toNat - 48)) * 10 ^ l.length+10 ^ l.length≤10 ^ 18:=by
   have:(acc * 10+(c.toNat - 48)) * 10 ^ l.length+10 ^ l.length=(acc * 10+(c.toNat - 48)+1) * 10 ^ l.length:=by grind
   rw [this]
   exact Nat.le_trans (Nat.mul_le_mul_right _ (by omega)) h1
  rw [parse_digits l _ (fun x hx=>h x (by simp [hx])) h3,digV_cons,List.length_cons,Nat.pow_succ]
  congr 1
  grind
theorem takeWhile_all {p:UInt8→Bool} {l:Bs}:∀ c∈l.takeWhile p,p c=true:=by
 induction l with
 | nil=>intro c h;simp at h
 | cons x l ih=>
  intro c h
  rw [List.takeWhile_cons] at h
  split at h
  ·rename_i hx
   rcases List.mem_cons.1 h with rfl | h
   ·exact hx
   ·exact ih c h
  ·cases h
theorem isL_not {c:UInt8} (h:isD c=true∨c=45):isL c=false:=by
 rcases h with h | rfl
 ·simp only [isD,isL,Bool.and_eq_true,decide_eq_true_eq] at *
  simp only [Bool.and_eq_false_iff,decide_eq_false_iff_not]
  omega
 ·decide
theorem shape_tok (c:UInt8) (s:Bs):Shape (c :: s.takeWhile (more c)):=by
 intro d w h hd
 injection h with h1 h2
 subst h1
 subst h2
 intro x hx
 have:=takeWhile_all x hx
 unfold more at this
 rw [isL_not hd] at this
 have e:(isD c||c==45)=true:=by
  rcases hd with h | h
  ·rw [h];rfl
  ·rw [h];simp
 rw [if_neg (by simp),e] at this
 exact this
theorem toks_good:∀ (n:Nat) (s:Bs) (i:Nat),s.length≤n→Good (toks s i)∧∀ t∈toks s i,Shape t.text:=by
 intro n
 induction n with
 | zero=>
  intro s i h
  have:s=[]:=List.eq_nil_of_length_eq_zero (by omega)
  subst this
  rw [toks]
  refine ⟨⟨[],i,rfl,by simp⟩,fun t ht=>?_⟩
  rw [List.mem_singleton.1 ht]
  intro c w h
  cases h
 | succ n ih=>
  intro s i h
  match s,h with
  | [],_=>
   rw [toks]
   refine ⟨⟨[],i,rfl,by simp⟩,fun t ht=>?_⟩
   rw [List.mem_singleton.1 ht]
   intro c w h
   cases h
  | c :: s,h=>
   rw [toks]
   simp only [List.length_cons] at h
   split
   ·exact ih s (i+1) (by omega)
   ·have hd:=drop_le (more c) s
    obtain ⟨⟨pre,m,h1,h2⟩,h3⟩:=ih (s.dropWhile (more c)) (i+1+(s.takeWhile (more c)).length) (by omega)
    refine ⟨⟨_ :: pre,m,by rw [h1];rfl,fun t ht=>?_⟩,fun t ht=>?_⟩
    ·rcases List.mem_cons.1 ht with rfl | ht
     ·exact ⟨by simp,shape_tok c s⟩
     ·exact h2 t ht
    ·rcases List.mem_cons.1 ht with rfl | ht
     ·exact shape_tok c s
     ·exact h3 t ht
theorem numOK_parts {t:Bs} (h:numOK t=true):1≤(digs t).length∧(digs t).length≤10∧isD ((digs t).headD 0)=true:=by
 simp only [numOK,Bool.and_eq_true,decide_eq_true_eq] at h
 exact ⟨h.1.1.1,h.1.1.2,h.1.2⟩
theorem digs_len (t:Bs):t.length≤(digs t).length+1:=by
 unfold digs
 split
 ·simp
 ·omega
theorem digs_all {t:Bs} (hs:Shape t) (h:isD ((digs t).headD 0)=true):∀ c∈digs t,isD c=true:=by
 match t,hs,h with
 | [],_,_=>intro c hc;cases hc
 | x :: w,hs,h=>
  by_cases hx:x=45
  ·subst hx
   exact hs 45 w rfl (.inr rfl)
  ·have e:digs (x :: w)=x :: w:=by
    unfold digs
    split
    ·rename_i r e
     injection e with e
     exact absurd e hx
    ·rfl
   rw [e] at h ⊢
   intro c hc
   rcases List.mem_cons.1 hc with rfl | hc
   ·exact h
   ·exact hs x w rfl (.inl h) c hc
theorem atoi_tok {t:Bs} (hs:Shape t) (h:numOK t=true):atoiAll t=.ok (numV t)∧-10000000000<numV t∧numV t<10000000000:=by
 obtain ⟨h1,h2,h3⟩:=numOK_parts h
 have hd:=digs_all hs h3
 have hv:=digV_lt hd
 have hp:10 ^ (digs t).length≤10 ^ 10:=Nat.pow_le_pow_right (by decide) h2
 have hm:parseMag (digs t)=.ok (digV (digs t)):=by
  unfold parseMag
  rw [if_neg (fun e=>by rw [e] at h1;simp at h1)]
  have:=parse_digits (digs t) 0 hd (by omega)
  rwa [Nat.zero_mul,Nat.zero_add] at this
 match t,h3,hm,hv,hp with
 | [],h3,_,_,_=>simp [digs,isD] at h3
 | x :: w,h3,hm,hv,hp=>
  by_cases hx:x=45
  ·subst hx
   have e:digs (45 :: w)=w:=rfl
   rw [e] at hm hv hp
   have en:numV (45 :: w)=-(digV w:Int):=rfl
   rw [en]
   refine ⟨?_,by omega,by omega⟩
   unfold atoiAll
   simp only
   rw [if_pos (by decide),hm]
   simp only
   rw [if_neg (by simp),if_neg (by omega),if_pos (by decide)]
  ·have e:digs (x :: w)=x :: w:=by
    unfold digs
    split
    ·rename_i r e
     injection e with e
     exact absurd e hx
    ·rfl
   rw [e] at hm hv hp h3
   have en:numV (x :: w)=(digV (x :: w):Int):=by
    unfold numV
    rw [if_neg (by simpa using hx),e]
   rw [en]
   have hx3:isD x=true:=h3
   simp only [isD,Bool.and_eq_true,decide_eq_true_eq] at hx3
   refine ⟨?_,by omega,by omega⟩
   unfold atoiAll
   simp only
   rw [if_neg (by omega),hm]
   simp only
   rw [if_neg (by omega),if_neg (by omega),if_neg (by omega)]
end Qy
