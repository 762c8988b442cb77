/-
  Queries, plain: which regions are valid; what the parser gives is.
-/
import Derived.Test.YtmlpibdincfgbaaDoorK4
namespace Qy
def ptOK (x y:Int):Bool:=decide (-1073741824≤x)&&decide (x≤1073741824)&&decide (-1073741824≤y)&&decide (y≤1073741824)
def boxOK (a b c d:Int):Bool:=ptOK a b&&ptOK c d&&decide (a≤c)&&decide (b≤d)
mutual
def nodeE:Reg→Int
 | .mk k nm ax ay b0 b1 b2 b3 kids=>
  if k<0∨6<k∨(k<4∧kids≠[])∨(k=6∧kids.length≠1) then 1
  else if (k≠1∧nm≠[])∨(k≠2∧¬ (ax=0∧ay=0))∨(k≠3∧¬ (b0=0∧b1=0∧b2=0∧b3=0)) then 1
  else if k=1∧nameOK nm=false then 6
  else if ptOK ax ay=false∨boxOK b0 b1 b2 b3=false then 5
  else nodesE kids
def nodesE:List Reg→Int
 | []=>0
 | r :: l=>if nodeE r≠0 then nodeE r else nodesE l
end
def nodeF (k:Int) (nm:Bs) (ax ay b0 b1 b2 b3:Int) (m:Nat) (e:Int):Int:=
 if k<0∨6<k∨(k<4∧m≠0)∨(k=6∧m≠1) then 1
 else if (k≠1∧nm≠[])∨(k≠2∧¬ (ax=0∧ay=0))∨(k≠3∧¬ (b0=0∧b1=0∧b2=0∧b3=0)) then 1
 else if k=1∧nameOK nm=false then 6
 else if ptOK ax ay=false∨boxOK b0 b1 b2 b3=false then 5
 else e
theorem nodeE_eq (k:Int) (nm:Bs) (ax ay b0 b1 b2 b3:Int) (kids:List Reg):nodeE (.mk k nm ax ay b0 b1 b2 b3 kids)=nodeF k nm ax ay b0 b1 b2 b3 kids.length (nodesE kids):=by
 rw [nodeE,nodeF]
 have e:(kids≠[])=(kids.length≠0):=by rw [ne_eq,ne_eq,List.length_eq_zero_iff]
 simp only [e]
def regE (r:Reg):Int:=if 256<nodes r∨16<nest r then 4 else nodeE r
theorem nodesE_all {l:List Reg} (h:∀ r∈l,nodeE r=0):nodesE l=0:=by
 induction l with
 | nil=>rw [nodesE]
 | cons r l ih=>
  rw [nodesE,if_neg (by simp [h r (by simp)])]
  exact ih fun x hx=>h x (List.mem_cons_of_mem _ hx)
theorem nodesE_of {l:List Reg} (h:nodesE l=0):∀ r∈l,nodeE r=0:=by
 induction l with
 | nil=>intro r hr;cases hr
 | cons r l ih=>
  rw [nodesE] at h
  split at h
  ·rename_i k;exact absurd h k
  ·rename_i k
   intro x hx
   rcases List.mem_cons.1 hx with rfl | hx
   ·exact Classical.not_not.1 k
   ·exact ih h x hx
theorem nodesE_first {l:List Reg} {r:Reg} {e:Int}:∀ {i:Nat},l.take (i+1)=l.take i++[r]→(∀ x∈l.take i,nodeE x=0)→nodeE r=e→e≠0→nodesE l=e:=by
 induction l with
 | nil=>intro i h;simp at h
 | cons x l ih=>
  intro i h ha hr he
  cases i with
  | zero=>
   simp only [Nat.zero_add,List.take_succ_cons,List.take_zero,List.nil_append,List.cons.injEq,and_true] at h
   subst h
   rw [nodesE,if_pos (by rw [hr];exact he),hr]
  | succ i=>
   simp only [List.take_succ_cons,List.cons_append,List.cons.injEq,true_and] at h
   rw [nodesE,if_neg (by simp [ha x (by simp)])]
   exact ih h (fun y hy=>ha y (by simp [hy])) hr he
theorem nodesL_append (a b:List Reg):nodesL (a++b)=nodesL a+nodesL b:=by
 induction a with
 | nil=>simp [nodesL]
 | cons r a ih=>simp only [List.cons_append,nodesL,ih];omega
theorem nestL_append (a b:List Reg):nestL (a++b)=max (nestL a) (nestL b):=by
 induction a with
 | nil=>simp [nestL]
 | cons r a ih=>simp only [List.cons_append,nestL,ih];omega
theorem nodes_pos (r:Reg):1≤nodes r:=by
 obtain ⟨k,nm,ax,ay,b0,b1,b2,b3,kids⟩:=r
 rw [nodes]
 omega
theorem nodes_kid {k:Int} {nm:Bs} {ax ay b0 b1 b2 b3:Int} {kids:List Reg} {r:Reg} (h:r∈kids):nodes r<nodes (.mk k nm ax ay b0 b1 b2 b3 kids):=by
 rw [nodes]
 suffices nodes r≤nodesL kids by omega
 induction kids with
 | nil=>cases h
 | cons x l ih=>
  rw [nodesL]
  rcases List.mem_cons.1 h with rfl | h
  ·omega
  ·have:=ih h;omega
theorem nodesL_take_le (l:List Reg) (i:Nat):nodesL (l.take i)≤nodesL l:=by
 have:=nodesL_append (l.take i) (l.drop i)
 rw [List.take_append_drop] at this
 omega
theorem len_nodesL (l:List Reg):l.length≤nodesL l:=by
 induction l with
 | nil=>exact Nat.le_refl _
 | cons r l ih=>have:=nodes_pos r;rw [nodesL,List.length_cons];omega
theorem nest_nodes:∀ (n:Nat) (r:Reg),nodes r≤n→nest r≤nodes r:=by
 intro n
 induction n with
 | zero=>intro r h;have:=nodes_pos r;omega
 | succ n ih=>
  intro r h
  obtain ⟨k,nm,ax,ay,b0,b1,b2,b3,kids⟩:=r
  rw [nodes] at h ⊢
  rw [nest]
  have:∀ l:List Reg,nodesL l≤n→nestL l≤nodesL l:=by
   intro l
   induction l with
   | nil=>intro _;simp [nestL,nodesL]
   | cons x l ih2=>
    intro hl
    rw [nodesL] at hl ⊢
    rw [nestL]
    have h1:=ih x (by omega)
    have h2:=ih2 (by omega)
    have:=nodes_pos x
    omega
  have:=this kids (by omega)
  omega
theorem nodeE_kids {k:Int} {l:List Reg} (hk:k=4∨k=5) (h:∀ r∈l,nodeE r=0):nodeE (kidsR k l)=0:=by
 unfold kidsR
 have hd:ptOK 0 0=true:=by decide
 have hb:boxOK 0 0 0 0=true:=by decide
 rw [nodeE,if_neg (by rcases hk with rfl | rfl <;> simp),if_neg (by simp),if_neg (by rcases hk with rfl | rfl <;> simp),if_neg (by rw [hd,hb];simp),nodesE_all h]
theorem nodeE_not {r:Reg} (h:nodeE r=0):nodeE (kidsR 6 [r])=0:=by
 unfold kidsR
 have hd:ptOK 0 0=true:=by decide
 have hb:boxOK 0 0 0 0=true:=by decide
 rw [nodeE,if_neg (by simp),if_neg (by simp),if_neg (by simp),if_neg (by rw [hd,hb];simp)]
 exact nodesE_all (by simpa using h)
theorem nodeE_leaf {k:Int} {nm:Bs} {ax ay b0 b1 b2 b3:Int} (h0:0≤k∧k≤3) (h1:k≠1→nm=[]) (h2:k≠2→ax=0∧ay=0) (h3:k≠3→b0=0∧b1=0∧b2=0∧b3=0) (h4:k=1→nameOK nm=true) (h5:ptOK ax ay=true) (h6:boxOK b0 b1 b2 b3=true) :
 nodeE (.mk k nm ax ay b0 b1 b2 b3 [])=0:=by
 rw [nodeE,if_neg (by simp;omega),if_neg ?_,if_neg ?_,if_neg (by rw [h5,h6];simp),nodesE]
 ·rintro ⟨e,h⟩;rw [h4 e] at h;cases h
 ·rintro (⟨e,h⟩ | ⟨e,h⟩ | ⟨e,h⟩)
  ·exact h (h1 e)
  ·exact h (h2 e)
  ·exact h (h3 e)
def Fine (r:Reg) (l l':List Tok):Prop:=nodeE r=0∧nodes r+l'.length≤l.length
structure Fines (f:Nat):Prop where
 reg:∀ l r l',Good l→pReg f l=.ok r l'→Fine r l l'
 join:∀ op acc l r l',Good l→op≠[]→acc≠[]→hd l=op∨2≤acc.length→(∀ x∈acc,nodeE x=0)→pJoin f op acc l=.ok r l'→nodeE r=0∧nodes r+l'.length≤nodesL acc+l.length+(if 2≤acc.length then 1 else 0)
 list:∀ l r l',Good l→pList f l=.ok r l'→(∀ x∈r,nodeE x=0)∧nodesL r+l'.length+1≤l.length
 more:∀ acc l r l',Good l→(∀ x∈acc,nodeE x=0)→pMore f acc l=.ok r l'→(∀ x∈r,nodeE x=0)∧nodesL r+l'.length≤nodesL acc+l.length
 item:∀ l r l',Good l→pItem f l=.ok r l'→Fine r l l'
theorem all_snoc {acc:List Reg} {r:Reg} (ha:∀ x∈acc,nodeE x=0) (hr:nodeE r=0):∀ x∈acc++[r],nodeE x=0:=by
 intro x hx
 rcases List.mem_append.1 hx with hx | hx
 ·exact ha x hx
 ·rw [List.mem_singleton.1 hx];exact hr
theorem nodesL_one (r:Reg):nodesL [r]=nodes r:=by rw [nodesL,nodesL];rfl
theorem nodes_kidsR (k:Int) (l:List Reg):nodes (kidsR k l)=nodesL l+1:=by unfold kidsR;rw [nodes]
theorem pt_num {x y:Int} {p:Int × Int} {l l':List Tok} (hg:Good l) (hx:-1073741824≤x) (hy:-1073741824≤y) (h:pPoint x y l=.ok p l'):ptOK p.1 p.2=true∧x≤p.1∧y≤p.2:=by
 obtain ⟨_,⟨h1,h2⟩,h3,h4⟩:=pPoint_ok hg h
 refine ⟨?_,h1,h3⟩
 unfold ptOK
 simp only [Bool.and_eq_true,decide_eq_true_eq]
 omega
theorem fines:∀ f,Fines f:=by
 intro f
 induction f with
 | zero=>exact ⟨fun _ _ _ _ h=>by simp [pReg] at h,fun _ _ _ _ _ _ _ _ _ _ h=>by simp [pJoin] at h,fun _ _ _ _ h=>by simp [pList] at h,fun _ _ _ _ _ _ h=>by simp [pMore] at h,fun _ _ _ _ h=>by simp [pItem] at h⟩
 | succ f ih=>
  have EA:=eats f
  refine ⟨fun l r l' hg h=>?_,fun op acc l r l' hg ho ha h2 hac h=>?_,fun l r l' hg h=>?_,fun acc l r l' hg hac h=>?_,fun l r l' hg h=>?_⟩
  ·rw [pReg] at h
   obtain ⟨a,l1,h1,h⟩:=Res.on_ok h
   obtain ⟨k1,k2⟩:=ih.item l a l1 hg h1
   have g1:=(EA.item l a l1 hg h1).1
   split at h
   ·rename_i e
    obtain ⟨j1,j2⟩:=ih.join _ _ _ _ _ g1 (by rcases e with e | e <;> rw [e] <;> simp [wAnd,wOr]) (by simp) (.inl rfl) (by simpa using k1) h
    rw [if_neg (by simp),nodesL_one] at j2
    exact ⟨j1,by omega⟩
   ·injection h with h0 h9
    subst h0 h9
    exact ⟨k1,k2⟩
  ·rw [pJoin] at h
   split at h
   ·rename_i e
    obtain ⟨a,l1,h1,h⟩:=Res.on_ok h
    have hlt:=hg.stp_lt (by rw [e];exact ho)
    obtain ⟨k1,k2⟩:=ih.item _ a l1 hg.stp h1
    have g1:=(EA.item _ a l1 hg.stp h1).1
    have hap:2≤(acc++[a]).length:=by
     have:0<acc.length:=List.length_pos_iff.2 ha
     simp;omega
    obtain ⟨j1,j2⟩:=ih.join _ _ _ _ _ g1 ho (by simp) (.inr hap) (all_snoc hac k1) h
    rw [if_pos hap,nodesL_append,nodesL_one] at j2
    exact ⟨j1,by omega⟩
   ·rename_i e
    injection h with h0 h9
    subst h0 h9
    have h2':=h2.resolve_left e
    rw [if_pos h2',nodes_kidsR]
    exact ⟨nodeE_kids (by split <;> simp) hac,by omega⟩
  ·rw [pList] at h
   obtain ⟨a,l1,h1,h⟩:=Res.on_ok h
   have k1:=need_ok hg (by simp) h1
   split at h
   ·injection h with h0 h9
    subst h0 h9
    have:=stp_le l1
    have:=k1.2
    exact ⟨by simp,by simp only [nodesL];omega⟩
   ·obtain ⟨b,l2,h2,h⟩:=Res.on_ok h
    obtain ⟨j1,j2⟩:=ih.reg _ _ _ k1.1 h2
    have g2:=(EA.reg _ _ _ k1.1 h2).1
    obtain ⟨m1,m2⟩:=ih.more _ _ _ _ g2 (by simpa using j1) h
    rw [nodesL_one] at m2
    have:=k1.2
    exact ⟨m1,by omega⟩
  ·rw [pMore] at h
   split at h
   ·rename_i e
    obtain ⟨a,l1,h1,h⟩:=Res.on_ok h
    have hle:=stp_le l
    obtain ⟨k1,k2⟩:=ih.reg _ a l1 hg.stp h1
    have g1:=(EA.reg _ a l1 hg.stp h1).1
    obtain ⟨m1,m2⟩:=ih.more _ _ _ _ g1 (all_snoc hac k1) h
    rw [nodesL_append,nodesL_one] at m2
    exact ⟨m1,by omega⟩
   ·obtain ⟨a,l1,h1,h⟩:=Res.on_ok h
    injection h with h0 h9
    subst h0 h9
    have:=(need_ok hg (by simp) h1).2
    exact ⟨hac,by omega⟩
  ·rw [pItem] at h
   have z0:ptOK 0 0=true:=by decide
   have z1:boxOK 0 0 0 0=true:=by decide
   have ks:∀ {s:Bs},hd l=s→s≠[]→Less l (stp l):=fun e hs=>⟨hg.stp,hg.stp_lt (by rw [e];exact hs)⟩
   have one:∀ (k:Int) (nm:Bs) (ax ay b0 b1 b2 b3:Int),nodes (.mk k nm ax ay b0 b1 b2 b3 [])=1:=fun _ _ _ _ _ _ _ _=>by rw [nodes,nodesL]
   split at h
   ·rename_i e
    injection h with h0 h9
    subst h0 h9
    have:=(ks e (by simp)).2
    exact ⟨nodeE_leaf (k:=0) (nm:=[]) ⟨by omega,by omega⟩ (fun _=>rfl) (fun _=>⟨rfl,rfl⟩) (fun _=>⟨rfl,rfl,rfl,rfl⟩) (fun h=>by cases h) z0 z1,by rw [nodes_kidsR,nodesL];omega⟩
   split at h
   ·rename_i e
    have k0:=ks e (by simp)
    split at h
    ·cases h
    split at h
    ·cases h
    ·rename_i e2
     injection h with h0 h9
     subst h0 h9
     have:=k0.2
     have:=stp_le (stp l)
     exact ⟨nodeE_leaf ⟨by omega,by omega⟩ (fun h=>absurd rfl h) (fun _=>⟨rfl,rfl⟩) (fun _=>⟨rfl,rfl,rfl,rfl⟩) (fun _=>by simpa using e2) z0 z1,by rw [one];omega⟩
   split at h
   ·rename_i e
    have k0:=ks e (by simp)
    obtain ⟨p,l1,h1,h⟩:=Res.on_ok h
    injection h with h0 h9
    subst h0 h9
    have:=k0.2
    have:=(pPoint_ok k0.1 h1).1.2
    obtain ⟨p1,_⟩:=pt_num k0.1 (by omega) (by omega) h1
    exact ⟨nodeE_leaf ⟨by omega,by omega⟩ (fun _=>rfl) (fun h=>absurd rfl h) (fun _=>⟨rfl,rfl,rfl,rfl⟩) (fun h=>by cases h) p1 z1,by rw [one];omega⟩
   split at h
   ·rename_i e
    have k0:=ks e (by simp)
    obtain ⟨p,l1,h1,h⟩:=Res.on_ok h
    obtain ⟨u,l2,h2,h⟩:=Res.on_ok h
    obtain ⟨q,l3,h3,h⟩:=Res.on_ok h
    injection h with h0 h9
    subst h0 h9
    have:=k0.2
    have k1:=(pPoint_ok k0.1 h1).1
    have k2:=need_ok k1.1 (by simp) h2
    have k3:=(pPoint_ok k2.1 h3).1
    have:=k1.2
    have:=k2.2
    have:=k3.2
    obtain ⟨p1,p2,p3⟩:=pt_num k0.1 (by omega) (by omega) h1
    obtain ⟨q1,q2,q3⟩:=pt_num k2.1 (by omega) (by omega) h3
    refine ⟨nodeE_leaf ⟨by omega,by omega⟩ (fun _=>rfl) (fun _=>⟨rfl,rfl⟩) (fun h=>absurd rfl h) (fun h=>by cases h) z0 ?_,by rw [one];omega⟩
    unfold boxOK
    rw [p1,q1]
    simp [q2,q3]
   split at h
   ·rename_i e
    have k0:=ks e (by simp)
    obtain ⟨a,l1,h1,h⟩:=Res.on_ok h
    injection h with h0 h9
    subst h0 h9
    obtain ⟨j1,j2⟩:=ih.item _ _ _ k0.1 h1
    have:=k0.2
    exact ⟨nodeE_not j1,by rw [nodes_kidsR,nodesL_one];omega⟩
   split at h
   ·rename_i e
    have k0:=ks e (by simp)
    obtain ⟨a,l1,h1,h⟩:=Res.on_ok h
    injection h with h0 h9
    subst h0 h9
    obtain ⟨j1,j2⟩:=ih.list _ _ _ k0.1 h1
    have:=k0.2
    exact ⟨nodeE_kids (.inl rfl) j1,by rw [nodes_kidsR];omega⟩
   split at h
   ·rename_i e
    have k0:=ks e (by simp)
    obtain ⟨a,l1,h1,h⟩:=Res.on_ok h
    injection h with h0 h9
    subst h0 h9
    obtain ⟨j1,j2⟩:=ih.list _ _ _ k0.1 h1
    have:=k0.2
    exact ⟨nodeE_kids (.inr rfl) j1,by rw [nodes_kidsR];omega⟩
   ·obtain ⟨u,l1,h1,h⟩:=Res.on_ok h
    obtain ⟨r2,l2,h2,h⟩:=Res.on_ok h
    obtain ⟨u3,l3,h3,h⟩:=Res.on_ok h
    injection h with h0 h9
    subst h0 h9
    have k1:=need_ok hg (by simp) h1
    obtain ⟨j1,j2⟩:=ih.reg _ _ _ k1.1 h2
    have g2:=(EA.reg _ _ _ k1.1 h2).1
    have:=k1.2
    have:=(need_le g2 h3).2
    exact ⟨j1,by omega⟩
end Qy
