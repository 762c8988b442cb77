/-
  Queries, plain: the simple form of a region: it is valid, its own simple form, not greater, and means the same.
  Chapter 38's program: equal regions; rows of regions are searched.
  Chapter 38's program: a region is added to a row, unless it is there (a closure of simple).
  Chapter 38's program: the closure of simple that adds a region.
  Chapter 38's program: the simple form of a region.
  Chapter 38's program: Simple.
-/
import Derived.Test.YtmlpibdincfgbaaDoorL34
import Derived.Test.YtmlpibdincfgbaaDoorL32
import Derived.Test.YtmlpibdincfgbaaDoorK18
import Derived.Test.YtmlpibdincfgbaaDoorRA
import Derived.Test.YtmlpibdincfgbaaDoorK21
namespace Qy
def wholeR:Reg:=kidsR 0 []
def nothingR:Reg:=kidsR 5 []
def nothingB (r:Reg):Bool:=decide (r.kind=5)&&decide (r.kids.length=0)
def wholeB (r:Reg):Bool:=decide (r.kind=0)
def addP (K:Int) (acc:List Reg) (k:Reg):List Reg:=if (acc.any fun x=>sameR x k)||(decide (K≠5)&&wholeB k) then acc else acc++[k]
def flat1 (K:Int) (k:Reg):List Reg:=if k.kind=K then k.kids else [k]
def flatP (K:Int) (l:List Reg):List Reg:=l.flatMap (flat1 K)
def fin (K:Int) (l:List Reg):Reg:=
 if K=4∧l.any nothingB=true then nothingR
 else if (K=5∧l.any wholeB=true)∨(K=4∧l.length=0) then wholeR
 else if l.length=1 then l.headD wholeR
 else kidsR K l
def notP (k:Reg):Reg:=if k.kind=6 then k.kids.headD wholeR else if k.kind=0 then nothingR else if nothingB k=true then wholeR else kidsR 6 [k]
mutual
def smp:Reg→Reg
 | .mk k nm ax ay b0 b1 b2 b3 kids=>
  if k<4 then .mk k nm ax ay b0 b1 b2 b3 kids
  else if k=6 then notP ((smps kids).headD wholeR)
  else fin k ((flatP k (smps kids)).foldl (addP k) [])
def smps:List Reg→List Reg
 | []=>[]
 | r :: l=>smp r :: smps l
end
theorem smps_map (l:List Reg):smps l=l.map smp:=by
 induction l with
 | nil=>rw [smps];rfl
 | cons r l ih=>rw [smps,ih];rfl
mutual
def mean (f:Reg→Bool):Reg→Bool
 | .mk k nm ax ay b0 b1 b2 b3 kids=>
  if k=0 then true else if k=6 then !((means f kids).headD true) else if k=4 then (means f kids).all id else if k=5 then (means f kids).any id
  else f (.mk k nm ax ay b0 b1 b2 b3 kids)
def means (f:Reg→Bool):List Reg→List Bool
 | []=>[]
 | r :: l=>mean f r :: means f l
end
theorem means_map (f:Reg→Bool) (l:List Reg):means f l=l.map (mean f):=by
 induction l with
 | nil=>rw [means];rfl
 | cons r l ih=>rw [means,ih];rfl
theorem mean_whole (f:Reg→Bool):mean f wholeR=true:=by rw [wholeR,kidsR,mean,if_pos rfl]
theorem mean_nothing (f:Reg→Bool):mean f nothingR=false:=by
 rw [nothingR,kidsR,mean,if_neg (by decide),if_neg (by decide),if_neg (by decide),if_pos rfl,means]
 rfl
theorem mean_kids (f:Reg→Bool) (k:Int) (l:List Reg) (hk:k=4∨k=5):mean f (kidsR k l)=if k=4 then l.all (mean f) else l.any (mean f):=by
 rw [kidsR,mean,means_map]
 rcases hk with rfl | rfl
 ·simp [List.all_map]
 ·simp [List.any_map]
theorem node_cases {R:Reg} (h:nodeE R=0):(0≤R.kind∧R.kind<4∧R.kids=[])∨(∃ x,R=kidsR 6 [x]∧nodeE x=0)∨((R.kind=4∨R.kind=5)∧R=kidsR R.kind R.kids∧∀ x∈R.kids,nodeE x=0):=by
 obtain ⟨k,nm,ax,ay,b0,b1,b2,b3,kids⟩:=R
 rw [nodeE] at h
 split at h
 ·cases h
 rename_i h1
 split at h
 ·cases h
 rename_i h2
 split at h
 ·cases h
 split at h
 ·cases h
 have hk:=nodesE_of h
 simp only [not_or] at h1 h2
 obtain ⟨h11,h12,h13,h14⟩:=h1
 obtain ⟨h21,h22,h23⟩:=h2
 simp only [Reg.kind,Reg.kids]
 by_cases h4:k<4
 ·exact .inl ⟨by omega,h4,Classical.byContradiction fun e=>h13 ⟨h4,e⟩⟩
 have e1:nm=[]:=Classical.byContradiction fun e=>h21 ⟨by omega,e⟩
 have e2:ax=0∧ay=0:=Classical.byContradiction fun e=>h22 ⟨by omega,e⟩
 have e3:b0=0∧b1=0∧b2=0∧b3=0:=Classical.byContradiction fun e=>h23 ⟨by omega,e⟩
 obtain ⟨rfl,rfl⟩:=e2
 obtain ⟨rfl,rfl,rfl,rfl⟩:=e3
 subst e1
 by_cases h6:k=6
 ·subst h6
  have hl:kids.length=1:=Classical.byContradiction fun e=>h14 ⟨rfl,e⟩
  match kids,hl,hk with
  | [x],_,hk=>exact .inr (.inl ⟨x,rfl,hk x (by simp)⟩)
 ·exact .inr (.inr ⟨by omega,rfl,hk⟩)
theorem whole_of {R:Reg} (h:nodeE R=0) (hk:R.kind=0):R=wholeR:=by
 obtain ⟨k,nm,ax,ay,b0,b1,b2,b3,kids⟩:=R
 simp only [Reg.kind] at hk
 subst hk
 rw [nodeE] at h
 split at h
 ·cases h
 rename_i h1
 split at h
 ·cases h
 rename_i h2
 simp only [not_or] at h1 h2
 obtain ⟨h11,h12,h13,h14⟩:=h1
 obtain ⟨h21,h22,h23⟩:=h2
 have e0:kids=[]:=Classical.byContradiction fun e=>h13 ⟨by omega,e⟩
 have e1:nm=[]:=Classical.byContradiction fun e=>h21 ⟨by omega,e⟩
 have e2:ax=0∧ay=0:=Classical.byContradiction fun e=>h22 ⟨by omega,e⟩
 have e3:b0=0∧b1=0∧b2=0∧b3=0:=Classical.byContradiction fun e=>h23 ⟨by omega,e⟩
 obtain ⟨rfl,rfl⟩:=e2
 obtain ⟨rfl,rfl,rfl,rfl⟩:=e3
 subst e0 e1
 rfl
theorem nodeE_whole:nodeE wholeR=0:=by decide +kernel
theorem nodeE_nothing:nodeE nothingR=0:=by decide +kernel
theorem nothing_of {R:Reg} (h:nodeE R=0) (hb:nothingB R=true):R=nothingR:=by
 unfold nothingB at hb
 simp only [Bool.and_eq_true,decide_eq_true_eq] at hb
 rcases node_cases h with h1 | ⟨x,rfl,_⟩ | ⟨_,e,_⟩
 ·omega
 ·simp [kidsR,Reg.kind] at hb
 ·rw [e,hb.1,List.eq_nil_of_length_eq_zero hb.2]
  rfl
theorem smp_leaf {R:Reg} (h:R.kind<4):smp R=R:=by
 obtain ⟨k,nm,ax,ay,b0,b1,b2,b3,kids⟩:=R
 simp only [Reg.kind] at h
 rw [smp,if_pos h]
theorem smp_not (x:Reg):smp (kidsR 6 [x])=notP (smp x):=by
 rw [kidsR,smp,if_neg (by decide),if_pos rfl,smps]
 rfl
theorem smp_kids (k:Int) (l:List Reg) (hk:k=4∨k=5):smp (kidsR k l)=fin k ((flatP k (l.map smp)).foldl (addP k) []):=by
 rw [kidsR,smp,if_neg (by omega),if_neg (by omega),smps_map]
theorem nodes_kids (k:Int) (l:List Reg):nodes (kidsR k l)=nodesL l+1:=by rw [kidsR,nodes]
theorem nest_kids (k:Int) (l:List Reg):nest (kidsR k l)=nestL l+1:=by rw [kidsR,nest]
theorem nestL_le {l:List Reg} {n:Nat}:nestL l≤n↔∀ x∈l,nest x≤n:=by
 induction l with
 | nil=>rw [nestL];simp
 | cons r l ih=>rw [nestL];simp only [List.mem_cons,forall_eq_or_imp,← ih];omega
theorem nodes_of_kids (R:Reg):nodes R=nodesL R.kids+1:=by
 obtain ⟨k,nm,ax,ay,b0,b1,b2,b3,kids⟩:=R
 rw [nodes];rfl
theorem nest_of_kids (R:Reg):nest R=nestL R.kids+1:=by
 obtain ⟨k,nm,ax,ay,b0,b1,b2,b3,kids⟩:=R
 rw [nest];rfl
theorem sub_nodesL {l m:List Reg} (h:l.Sublist m):nodesL l≤nodesL m:=by
 induction h with
 | slnil=>exact Nat.le_refl _
 | cons a _ ih=>rw [nodesL];omega
 | cons_cons a _ ih=>rw [nodesL,nodesL];omega
theorem add_sub (K:Int):∀ (l acc:List Reg),(l.foldl (addP K) acc).Sublist (acc++l):=by
 intro l
 induction l with
 | nil=>intro acc;simp
 | cons k l ih=>
  intro acc
  rw [List.foldl_cons]
  refine (ih _).trans ?_
  unfold addP
  split
  ·exact List.Sublist.append_left (List.sublist_cons_self k l) acc
  ·rw [List.append_assoc]
   exact List.Sublist.refl _
theorem add_mem {K:Int} {l:List Reg} {x:Reg} (h:x∈l.foldl (addP K) []):x∈l:=by
 have:=(add_sub K l []).subset h
 simpa using this
instance:DecidableEq Reg:=fun a b=>decidable_of_iff (sameR a b=true) (sameR_iff a b)
theorem any_same (acc:List Reg) (k:Reg):(acc.any fun x=>sameR x k)=decide (k∈acc):=by
 by_cases h:k∈acc
 ·rw [decide_eq_true h,List.any_eq_true]
  exact ⟨k,h,sameR_self k⟩
 ·rw [decide_eq_false h,List.any_eq_false]
  intro x hx e
  rw [sameR_eq x k e] at hx
  exact h hx
theorem add_nodup (K:Int):∀ (l acc:List Reg),acc.Nodup→(l.foldl (addP K) acc).Nodup:=by
 intro l
 induction l with
 | nil=>intro acc h;exact h
 | cons k l ih=>
  intro acc h
  rw [List.foldl_cons]
  refine ih _ ?_
  unfold addP
  rw [any_same]
  split
  ·exact h
  ·rename_i h2
   simp only [Bool.or_eq_true,decide_eq_true_eq,not_or] at h2
   refine List.nodup_append.2 ⟨h,by simp,fun x hx y hy e=>?_⟩
   simp only [List.mem_singleton] at hy
   subst hy
   subst e
   exact h2.1 hx
theorem add_nowhole {K:Int} (hK:K≠5):∀ (l acc:List Reg),(∀ x∈acc,x.kind≠0)→∀ x∈l.foldl (addP K) acc,x.kind≠0:=by
 intro l
 induction l with
 | nil=>intro acc h;exact h
 | cons k l ih=>
  intro acc h
  rw [List.foldl_cons]
  refine ih _ ?_
  unfold addP
  split
  ·exact h
  ·rename_i h2
   simp only [Bool.or_eq_true,not_or,hK,ne_eq,not_false_eq_true,decide_true,Bool.true_and,wholeB,decide_eq_true_eq] at h2
   intro x hx
   rcases List.mem_append.1 hx with hx | hx
   ·exact h x hx
   ·simp only [List.mem_singleton] at hx
    subst hx
    exact h2.2
theorem add_any {K:Int} {p:Reg→Bool} (hp:∀ x,p x=true→K≠5→x.kind≠0):∀ (l acc:List Reg),(l.foldl (addP K) acc).any p=(acc.any p||l.any p):=by
 intro l
 induction l with
 | nil=>intro acc;simp
 | cons k l ih=>
  intro acc
  rw [List.foldl_cons,ih,List.any_cons,← Bool.or_assoc]
  congr 1
  unfold addP
  rw [any_same]
  split
  ·rename_i h
   cases hk:p k
   ·simp
   ·rw [Bool.or_true]
    simp only [Bool.or_eq_true,decide_eq_true_eq,Bool.and_eq_true,wholeB] at h
    rcases h with h | h
    ·exact List.any_eq_true.2 ⟨k,h,hk⟩
    ·exact absurd h.2 (hp k hk h.1)
  ·simp
theorem add_self {K:Int}:∀ (l acc:List Reg),(acc++l).Nodup→(K≠5→∀ x∈l,x.kind≠0)→l.foldl (addP K) acc=acc++l:=by
 intro l
 induction l with
 | nil=>intro acc _ _;simp
 | cons k l ih=>
  intro acc h hw
  have hna:k ∉ acc:=fun hm=>by
   obtain ⟨_,_,h3⟩:=List.nodup_append.1 h
   exact h3 k hm k (by simp) rfl
  have hb:((acc.any fun x=>sameR x k)||(decide (K≠5)&&wholeB k))=false:=by
   rw [any_same,decide_eq_false hna,Bool.false_or]
   by_cases h5:K=5
   ·simp [h5]
   ·simp [h5,wholeB,hw h5 k (by simp)]
  rw [List.foldl_cons]
  have e:addP K acc k=acc++[k]:=by unfold addP;rw [hb];rfl
  rw [e,ih (acc++[k]) (by rw [List.append_assoc];exact h) (fun h5 x hx=>hw h5 x (List.mem_cons_of_mem _ hx)),List.append_assoc]
  rfl
mutual
def NF:Reg→Prop
 | .mk k _ _ _ _ _ _ _ kids=>(k=6→∀ x∈kids,x.kind≠6∧x.kind≠0∧nothingB x=false)∧(k=4∨k=5→kids.length≠1∧kids.Nodup∧(∀ x∈kids,x.kind≠k∧x.kind≠0)∧(k=4→kids≠[]∧∀ x∈kids,nothingB x=false))∧NFs kids
def NFs:List Reg→Prop
 | []=>True
 | r :: l=>NF r∧NFs l
end
theorem nfs_all {l:List Reg}:NFs l↔∀ x∈l,NF x:=by
 induction l with
 | nil=>rw [NFs];simp
 | cons r l ih=>rw [NFs,ih];simp
theorem nf_kids {R:Reg} (h:NF R):∀ x∈R.kids,NF x:=by
 obtain ⟨k,nm,ax,ay,b0,b1,b2,b3,kids⟩:=R
 rw [NF] at h
 exact nfs_all.1 h.2.2
theorem nf_op {k:Int} {l:List Reg} (hk:k=4∨k=5) (h:NF (kidsR k l)):l.length≠1∧l.Nodup∧(∀ x∈l,x.kind≠k∧x.kind≠0)∧(k=4→l≠[]∧∀ x∈l,nothingB x=false):=by
 rw [kidsR,NF] at h
 exact h.2.1 hk
theorem nf_mk {k:Int} {l:List Reg} (hk:k=4∨k=5) (h:l.length≠1∧l.Nodup∧(∀ x∈l,x.kind≠k∧x.kind≠0)∧(k=4→l≠[]∧∀ x∈l,nothingB x=false)) (hl:∀ x∈l,NF x):NF (kidsR k l):=by
 rw [kidsR,NF]
 exact ⟨fun e=>by omega,fun _=>h,nfs_all.2 hl⟩
theorem nf_whole:NF wholeR:=by
 rw [wholeR,kidsR,NF]
 exact ⟨fun e=>by omega,fun e=>by omega,by rw [NFs];trivial⟩
theorem nf_nothing:NF nothingR:=nf_mk (.inr rfl) ⟨by simp,by simp,by simp,fun e=>by omega⟩ (by simp)
theorem nf_not {x:Reg} (h1:x.kind≠6) (h2:x.kind≠0) (h3:nothingB x=false) (h:NF x):NF (kidsR 6 [x]):=by
 rw [kidsR,NF]
 refine ⟨fun _ y hy=>?_,fun e=>by omega,nfs_all.2 fun y hy=>?_⟩
 ·simp only [List.mem_singleton] at hy
  subst hy
  exact ⟨h1,h2,h3⟩
 ·simp only [List.mem_singleton] at hy
  subst hy
  exact h
theorem not_good {x:Reg} (h:NF x) (hv:nodeE x=0):NF (notP x)∧nodeE (notP x)=0∧nodes (notP x)≤nodes x+1∧nest (notP x)≤nest x+1∧∀ f,mean f (notP x)=!(mean f x):=by
 unfold notP
 split
 ·rename_i h6
  rcases node_cases hv with h1 | ⟨y,rfl,hy⟩ | ⟨h1,_⟩
  ·omega
  ·refine ⟨nf_kids h y (by simp [kidsR,Reg.kids]),hy,?_,?_,fun f=>?_⟩
   ·show nodes y≤_
    rw [nodes_kids,nodesL_one];omega
   ·show nest y≤_
    rw [nest_kids,nestL,nestL];omega
   ·show mean f y=_
    rw [kidsR,mean,if_neg (by decide),if_pos rfl,means]
    simp
  ·omega
 split
 ·rename_i h0
  obtain rfl:=whole_of hv h0
  refine ⟨nf_nothing,nodeE_nothing,?_,?_,fun f=>by rw [mean_nothing,mean_whole];rfl⟩
  ·decide +kernel
  ·decide +kernel
 split
 ·rename_i hb
  obtain rfl:=nothing_of hv hb
  refine ⟨nf_whole,nodeE_whole,?_,?_,fun f=>by rw [mean_nothing,mean_whole];rfl⟩
  ·decide +kernel
  ·decide +kernel
 ·rename_i h6 h0 hb
  refine ⟨nf_not h6 h0 (by simpa using hb) h,nodeE_not hv,?_,?_,fun f=>?_⟩
  ·rw [nodes_kids,nodesL_one];omega
  ·rw [nest_kids,nestL,nestL];omega
  ·rw [kidsR,mean,if_neg (by decide),if_pos rfl,means]
   rfl
theorem flat_mem {k:Int} {l:List Reg} {x:Reg} (h:x∈flatP k l):∃ y∈l,(y.kind=k∧x∈y.kids)∨(y.kind≠k∧x=y):=by
 unfold flatP at h
 obtain ⟨y,hy,hx⟩:=List.mem_flatMap.1 h
 refine ⟨y,hy,?_⟩
 unfold flat1 at hx
 split at hx
 ·rename_i e;exact .inl ⟨e,hx⟩
 ·rename_i e;exact .inr ⟨e,by simpa using hx⟩
theorem flat_nodes (k:Int) (l:List Reg):nodesL (flatP k l)≤nodesL l:=by
 induction l with
 | nil=>exact Nat.le_refl _
 | cons r l ih=>
  show nodesL (flat1 k r++flatP k l)≤_
  rw [nodesL_append,nodesL]
  have:nodesL (flat1 k r)≤nodes r:=by
   unfold flat1
   split
   ·rw [nodes_of_kids];omega
   ·rw [nodesL_one];exact Nat.le_refl _
  omega
theorem flat_nest (k:Int) (l:List Reg):nestL (flatP k l)≤nestL l:=by
 rw [nestL_le]
 intro x hx
 obtain ⟨y,hy,h | h⟩:=flat_mem hx
 ·have h1:=nestL_le.1 (Nat.le_refl _) y hy
  have h2:=nestL_le.1 (Nat.le_refl _) x h.2
  rw [nest_of_kids] at h1
  omega
 ·rw [h.2]
  exact nestL_le.1 (Nat.le_refl _) y hy
theorem fin_good {k:Int} (hk:k=4∨k=5) {l:List Reg} (hn:l.Nodup) (h4:k≠5→∀ x∈l,x.kind≠0) (hx:∀ x∈l,NF x∧nodeE x=0∧x.kind≠k) :
 NF (fin k l)∧nodeE (fin k l)=0∧nodes (fin k l)≤nodesL l+1∧nest (fin k l)≤nestL l+1∧∀ f,mean f (fin k l)=if k=4 then l.all (mean f) else l.any (mean f):=by
 have w1:nodes wholeR=1:=by decide +kernel
 have w2:nest wholeR=1:=by decide +kernel
 have w3:nodes nothingR=1:=by decide +kernel
 have w4:nest nothingR=1:=by decide +kernel
 unfold fin
 split
 ·rename_i h
  refine ⟨nf_nothing,nodeE_nothing,by omega,by omega,fun f=>?_⟩
  rw [if_pos h.1,mean_nothing]
  obtain ⟨x,hm,hb⟩:=List.any_eq_true.1 h.2
  obtain rfl:=nothing_of (hx x hm).2.1 hb
  symm
  rw [List.all_eq_false]
  exact ⟨_,hm,by rw [mean_nothing];simp⟩
 rename_i hno
 split
 ·rename_i h
  refine ⟨nf_whole,nodeE_whole,by omega,by omega,fun f=>?_⟩
  rw [mean_whole]
  rcases h with h | h
  ·rw [if_neg (by omega)]
   obtain ⟨x,hm,hb⟩:=List.any_eq_true.1 h.2
   obtain rfl:=whole_of (hx x hm).2.1 (by simpa [wholeB] using hb)
   symm
   rw [List.any_eq_true]
   exact ⟨_,hm,mean_whole f⟩
  ·rw [if_pos h.1,List.eq_nil_of_length_eq_zero h.2]
   rfl
 rename_i hno2
 split
 ·rename_i h1
  match l,h1,hx with
  | [x],_,hx=>
   obtain ⟨a1,a2,_⟩:=hx x (by simp)
   refine ⟨a1,a2,?_,?_,fun f=>?_⟩
   ·show nodes x≤_
    rw [nodesL_one];omega
   ·show nest x≤_
    rw [nestL];omega
   ·show mean f x=_
    rcases hk with rfl | rfl
    ·simp
    ·simp
 ·rename_i h1
  refine ⟨nf_mk hk ⟨h1,hn,fun x hm=>⟨(hx x hm).2.2,?_⟩,fun e=>⟨fun e2=>?_,fun x hm=>?_⟩⟩ fun x hm=>(hx x hm).1,nodeE_kids hk fun x hm=>(hx x hm).2.1,by rw [nodes_kids];exact Nat.le_refl _,by rw [nest_kids];exact Nat.le_refl _,fun f=>mean_kids f k l hk⟩
  ·by_cases h5:k=5
   ·intro e
    exact hno2 (.inl ⟨h5,List.any_eq_true.2 ⟨x,hm,by simp [wholeB,e]⟩⟩)
   ·exact h4 h5 x hm
  ·exact hno2 (.inr ⟨e,by rw [e2];rfl⟩)
  ·cases hb:nothingB x
   ·rfl
   ·exact absurd ⟨e,List.any_eq_true.2 ⟨x,hm,hb⟩⟩ hno
theorem flat_all (f:Reg→Bool) (l:List Reg) (hv:∀ x∈l,nodeE x=0):(flatP 4 l).all (mean f)=l.all (mean f):=by
 induction l with
 | nil=>rfl
 | cons r l ih=>
  show (flat1 4 r++flatP 4 l).all (mean f)=_
  rw [List.all_append,ih fun x hx=>hv x (List.mem_cons_of_mem _ hx),List.all_cons]
  congr 1
  unfold flat1
  split
  ·rename_i e
   rcases node_cases (hv r (by simp)) with h1 | ⟨y,rfl,_⟩ | ⟨_,e2,_⟩
   ·omega
   ·simp [kidsR,Reg.kind] at e
   ·rw [e] at e2
    conv=>rhs;rw [e2]
    rw [mean_kids f 4 _ (.inl rfl),if_pos rfl]
  ·simp
theorem flat_any (f:Reg→Bool) (l:List Reg) (hv:∀ x∈l,nodeE x=0):(flatP 5 l).any (mean f)=l.any (mean f):=by
 induction l with
 | nil=>rfl
 | cons r l ih=>
  show (flat1 5 r++flatP 5 l).any (mean f)=_
  rw [List.any_append,ih fun x hx=>hv x (List.mem_cons_of_mem _ hx),List.any_cons]
  congr 1
  unfold flat1
  split
  ·rename_i e
   rcases node_cases (hv r (by simp)) with h1 | ⟨y,rfl,_⟩ | ⟨_,e2,_⟩
   ·omega
   ·simp [kidsR,Reg.kind] at e
   ·rw [e] at e2
    conv=>rhs;rw [e2]
    rw [mean_kids f 5 _ (.inr rfl),if_neg (by decide)]
  ·simp
theorem add_all (f:Reg→Bool) (l:List Reg) (hv:∀ x∈l,nodeE x=0):(l.foldl (addP 4) []).all (mean f)=l.all (mean f):=by
 rw [Bool.eq_iff_iff,List.all_eq_true,List.all_eq_true]
 constructor
 ·intro h x hx
  by_cases h0:x.kind=0
  ·rw [whole_of (hv x hx) h0]
   exact mean_whole f
  ·have:=add_any (K:=4) (p:=fun y=>sameR y x) (fun y hy _=>by rw [sameR_eq y x hy];exact h0) l []
   have h1:(l.any fun y=>sameR y x)=true:=List.any_eq_true.2 ⟨x,hx,sameR_self x⟩
   rw [h1,Bool.or_true] at this
   obtain ⟨y,hy,e⟩:=List.any_eq_true.1 this
   rw [← sameR_eq y x e]
   exact h y hy
 ·intro h x hx
  exact h x (add_mem hx)
theorem nodes_in1 {l:List Reg} {x:Reg} (h:x∈l):nodes x≤nodesL l:=by
 induction l with
 | nil=>cases h
 | cons r l ih=>
  rw [nodesL]
  rcases List.mem_cons.1 h with rfl | h
  ·omega
  ·have:=ih h;omega
theorem all_congr1 {α:Type} {l:List α} {p q:α→Bool} (h:∀ x∈l,p x=q x):l.all p=l.all q:=by
 induction l with
 | nil=>rfl
 | cons a l ih=>rw [List.all_cons,List.all_cons,h a (by simp),ih fun x hx=>h x (List.mem_cons_of_mem _ hx)]
theorem any_congr1 {α:Type} {l:List α} {p q:α→Bool} (h:∀ x∈l,p x=q x):l.any p=l.any q:=by
 induction l with
 | nil=>rfl
 | cons a l ih=>rw [List.any_cons,List.any_cons,h a (by simp),ih fun x hx=>h x (List.mem_cons_of_mem _ hx)]
theorem smp_good:∀ (n:Nat) (R:Reg),nodes R≤n→nodeE R=0→NF (smp R)∧nodeE (smp R)=0∧nodes (smp R)≤nodes R∧nest (smp R)≤nest R∧∀ f,mean f (smp R)=mean f R:=by
 intro n
 induction n with
 | zero=>intro R h;have:=nodes_pos R;omega
 | succ n ih=>
  intro R hn hv
  rcases node_cases hv with ⟨h0,h1,h2⟩ | ⟨x,rfl,hx⟩ | ⟨hk,e,hx⟩
  ·rw [smp_leaf h1]
   refine ⟨?_,hv,Nat.le_refl _,Nat.le_refl _,fun _=>rfl⟩
   obtain ⟨k,nm,ax,ay,b0,b1,b2,b3,kids⟩:=R
   simp only [Reg.kind,Reg.kids] at h0 h1 h2
   subst h2
   rw [NF]
   exact ⟨fun e=>by omega,fun e=>by omega,by rw [NFs];trivial⟩
  ·rw [nodes_kids,nodesL_one] at hn
   obtain ⟨a1,a2,a3,a4,a5⟩:=ih x (by omega) hx
   obtain ⟨b1,b2,b3,b4,b5⟩:=not_good a1 a2
   rw [smp_not]
   refine ⟨b1,b2,?_,?_,fun f=>?_⟩
   ·rw [nodes_kids,nodesL_one];omega
   ·rw [nest_kids,nestL,nestL];omega
   ·rw [b5,a5,kidsR,mean,if_neg (by decide),if_pos rfl,means]
    rfl
  ·obtain ⟨k,hkk⟩:∃ k,R.kind=k:=⟨_,rfl⟩
   obtain ⟨l,hl⟩:∃ l,R.kids=l:=⟨_,rfl⟩
   rw [hkk,hl] at e
   rw [hkk] at hk
   rw [hl] at hx
   subst e
   clear hkk hl
   rw [nodes_kids] at hn
   have hi:∀ x∈l,NF (smp x)∧nodeE (smp x)=0∧nodes (smp x)≤nodes x∧nest (smp x)≤nest x∧∀ f,mean f (smp x)=mean f x:=fun x hm=>ih x (by have:=nodes_in1 hm;omega) (hx x hm)
   have hm1:∀ y∈l.map smp,NF y∧nodeE y=0:=fun y hy=>by
    obtain ⟨x,hm,rfl⟩:=List.mem_map.1 hy
    exact ⟨(hi x hm).1,(hi x hm).2.1⟩
   have hn1:nodesL (l.map smp)≤nodesL l:=by
    clear hx hn hm1 hv ih
    induction l with
    | nil=>exact Nat.le_refl _
    | cons r l ihl=>
     rw [List.map_cons,nodesL,nodesL]
     have h1:=(hi r (by simp)).2.2.1
     have h2:=ihl fun x hx=>hi x (List.mem_cons_of_mem _ hx)
     omega
   have hn2:nestL (l.map smp)≤nestL l:=by
    rw [nestL_le]
    intro y hy
    obtain ⟨x,hm,rfl⟩:=List.mem_map.1 hy
    have h1:=(hi x hm).2.2.2.1
    have h2:=nestL_le.1 (Nat.le_refl _) x hm
    omega
   have hfl:∀ x∈flatP k (l.map smp),NF x∧nodeE x=0∧x.kind≠k:=fun x hx=>by
    obtain ⟨y,hy,⟨h1,h2⟩ | ⟨h1,rfl⟩⟩:=flat_mem hx
    ·obtain ⟨c1,c2⟩:=hm1 y hy
     rcases node_cases c2 with h3 | ⟨z,rfl,_⟩ | ⟨_,h4,h5⟩
     ·omega
     ·simp only [kidsR,Reg.kind] at h1;omega
     ·have h6:NF (kidsR k y.kids):=by rw [← h1,← h4];exact c1
      exact ⟨nf_kids c1 x h2,h5 x h2,((nf_op hk h6).2.2.1 x h2).1⟩
    ·obtain ⟨c1,c2⟩:=hm1 _ hy
     exact ⟨c1,c2,h1⟩
   have hvf:∀ x∈flatP k (l.map smp),nodeE x=0:=fun x hx=>(hfl x hx).2.1
   have hsub:=add_sub k (flatP k (l.map smp)) []
   rw [List.nil_append] at hsub
   obtain ⟨b1,b2,b3,b4,b5⟩:=fin_good hk (add_nodup k (flatP k (l.map smp)) [] (by simp)) (fun h5=>add_nowhole h5 _ _ (by simp)) (fun x hx=>hfl x (add_mem hx))
   rw [smp_kids k l hk]
   have d1:=sub_nodesL hsub
   have d2:=flat_nodes k (l.map smp)
   have d3:=flat_nest k (l.map smp)
   have d4:nestL ((flatP k (l.map smp)).foldl (addP k) [])≤nestL (flatP k (l.map smp)):=nestL_le.2 fun x hx=>nestL_le.1 (Nat.le_refl _) x (add_mem hx)
   refine ⟨b1,b2,?_,?_,fun f=>?_⟩
   ·rw [nodes_kids];omega
   ·rw [nest_kids];omega
   ·have hmm:∀ x∈l,mean f (smp x)=mean f x:=fun x hm=>(hi x hm).2.2.2.2 f
    rw [b5,mean_kids f k l hk]
    rcases hk with rfl | rfl
    ·rw [if_pos rfl,if_pos rfl,add_all f _ hvf,flat_all f _ (fun y hy=>(hm1 y hy).2),List.all_map]
     exact all_congr1 hmm
    ·rw [if_neg (by decide),if_neg (by decide),add_any (fun _ _ h=>absurd rfl h),List.any_nil,Bool.false_or,flat_any f _ (fun y hy=>(hm1 y hy).2),List.any_map]
     exact any_congr1 hmm
theorem smp_self:∀ (n:Nat) (R:Reg),nodes R≤n→nodeE R=0→NF R→smp R=R:=by
 intro n
 induction n with
 | zero=>intro R h;have:=nodes_pos R;omega
 | succ n ih=>
  intro R hn hv hN
  rcases node_cases hv with ⟨h0,h1,h2⟩ | ⟨x,rfl,hx⟩ | ⟨hk,e,hx⟩
  ·exact smp_leaf h1
  ·rw [nodes_kids,nodesL_one] at hn
   rw [smp_not,ih x (by omega) hx (nf_kids hN x (by simp [kidsR,Reg.kids]))]
   rw [kidsR,NF] at hN
   obtain ⟨h1,h2,h3⟩:=hN.1 rfl x (by simp)
   unfold notP
   rw [if_neg h1,if_neg h2,if_neg (by simp [h3])]
  ·obtain ⟨k,hkk⟩:∃ k,R.kind=k:=⟨_,rfl⟩
   obtain ⟨l,hl⟩:∃ l,R.kids=l:=⟨_,rfl⟩
   rw [hkk,hl] at e
   rw [hkk] at hk
   rw [hl] at hx
   subst e
   clear hkk hl
   rw [nodes_kids] at hn
   obtain ⟨c1,c2,c3,c4⟩:=nf_op hk hN
   have hm:l.map smp=l:=by
    conv=>rhs;rw [← List.map_id l]
    exact List.map_congr_left fun x hm=>ih x (by have:=nodes_in1 hm;omega) (hx x hm) (nf_kids hN x hm)
   have hf:flatP k l=l:=by
    have:∀ m:List Reg,(∀ x∈m,x.kind≠k)→flatP k m=m:=by
     intro m
     induction m with
     | nil=>intro _;rfl
     | cons r m ihm=>
      intro h
      show flat1 k r++flatP k m=_
      rw [ihm fun x hx=>h x (List.mem_cons_of_mem _ hx)]
      unfold flat1
      rw [if_neg (h r (by simp))]
      rfl
    exact this l fun x hx=>(c3 x hx).1
   rw [smp_kids k l hk,hm,hf,add_self l [] (by simpa using c2) (fun _ x hx=>(c3 x hx).2),List.nil_append]
   unfold fin
   rw [if_neg,if_neg,if_neg c1]
   ·rintro (⟨_,h⟩ | ⟨h4,h⟩)
    ·obtain ⟨x,hm,hb⟩:=List.any_eq_true.1 h
     exact (c3 x hm).2 (by simpa [wholeB] using hb)
    ·exact (c4 h4).1 (List.eq_nil_of_length_eq_zero h)
   ·rintro ⟨h4,h⟩
    obtain ⟨x,hm,hb⟩:=List.any_eq_true.1 h
    rw [(c4 h4).2 x hm] at hb
    cases hb
theorem smp_twice {R:Reg} (h:nodeE R=0):smp (smp R)=smp R:=by
 obtain ⟨a1,a2,_⟩:=smp_good _ R (Nat.le_refl _) h
 exact smp_self _ _ (Nat.le_refl _) a2 a1
end Qy
namespace Go.Proofs.YtmlpibdincfgbaaDoor
open Go.RowKit
set_option linter.unusedSimpArgs false
set_option linter.unusedVariables false
set_option maxRecDepth 100000 in
set_option maxHeartbeats 3200000 in
theorem eqFunc_any {l l':List Qy.Reg} (H:∀ R∈l,∀ R'∈l',∀ (v v':Value) (w:World),IsReg w R v→IsReg w R' v'→Calls Tryd.prog 73 #[v,v'] w (RetB w (Qy.sameR R R')))
 (hl:l.length≤1000000) (hl':l'.length≤1000000) {w:World} {S S':Nat→Prop} {A A':Option Addr} {c c':Nat} (hK:KidsAt w S A 0 l) (hK':KidsAt w S' A' 0 l') :
 Calls Tryd.prog 89 #[.slice A l.length c,.slice A' l'.length c',.func (.func 73) #[] #[]] w (RetB w (decide (l.length=l'.length)&&Qy.sameL l l')):=by
 have HH:=Lib.hid H
 have HK:=Lib.hid (And.intro hK hK')
 obtain ⟨E,hE⟩:∃ E,(decide (l.length=l'.length)&&Qy.sameL l l')=E:=⟨_,rfl⟩
 rw [hE]
 obtain ⟨m,hm⟩:∃ m,l.length=m:=⟨_,rfl⟩
 obtain ⟨m',hm'⟩:∃ m,l'.length=m:=⟨_,rfl⟩
 have HM:=Lib.hid (And.intro hm hm')
 rw [hm] at hl hE ⊢
 rw [hm'] at hl' hE ⊢
 have HE:=Lib.hid hE
 clear H hK hK' hm hm' hE
 go_enter Tryd.func89,Tryd.ntmps89
 by_cases hv:m=m'
 rotate_left
 ·have HF:Hid (E=false):=Lib.hid (by rw [← HE.out];simp [hv])
  have hv0:¬ (m:Int)=(m':Int):=by omega
  go_wp2
  go_returns
  exact ⟨by rw [HF.out];simp,Below.refl _ _⟩
 subst hv
 have HF:Hid (Qy.sameL l l'=E):=Lib.hid (by rw [← HE.out];simp)
 go_wp2_with fail
 go_loopw [17] (fun s wr=>∃ i:Nat,i≤m∧s=.int .i64 (i:Int)∧Qy.sameL (l.drop i) (l'.drop i)=E∧Below w.heap.size w wr) (fun s _=>m - (intOf s).toNat)
 case atStart=>exact ⟨0,Nat.zero_le _,rfl,HF.out,Below.refl _ _⟩
 case round=>
  obtain ⟨i,hi,rfl,hdr,hB⟩:=hrel
  have HB:=Lib.hid hB
  clear hB
  rcases Nat.lt_or_eq_of_le hi with hlt | heq
  ·have i0:(0:Int)≤(i:Int):=by omega
   have i1:(i:Int)<(m:Int):=by omega
   obtain ⟨R1,hR1⟩:∃ R,l[i]? = some R:=⟨_,List.getElem?_eq_getElem (by have:=HM.out;omega)⟩
   obtain ⟨R2,hR2⟩:∃ R,l'[i]? = some R:=⟨_,List.getElem?_eq_getElem (by have:=HM.out;omega)⟩
   obtain ⟨ag,af,an0,as1,an2,an3,an4,an5,an6,an7,aA8,al8,ac8,rfl,_,agl,⟨a0,a1,a2,a3,a4,a5,a6,a7,a8⟩,aR⟩:=HK.out.1.lit hR1
   obtain ⟨bg,bf,bn0,bs1,bn2,bn3,bn4,bn5,bn6,bn7,bA8,bl8,bc8,rfl,_,bgl,bE,bR⟩:=HK.out.2.lit hR2
   obtain ⟨sb,hsb⟩:∃ sb,Qy.sameR R1 R2=sb:=⟨_,rfl⟩
   have HC:=Lib.hid (HH.out R1 (List.mem_of_getElem? hR1) R2 (List.mem_of_getElem? hR2))
   rw [hsb] at HC
   rw [Qy.sameL_drop hR1 hR2,hsb] at hdr
   have HDr:=Lib.hid hdr
   have HBE:=Lib.hid (And.intro bE bgl)
   have HAR:=Lib.hid aR
   have HBR:=Lib.hid bR
   have ce:∀ o,wr.cell? ⟨ag,o,none⟩=w.cell? ⟨ag,o,none⟩:=fun o=>World.cell?_of_block (a:=⟨ag,o,none⟩) (HB.out.block ag agl)
   rw [← ce] at a0 a1 a2 a3 a4 a5 a6 a7 a8
   clear ce bE bgl aR bR hdr hsb hR1 hR2 agl
   go_upto_region 6 with fail
   refine wp_new1 fun W5 hA k5=>?_
   have HA:=Lib.hid (And.intro hA (Below.call HB.out k5))
   have ce:∀ o,W5.cell? ⟨bg,o,none⟩=w.cell? ⟨bg,o,none⟩:=fun o=>World.cell?_of_block (a:=⟨bg,o,none⟩) (HA.out.2.block bg HBE.out.2)
   obtain ⟨b0,b1,b2,b3,b4,b5,b6,b7,b8⟩:=HBE.out.1
   rw [← ce] at b0 b1 b2 b3 b4 b5 b6 b7 b8
   clear ce hA k5 a0 a1 a2 a3 a4 a5 a6 a7 a8
   go_upto_region 7 with fail
   refine wp_new1 fun W6 hQ k6=>?_
   obtain ⟨⟨y0,y1,y2,y3,y4,y5,y6,y7,y8⟩,_⟩:=(HA.out.1.on k6).all9
   obtain ⟨⟨z0,z1,z2,z3,z4,z5,z6,z7,z8⟩,_⟩:=hQ.all9
   have hBB:=Below.call HA.out.2 k6
   have HC2:=Lib.hid (HC.out _ _ W6 (HAR.out.on hBB).isReg (HBR.out.on hBB).isReg)
   have HBB:=Lib.hid hBB
   clear hBB hQ k6 b0 b1 b2 b3 b4 b5 b6 b7 b8 HC
   go_wp2_with fail
   refine HC2.out.mono ?_
   rintro e w7 ⟨rfl,k7⟩
   have HB7:=Lib.hid (Below.call HBB.out k7)
   clear k7 y0 y1 y2 y3 y4 y5 y6 y7 y8 z0 z1 z2 z3 z4 z5 z6 z7 z8
   cases sb
   ·have HF2:Hid (E=false):=Lib.hid (by rw [← HDr.out];rfl)
    go_wp2
    go_returns
    exact ⟨by rw [HF2.out];simp,HB7.out⟩
   ·have HF2:Hid (Qy.sameL (l.drop (i+1)) (l'.drop (i+1))=E):=Lib.hid (by rw [← HDr.out];simp)
    go_wp2_with fail
    go_roundw
    case rel=>exact ⟨i+1,by omega,by go_num,HF2.out,HB7.out⟩
    case measure=>simp [intOf];omega
  ·subst heq
   have HF2:Hid (E=true):=Lib.hid (by
    rw [← hdr,List.drop_of_length_le (by have:=HM.out;omega)]
    rw [Qy.sameL])
   clear hdr
   go_wp2
   go_returns
   exact ⟨by rw [HF2.out];simp,HB.out⟩
set_option maxRecDepth 100000 in
set_option maxHeartbeats 3200000 in
theorem equal_any:∀ (n:Nat) (R R':Qy.Reg),Qy.nodes R≤n→n≤1000000→Qy.nodes R'≤1000000→∀ (v v':Value) (w:World),IsReg w R v→IsReg w R' v'→Calls Tryd.prog 73 #[v,v'] w (RetB w (Qy.sameR R R')):=by
 intro n
 induction n with
 | zero=>intro R R' h;have:=Qy.nodes_pos R;omega
 | succ n ih=>
  intro R R' hn hN hn' v v' w hv hv'
  obtain ⟨cs,rfl,hR⟩:=hv
  obtain ⟨cs',rfl,hR'⟩:=hv'
  obtain ⟨k,nm,ax,ay,b0,b1,b2,b3,kids⟩:=R
  obtain ⟨k',nm',ax',ay',d0,d1,d2,d3,kids'⟩:=R'
  rw [RegAt] at hR hR'
  obtain ⟨A,c,rfl,hK⟩:=hR
  obtain ⟨A',c',rfl,hK'⟩:=hR'
  have hml:=Qy.len_nodesL kids
  have hml':=Qy.len_nodesL kids'
  have hnn:=hn
  have hnn':=hn'
  rw [Qy.nodes] at hnn hnn'
  have HEF:Hid (∀ u,Below w.heap.size w u→Calls Tryd.prog 89 #[.slice A kids.length c,.slice A' kids'.length c',.func (.func 73) #[] #[]] u (RetB u (decide (kids.length=kids'.length)&&Qy.sameL kids kids'))):=
   Lib.hid fun u hu=>eqFunc_any (fun R hR R' hR'=>ih R R' (by have:=Qy.nodes_kid (k:=k) (nm:=nm) (ax:=ax) (ay:=ay) (b0:=b0) (b1:=b1) (b2:=b2) (b3:=b3) hR;omega) (by omega) (by have:=Qy.nodes_kid (k:=k') (nm:=nm') (ax:=ax') (ay:=ay') (b0:=d0) (b1:=d1) (b2:=d2) (b3:=d3) hR';omega)) (by omega) (by omega) (hK.on hu) (hK'.on hu)
  obtain ⟨E,hE⟩:∃ E,Qy.sameR (.mk k nm ax ay b0 b1 b2 b3 kids) (.mk k' nm' ax' ay' d0 d1 d2 d3 kids')=E:=⟨_,rfl⟩
  rw [hE]
  rw [Qy.sameR] at hE
  obtain ⟨m,hm⟩:∃ m,kids.length=m:=⟨_,rfl⟩
  obtain ⟨m',hm'⟩:∃ m,kids'.length=m:=⟨_,rfl⟩
  rw [hm,hm'] at hE HEF ⊢
  have HE:=Lib.hid hE
  clear hm hm' ih hn hn' hN hml hml' hE hK hK' hnn hnn'
  go_enter Tryd.func73,Tryd.ntmps73
  go_upto_region 1 with fail
  refine wp_new2 fun W0 hA hQ hB=>?_
  obtain ⟨g2,hg2⟩:∃ g2,w.heap.size+1=g2:=⟨_,rfl⟩
  rw [hg2] at hQ ⊢
  have HB:=Lib.hid hB
  obtain ⟨⟨y0,y1,y2,y3,y4,y5,y6,y7,y8⟩,_⟩:=hA.all9
  obtain ⟨⟨z0,z1,z2,z3,z4,z5,z6,z7,z8⟩,_⟩:=hQ.all9
  clear hA hQ hB hg2
  by_cases hv:k=k'
  rotate_left
  ·
   have HF:Hid (E=false):=Lib.hid (by rw [← HE.out];simp [hv])
   go_wp2
   go_returns
   exact ⟨by rw [HF.out];simp,HB.out⟩
  subst hv
  by_cases hv:nm=nm'
  rotate_left
  ·
   have HF:Hid (E=false):=Lib.hid (by rw [← HE.out];simp [hv])
   have hs1:((bs nm).toList==(bs nm').toList)=false:=by rw [bs_toList,bs_toList];simpa using hv
   go_wp2
   go_returns
   exact ⟨by rw [HF.out];simp,HB.out⟩
  subst hv
  have hs1:((bs nm).toList==(bs nm).toList)=true:=by simp
  by_cases hv:ax=ax'
  rotate_left
  ·
   have HF:Hid (E=false):=Lib.hid (by rw [← HE.out];simp [hv])
   go_wp2
   go_returns
   exact ⟨by rw [HF.out];simp,HB.out⟩
  subst hv
  by_cases hv:ay=ay'
  rotate_left
  ·
   have HF:Hid (E=false):=Lib.hid (by rw [← HE.out];simp [hv])
   go_wp2
   go_returns
   exact ⟨by rw [HF.out];simp,HB.out⟩
  subst hv
  by_cases hv:b0=d0
  rotate_left
  ·
   have HF:Hid (E=false):=Lib.hid (by rw [← HE.out];simp [hv])
   go_wp2
   go_returns
   exact ⟨by rw [HF.out];simp,HB.out⟩
  subst hv
  by_cases hv:b1=d1
  rotate_left
  ·
   have HF:Hid (E=false):=Lib.hid (by rw [← HE.out];simp [hv])
   go_wp2
   go_returns
   exact ⟨by rw [HF.out];simp,HB.out⟩
  subst hv
  by_cases hv:b2=d2
  rotate_left
  ·
   have HF:Hid (E=false):=Lib.hid (by rw [← HE.out];simp [hv])
   go_wp2
   go_returns
   exact ⟨by rw [HF.out];simp,HB.out⟩
  subst hv
  by_cases hv:b3=d3
  rotate_left
  ·
   have HF:Hid (E=false):=Lib.hid (by rw [← HE.out];simp [hv])
   go_wp2
   go_returns
   exact ⟨by rw [HF.out];simp,HB.out⟩
  subst hv
  obtain ⟨F,hF⟩:∃ F,(decide (m=m')&&Qy.sameL kids kids')=F:=⟨_,rfl⟩
  have HF:Hid (E=F):=Lib.hid (by rw [← HE.out,← hF];simp)
  rw [hF] at HEF
  clear hF
  go_wp2_with fail
  refine (HEF.out _ HB.out).mono ?_
  rintro e w1 ⟨rfl,k1⟩
  have HB1:=Lib.hid (Below.call HB.out k1)
  clear k1 y0 y1 y2 y3 y4 y5 y6 y7 y8 z0 z1 z2 z3 z4 z5 z6 z7 z8
  cases F
  ·go_wp2
   go_returns
   exact ⟨by rw [HF.out];simp,HB1.out⟩
  ·go_wp2
   go_returns
   exact ⟨by rw [HF.out];simp,HB1.out⟩
set_option maxRecDepth 100000 in
theorem whole_any {R:Qy.Reg} {v:Value} {w:World} (hv:IsReg w R v):Calls Tryd.prog 69 #[v] w (RetB w (Qy.wholeB R)):=by
 obtain ⟨cs,rfl,hR⟩:=hv
 obtain ⟨k,nm,ax,ay,b0,b1,b2,b3,kids⟩:=R
 rw [RegAt] at hR
 obtain ⟨A,c,rfl,hK⟩:=hR
 obtain ⟨m,hm⟩:∃ m,kids.length=m:=⟨_,rfl⟩
 show Calls _ _ _ _ (RetB w (decide (k=0)))
 rw [hm]
 clear hm hK
 go_enter Tryd.func69,Tryd.ntmps69
 go_upto_region 1 with fail
 refine wp_new1 fun W0 hA hB=>?_
 obtain ⟨⟨y0,y1,y2,y3,y4,y5,y6,y7,y8⟩,_⟩:=hA.all9
 have HB:=Lib.hid hB
 clear hA hB
 by_cases h0:k=0
 ·subst h0
  go_wp2
  go_returns
  exact ⟨by simp,HB.out⟩
 ·have hb:(k==0)=false:=by simp [h0]
  go_wp2
  go_returns
  exact ⟨by simp [h0],HB.out⟩
set_option maxRecDepth 100000 in
theorem nothing_any {R:Qy.Reg} {v:Value} {w:World} (hv:IsReg w R v):Calls Tryd.prog 70 #[v] w (RetB w (Qy.nothingB R)):=by
 obtain ⟨cs,rfl,hR⟩:=hv
 obtain ⟨k,nm,ax,ay,b0,b1,b2,b3,kids⟩:=R
 rw [RegAt] at hR
 obtain ⟨A,c,rfl,hK⟩:=hR
 obtain ⟨m,hm⟩:∃ m,kids.length=m:=⟨_,rfl⟩
 show Calls _ _ _ _ (RetB w (decide (k=5)&&decide (kids.length=0)))
 rw [hm]
 clear hm hK
 go_enter Tryd.func70,Tryd.ntmps70
 go_upto_region 1 with fail
 refine wp_new1 fun W0 hA hB=>?_
 obtain ⟨⟨y0,y1,y2,y3,y4,y5,y6,y7,y8⟩,_⟩:=hA.all9
 have HB:=Lib.hid hB
 clear hA hB
 by_cases h0:k=5
 ·subst h0
  by_cases h1:m=0
  ·subst h1
   go_wp2
   go_returns
   exact ⟨by simp,HB.out⟩
  ·have h2:¬ (m:Int)=0:=by omega
   go_wp2
   go_returns
   exact ⟨by simp [h1],HB.out⟩
 ·have hb:(k==5)=false:=by simp [h0]
  go_wp2
  go_returns
  exact ⟨by simp [h0],HB.out⟩
theorem isReg_keep {w w':World} {R:Qy.Reg} {v:Value} (h:IsReg w R v) (k:Below w.heap.size w w'):IsReg w' R v:=by
 obtain ⟨cs,e,h⟩:=h
 exact ⟨cs,e,h.on k⟩
theorem isReg_lit {w:World} {R:Qy.Reg} {v:Value} (h:IsReg w R v):∃ n0 s1 n2 n3 n4 n5 n6 n7 A8 l8 c8,v=.agg #[.int .i64 n0,.string s1,.int .i64 n2,.int .i64 n3,.int .i64 n4,.int .i64 n5,.int .i64 n6,.int .i64 n7,.slice A8 l8 c8]:=by
 obtain ⟨cs,rfl,hR⟩:=h
 obtain ⟨A,c,rfl,_⟩:=hR.cells
 obtain ⟨n0,s1,n2,n3,n4,n5,n6,n7,l8,e⟩:=regCells_parts R A c
 exact ⟨n0,s1,n2,n3,n4,n5,n6,n7,A,l8,c,by rw [e]⟩
set_option maxRecDepth 100000 in
theorem same1_any {R K:Qy.Reg} {v:Value} {w:World} {g:Nat} {T:TypeId} {A8:Option Addr} {l8 c8:Nat} {n0 n2 n3 n4 n5 n6 n7:Int} {s1:ByteArray} {S:Nat→Prop} (hn:Qy.nodes R≤1000000) (hnK:Qy.nodes K≤1000000) (hv:IsReg w R v)
 (hO:Own w g T [.int .i64 n0,.string s1,.int .i64 n2,.int .i64 n3,.int .i64 n4,.int .i64 n5,.int .i64 n6,.int .i64 n7,.slice A8 l8 c8]) (hK:RegAt w S [.int .i64 n0,.string s1,.int .i64 n2,.int .i64 n3,.int .i64 n4,.int .i64 n5,.int .i64 n6,.int .i64 n7,.slice A8 l8 c8] K) :
 Calls Tryd.prog 72 #[v,.pointer (some ⟨g,0,none⟩)] w (RetB w (Qy.sameR R K)):=by
 have HC:=Lib.hid fun v' u h h'=>equal_any _ R K (Nat.le_refl _) hn hnK v v' u h h'
 have HV:=Lib.hid (And.intro hv (And.intro hO hK))
 obtain ⟨m0,t1,m2,m3,m4,m5,m6,m7,B8,k8,d8,hve⟩:=isReg_lit hv
 subst hve
 obtain ⟨E,hE⟩:∃ E,Qy.sameR R K=E:=⟨_,rfl⟩
 rw [hE] at HC ⊢
 clear hv hO hK hn hnK hE
 go_enter Tryd.func72,Tryd.ntmps72
 go_upto_region 1 with fail
 refine wp_new1 fun W0 hA hB=>?_
 obtain ⟨⟨y0,y1,y2,y3,y4,y5,y6,y7,y8⟩,_⟩:=hA.all9
 obtain ⟨⟨z0,z1,z2,z3,z4,z5,z6,z7,z8⟩,_⟩:=(HV.out.2.1.on hB).all9
 have HC2:=Lib.hid (HC.out _ W0 (isReg_keep HV.out.1 hB) (HV.out.2.2.on hB).isReg)
 have HB:=Lib.hid hB
 clear hA hB HC
 go_wp2_with fail
 refine HC2.out.mono ?_
 rintro e w1 ⟨rfl,k1⟩
 have HB1:=Lib.hid (Below.call HB.out k1)
 clear k1 y0 y1 y2 y3 y4 y5 y6 y7 y8 z0 z1 z2 z3 z4 z5 z6 z7 z8
 go_wp2
 go_returns
 exact ⟨by simp,HB1.out⟩
theorem any_snoc {l:List Qy.Reg} {i:Nat} {R:Qy.Reg} {p:Qy.Reg→Bool} (h:l[i]? = some R):(l.take (i+1)).any p=((l.take i).any p||p R):=by
 rw [List.take_add_one,h]
 simp
theorem any_hit {l:List Qy.Reg} {i:Nat} {R:Qy.Reg} {p:Qy.Reg→Bool} (h:l[i]? = some R) (hp:p R=true):l.any p=true:=List.any_eq_true.2 ⟨R,List.mem_of_getElem? h,hp⟩
set_option maxRecDepth 100000 in
set_option maxHeartbeats 3200000 in
theorem indexS {p:Qy.Reg→Bool} {l:List Qy.Reg} (hl:l.length≤1000000) {w:World} {g:Nat} (H:∀ R∈l,∀ (v:Value) (u:World),Below w.heap.size w u→IsReg u R v→Calls Tryd.prog 72 #[v,.pointer (some ⟨g,0,none⟩)] u (RetB u (p R)))
 {S:Nat→Prop} {A:Option Addr} {c:Nat} (hK:KidsAt w S A 0 l) :
 Calls Tryd.prog 90 #[.slice A l.length c,.func (.func 72) #[] #[.pointer (some ⟨g,0,none⟩)]] w fun e w'=>∃ i:Int,e=.returned (.int .i64 i)∧decide (0≤i)=l.any p∧(-1≤i∧i≤1000000)∧Below w.heap.size w w':=by
 have HH:=Lib.hid H
 have HK:=Lib.hid hK
 obtain ⟨m,hm⟩:∃ m,l.length=m:=⟨_,rfl⟩
 have HM:=Lib.hid hm
 rw [hm] at hl ⊢
 clear H hK hm
 go_enter Tryd.func90,Tryd.ntmps90
 go_wp2_with fail
 go_loopw [8] (fun s wr=>∃ i:Nat,i≤m∧s=.int .i64 (i:Int)∧(l.take i).any p=false∧Below w.heap.size w wr) (fun s _=>m - (intOf s).toNat)
 case atStart=>exact ⟨0,Nat.zero_le _,rfl,by simp,Below.refl _ _⟩
 case round=>
  obtain ⟨i,hi,rfl,hall,hB⟩:=hrel
  have HB:=Lib.hid hB
  have HALL:=Lib.hid hall
  clear hB hall
  rcases Nat.lt_or_eq_of_le hi with hlt | heq
  ·have i0:(0:Int)≤(i:Int):=by omega
   have i1:(i:Int)<(m:Int):=by omega
   obtain ⟨R1,hR1⟩:∃ R,l[i]? = some R:=⟨_,List.getElem?_eq_getElem (by have:=HM.out;omega)⟩
   obtain ⟨ag,af,an0,as1,an2,an3,an4,an5,an6,an7,aA8,al8,ac8,rfl,_,agl,⟨a0,a1,a2,a3,a4,a5,a6,a7,a8⟩,aR⟩:=HK.out.lit hR1
   obtain ⟨sb,hsb⟩:∃ sb,p R1=sb:=⟨_,rfl⟩
   have HC:=Lib.hid (HH.out R1 (List.mem_of_getElem? hR1) _ wr HB.out (aR.on HB.out).isReg)
   rw [hsb] at HC
   have HR1:=Lib.hid (And.intro hR1 hsb)
   have ce:∀ o,wr.cell? ⟨ag,o,none⟩=w.cell? ⟨ag,o,none⟩:=fun o=>World.cell?_of_block (a:=⟨ag,o,none⟩) (HB.out.block ag agl)
   rw [← ce] at a0 a1 a2 a3 a4 a5 a6 a7 a8
   clear ce aR hsb hR1 agl
   go_wp2_with fail
   refine HC.out.mono ?_
   rintro e w7 ⟨rfl,k7⟩
   have HB7:=Lib.hid (Below.call HB.out k7)
   clear k7 a0 a1 a2 a3 a4 a5 a6 a7 a8
   cases sb
   ·have HF2:Hid ((l.take (i+1)).any p=false):=Lib.hid (by rw [any_snoc HR1.out.1,HALL.out,HR1.out.2];rfl)
    go_wp2_with fail
    go_roundw
    case rel=>exact ⟨i+1,by omega,by go_num,HF2.out,HB7.out⟩
    case measure=>simp [intOf];omega
   ·go_wp2
    go_returns
    exact ⟨_,rfl,by rw [any_hit HR1.out.1 HR1.out.2];simp,⟨by omega,by omega⟩,HB7.out⟩
  ·subst heq
   have HF2:Hid (l.any p=false):=Lib.hid (by have h9:=HALL.out;rwa [List.take_of_length_le (by have:=HM.out;omega)] at h9)
   go_wp2
   go_returns
   exact ⟨_,rfl,by rw [HF2.out];simp,⟨by omega,by omega⟩,HB.out⟩
set_option maxRecDepth 100000 in
theorem containsS {p:Qy.Reg→Bool} {l:List Qy.Reg} (hl:l.length≤1000000) {w:World} {g:Nat} (H:∀ R∈l,∀ (v:Value) (u:World),Below w.heap.size w u→IsReg u R v→Calls Tryd.prog 72 #[v,.pointer (some ⟨g,0,none⟩)] u (RetB u (p R)))
 {S:Nat→Prop} {A:Option Addr} {c:Nat} (hK:KidsAt w S A 0 l) :
 Calls Tryd.prog 74 #[.slice A l.length c,.func (.func 72) #[] #[.pointer (some ⟨g,0,none⟩)]] w (RetB w (l.any p)):=by
 have HC:=Lib.hid (indexS hl H hK (c:=c))
 obtain ⟨E,hE⟩:∃ E,l.any p=E:=⟨_,rfl⟩
 rw [hE] at HC ⊢
 obtain ⟨m,hm⟩:∃ m,l.length=m:=⟨_,rfl⟩
 rw [hm] at HC ⊢
 clear H hK hm hE hl
 go_enter Tryd.func74,Tryd.ntmps74
 go_wp2_with fail
 refine HC.out.mono ?_
 rintro e w1 ⟨i,rfl,hi,⟨hi0,hi1⟩,k1⟩
 have HF:=Lib.hid k1
 have HI:=Lib.hid hi
 clear k1 hi
 by_cases h0:0≤i
 ·go_wp2
  go_returns
  exact ⟨by rw [← HI.out];simp [h0],HF.out⟩
 ·go_wp2
  go_returns
  exact ⟨by rw [← HI.out];simp [h0],HF.out⟩
set_option maxRecDepth 100000 in
set_option maxHeartbeats 3200000 in
theorem indexN {p:Qy.Reg→Bool} {l:List Qy.Reg} (hl:l.length≤1000000) {w:World}  (H:∀ R∈l,∀ (v:Value) (u:World),Below w.heap.size w u→IsReg u R v→Calls Tryd.prog 70 #[v] u (RetB u (p R)))
 {S:Nat→Prop} {A:Option Addr} {c:Nat} (hK:KidsAt w S A 0 l) :
 Calls Tryd.prog 90 #[.slice A l.length c,.func (.func 70) #[] #[]] w fun e w'=>∃ i:Int,e=.returned (.int .i64 i)∧decide (0≤i)=l.any p∧(-1≤i∧i≤1000000)∧Below w.heap.size w w':=by
 have HH:=Lib.hid H
 have HK:=Lib.hid hK
 obtain ⟨m,hm⟩:∃ m,l.length=m:=⟨_,rfl⟩
 have HM:=Lib.hid hm
 rw [hm] at hl ⊢
 clear H hK hm
 go_enter Tryd.func90,Tryd.ntmps90
 go_wp2_with fail
 go_loopw [8] (fun s wr=>∃ i:Nat,i≤m∧s=.int .i64 (i:Int)∧(l.take i).any p=false∧Below w.heap.size w wr) (fun s _=>m - (intOf s).toNat)
 case atStart=>exact ⟨0,Nat.zero_le _,rfl,by simp,Below.refl _ _⟩
 case round=>
  obtain ⟨i,hi,rfl,hall,hB⟩:=hrel
  have HB:=Lib.hid hB
  have HALL:=Lib.hid hall
  clear hB hall
  rcases Nat.lt_or_eq_of_le hi with hlt | heq
  ·have i0:(0:Int)≤(i:Int):=by omega
   have i1:(i:Int)<(m:Int):=by omega
   obtain ⟨R1,hR1⟩:∃ R,l[i]? = some R:=⟨_,List.getElem?_eq_getElem (by have:=HM.out;omega)⟩
   obtain ⟨ag,af,an0,as1,an2,an3,an4,an5,an6,an7,aA8,al8,ac8,rfl,_,agl,⟨a0,a1,a2,a3,a4,a5,a6,a7,a8⟩,aR⟩:=HK.out.lit hR1
   obtain ⟨sb,hsb⟩:∃ sb,p R1=sb:=⟨_,rfl⟩
   have HC:=Lib.hid (HH.out R1 (List.mem_of_getElem? hR1) _ wr HB.out (aR.on HB.out).isReg)
   rw [hsb] at HC
   have HR1:=Lib.hid (And.intro hR1 hsb)
   have ce:∀ o,wr.cell? ⟨ag,o,none⟩=w.cell? ⟨ag,o,none⟩:=fun o=>World.cell?_of_block (a:=⟨ag,o,none⟩) (HB.out.block ag agl)
   rw [← ce] at a0 a1 a2 a3 a4 a5 a6 a7 a8
   clear ce aR hsb hR1 agl
   go_wp2_with fail
   refine HC.out.mono ?_
   rintro e w7 ⟨rfl,k7⟩
   have HB7:=Lib.hid (Below.call HB.out k7)
   clear k7 a0 a1 a2 a3 a4 a5 a6 a7 a8
   cases sb
   ·have HF2:Hid ((l.take (i+1)).any p=false):=Lib.hid (by rw [any_snoc HR1.out.1,HALL.out,HR1.out.2];rfl)
    go_wp2_with fail
    go_roundw
    case rel=>exact ⟨i+1,by omega,by go_num,HF2.out,HB7.out⟩
    case measure=>simp [intOf];omega
   ·go_wp2
    go_returns
    exact ⟨_,rfl,by rw [any_hit HR1.out.1 HR1.out.2];simp,⟨by omega,by omega⟩,HB7.out⟩
  ·subst heq
   have HF2:Hid (l.any p=false):=Lib.hid (by have h9:=HALL.out;rwa [List.take_of_length_le (by have:=HM.out;omega)] at h9)
   go_wp2
   go_returns
   exact ⟨_,rfl,by rw [HF2.out];simp,⟨by omega,by omega⟩,HB.out⟩
set_option maxRecDepth 100000 in
theorem containsN {p:Qy.Reg→Bool} {l:List Qy.Reg} (hl:l.length≤1000000) {w:World}  (H:∀ R∈l,∀ (v:Value) (u:World),Below w.heap.size w u→IsReg u R v→Calls Tryd.prog 70 #[v] u (RetB u (p R)))
 {S:Nat→Prop} {A:Option Addr} {c:Nat} (hK:KidsAt w S A 0 l) :
 Calls Tryd.prog 74 #[.slice A l.length c,.func (.func 70) #[] #[]] w (RetB w (l.any p)):=by
 have HC:=Lib.hid (indexN hl H hK (c:=c))
 obtain ⟨E,hE⟩:∃ E,l.any p=E:=⟨_,rfl⟩
 rw [hE] at HC ⊢
 obtain ⟨m,hm⟩:∃ m,l.length=m:=⟨_,rfl⟩
 rw [hm] at HC ⊢
 clear H hK hm hE hl
 go_enter Tryd.func74,Tryd.ntmps74
 go_wp2_with fail
 refine HC.out.mono ?_
 rintro e w1 ⟨i,rfl,hi,⟨hi0,hi1⟩,k1⟩
 have HF:=Lib.hid k1
 have HI:=Lib.hid hi
 clear k1 hi
 by_cases h0:0≤i
 ·go_wp2
  go_returns
  exact ⟨by rw [← HI.out];simp [h0],HF.out⟩
 ·go_wp2
  go_returns
  exact ⟨by rw [← HI.out];simp [h0],HF.out⟩
set_option maxRecDepth 100000 in
set_option maxHeartbeats 3200000 in
theorem indexW {p:Qy.Reg→Bool} {l:List Qy.Reg} (hl:l.length≤1000000) {w:World}  (H:∀ R∈l,∀ (v:Value) (u:World),Below w.heap.size w u→IsReg u R v→Calls Tryd.prog 69 #[v] u (RetB u (p R)))
 {S:Nat→Prop} {A:Option Addr} {c:Nat} (hK:KidsAt w S A 0 l) :
 Calls Tryd.prog 90 #[.slice A l.length c,.func (.func 69) #[] #[]] w fun e w'=>∃ i:Int,e=.returned (.int .i64 i)∧decide (0≤i)=l.any p∧(-1≤i∧i≤1000000)∧Below w.heap.size w w':=by
 have HH:=Lib.hid H
 have HK:=Lib.hid hK
 obtain ⟨m,hm⟩:∃ m,l.length=m:=⟨_,rfl⟩
 have HM:=Lib.hid hm
 rw [hm] at hl ⊢
 clear H hK hm
 go_enter Tryd.func90,Tryd.ntmps90
 go_wp2_with fail
 go_loopw [8] (fun s wr=>∃ i:Nat,i≤m∧s=.int .i64 (i:Int)∧(l.take i).any p=false∧Below w.heap.size w wr) (fun s _=>m - (intOf s).toNat)
 case atStart=>exact ⟨0,Nat.zero_le _,rfl,by simp,Below.refl _ _⟩
 case round=>
  obtain ⟨i,hi,rfl,hall,hB⟩:=hrel
  have HB:=Lib.hid hB
  have HALL:=Lib.hid hall
  clear hB hall
  rcases Nat.lt_or_eq_of_le hi with hlt | heq
  ·have i0:(0:Int)≤(i:Int):=by omega
   have i1:(i:Int)<(m:Int):=by omega
   obtain ⟨R1,hR1⟩:∃ R,l[i]? = some R:=⟨_,List.getElem?_eq_getElem (by have:=HM.out;omega)⟩
   obtain ⟨ag,af,an0,as1,an2,an3,an4,an5,an6,an7,aA8,al8,ac8,rfl,_,agl,⟨a0,a1,a2,a3,a4,a5,a6,a7,a8⟩,aR⟩:=HK.out.lit hR1
   obtain ⟨sb,hsb⟩:∃ sb,p R1=sb:=⟨_,rfl⟩
   have HC:=Lib.hid (HH.out R1 (List.mem_of_getElem? hR1) _ wr HB.out (aR.on HB.out).isReg)
   rw [hsb] at HC
   have HR1:=Lib.hid (And.intro hR1 hsb)
   have ce:∀ o,wr.cell? ⟨ag,o,none⟩=w.cell? ⟨ag,o,none⟩:=fun o=>World.cell?_of_block (a:=⟨ag,o,none⟩) (HB.out.block ag agl)
   rw [← ce] at a0 a1 a2 a3 a4 a5 a6 a7 a8
   clear ce aR hsb hR1 agl
   go_wp2_with fail
   refine HC.out.mono ?_
   rintro e w7 ⟨rfl,k7⟩
   have HB7:=Lib.hid (Below.call HB.out k7)
   clear k7 a0 a1 a2 a3 a4 a5 a6 a7 a8
   cases sb
   ·have HF2:Hid ((l.take (i+1)).any p=false):=Lib.hid (by rw [any_snoc HR1.out.1,HALL.out,HR1.out.2];rfl)
    go_wp2_with fail
    go_roundw
    case rel=>exact ⟨i+1,by omega,by go_num,HF2.out,HB7.out⟩
    case measure=>simp [intOf];omega
   ·go_wp2
    go_returns
    exact ⟨_,rfl,by rw [any_hit HR1.out.1 HR1.out.2];simp,⟨by omega,by omega⟩,HB7.out⟩
  ·subst heq
   have HF2:Hid (l.any p=false):=Lib.hid (by have h9:=HALL.out;rwa [List.take_of_length_le (by have:=HM.out;omega)] at h9)
   go_wp2
   go_returns
   exact ⟨_,rfl,by rw [HF2.out];simp,⟨by omega,by omega⟩,HB.out⟩
set_option maxRecDepth 100000 in
theorem containsW {p:Qy.Reg→Bool} {l:List Qy.Reg} (hl:l.length≤1000000) {w:World}  (H:∀ R∈l,∀ (v:Value) (u:World),Below w.heap.size w u→IsReg u R v→Calls Tryd.prog 69 #[v] u (RetB u (p R)))
 {S:Nat→Prop} {A:Option Addr} {c:Nat} (hK:KidsAt w S A 0 l) :
 Calls Tryd.prog 74 #[.slice A l.length c,.func (.func 69) #[] #[]] w (RetB w (l.any p)):=by
 have HC:=Lib.hid (indexW hl H hK (c:=c))
 obtain ⟨E,hE⟩:∃ E,l.any p=E:=⟨_,rfl⟩
 rw [hE] at HC ⊢
 obtain ⟨m,hm⟩:∃ m,l.length=m:=⟨_,rfl⟩
 rw [hm] at HC ⊢
 clear H hK hm hE hl
 go_enter Tryd.func74,Tryd.ntmps74
 go_wp2_with fail
 refine HC.out.mono ?_
 rintro e w1 ⟨i,rfl,hi,⟨hi0,hi1⟩,k1⟩
 have HF:=Lib.hid k1
 have HI:=Lib.hid hi
 clear k1 hi
 by_cases h0:0≤i
 ·go_wp2
  go_returns
  exact ⟨by rw [← HI.out];simp [h0],HF.out⟩
 ·go_wp2
  go_returns
  exact ⟨by rw [← HI.out];simp [h0],HF.out⟩
end Go.Proofs.YtmlpibdincfgbaaDoor
namespace Go.Proofs.YtmlpibdincfgbaaDoor
open Go.RowKit
set_option linter.unusedSimpArgs false
set_option linter.unusedVariables false
def capOf:Value→Nat
 | .slice _ _ c=>c
 | _=>0
section
variable {P:Program} (w:World)
theorem run_pushR (t ty e:TypeId) (i:TypeInfo) (z:Value) (sz bytes:Nat) (ht:P.underlying t=some (.slice e)) (hi:P.info? e=some i) (hz:i.zero=some z) (hsize:i.size=sz) (hby:i.bytes=bytes) (hzs:z.cells.size=sz) (hsz:0<sz)
 (B:Nat) (v:Value) (n:Nat) (xs:List Value) (hown:w.ownsRow B e sz v n xs)
 (a:Addr) (c:Nat) (news:List Value) (hl:news.length=sz) (hnews:∀ j u,news[j]? = some u→w.cell? (a.add j)=some u) (h1:∀ u∈news,u.oneCell'=true)
 (h63:n+1≤maxLen) (hbytes:(n+1) * bytes≤140737488355328) (hB:B≤w.heap.size) :
 ∃ v' w',(Builtin.append_ #[t,t] ty #[v,.slice (some a) 1 c]).run P w=.ok v' w'∧w'.ownsRow B e sz v' (n+1) (xs++news)∧w.grownBy w' v.ownBlock∧v'.ownBlock=(if n+1≤capOf v then v.ownBlock else some w.heap.size):=by
 subst hsize
 subst hby
 have hsmall:n+1≤9223372036854775807:=by simp only [maxLen] at h63;omega
 have hl1:news.length=1 * i.size:=by omega
 have hlen:(xs++news).length=(n+1) * i.size:=by rw [List.length_append,hown.1,hl,Nat.add_mul,Nat.one_mul]
 have grown:∀ (old:Nat),old<n+1→∀ (row:Option Nat),
  (w.drew.alloc (.cells (xs.toArray++news.toArray++Builtin.zeroCells z.cells (grownCap w (n+1) old e - (n+1))) e)).ownsRow B e i.size
   (.slice (Option.some ⟨w.heap.size,0,none⟩) (n+1) (grownCap w (n+1) old e)) (n+1) (xs++news)∧
  w.grownBy (w.drew.alloc (.cells (xs.toArray++news.toArray++Builtin.zeroCells z.cells (grownCap w (n+1) old e - (n+1))) e)) row:=by
  intro old ho row
  have hge:=grownCap_ge w (n+1) old e
  have hcm:grownCap w (n+1) old e≤maxLen:=grownCap_le_maxLen w (n+1) old e h63
  refine ⟨⟨hlen,.inr ⟨w.heap.size,_,_,rfl,hB,heap_alloc_new w.drew _,hge,hcm,?_,?_⟩⟩,⟨rfl,rfl,rfl,by simp,fun k hk _=>heap_alloc_old w.drew _ (by first | exact hk | assumption)⟩⟩
  ·simp only [Array.size_append,List.size_toArray,size_zeroCells,hzs,hown.1,hl1,← Nat.add_mul]
   congr 1
   omega
  ·simp only [Array.toList_append,List.append_assoc]
   rw [← List.append_assoc,← hlen]
   exact List.take_left
 rcases hown.2 with ⟨rfl,rfl⟩ | ⟨g,cap,cur,rfl,hbg,hg,hnc,hcm,hcs,htake⟩
 ·have hx:xs=[]:=List.eq_nil_of_length_eq_zero (by simpa using hown.1)
  subst hx
  have hr:=run_append_nil (P:=P) w t ty e i z ht hi hz a 1 c news hl1 hnews (by omega) (by omega) (by have hb:=hbytes;simp only [Nat.zero_add] at hb;omega)
  have hgr:=grown 0 (by omega) (Value.ownBlock (.slice none 0 0))
  simp only [Nat.zero_add,List.nil_append,Array.empty_append] at hgr ⊢
  exact ⟨_,_,hr,hgr.1,hgr.2,rfl⟩
 ·by_cases hroom:n+1≤cap
  ·have hfit:n * i.size+news.length≤cur.size:=by rw [hl1,hcs,← Nat.add_mul];exact Nat.mul_le_mul_right _ hroom
   have hr:=run_append_room (P:=P) w t ty e i ht hi g n cap cur hg a 1 c news hl1 hnews h1 hroom hfit
   refine ⟨_,_,hr,⟨hlen,.inr ⟨g,cap,_,rfl,hbg,setRow_heap w g cur _ e _ hg,hroom,hcm,?_,?_⟩⟩,⟨rfl,rfl,rfl,by simp,fun k _ hk=>setRow_other w g k _ (fun e=>hk (by simp [Value.ownBlock,e]))⟩,by rw [show capOf (.slice (some ⟨g,0,none⟩) n cap)=cap from rfl,if_pos hroom];rfl⟩
   ·simp only [List.size_toArray,List.length_append,List.length_take,List.length_drop,Array.length_toList]
    omega
   ·rw [htake,← hlen]
    exact List.take_left
  ·have holds:∀ j u,xs[j]? = some u→w.cell? ((⟨g,0,none⟩:Addr).add j)=some u:=fun j u hj=>by
    have hj':j<n * i.size:=by
     rw [← hown.1]
     rcases Nat.lt_or_ge j xs.length with h | h
     ·exact h
     ·rw [List.getElem?_eq_none h] at hj;cases hj
    rw [← htake,List.getElem?_take_of_lt hj'] at hj
    rw [Addr.add_lit,Nat.zero_add]
    simpa [World.cell?,hg] using hj
   have hr:=run_append_grow (P:=P) w t ty e i z ht hi hz ⟨g,0,none⟩ n cap xs hown.1 holds a 1 c news hl1 hnews (by omega) (by omega) (growslice_fits (by omega) hbytes)
   have hgr:=grown cap (by omega) (Value.ownBlock (.slice (Option.some ⟨g,0,none⟩) n cap))
   exact ⟨_,_,hr,hgr.1,hgr.2,by rw [show capOf (.slice (some ⟨g,0,none⟩) n cap)=cap from rfl,if_neg hroom];rfl⟩
theorem oper_pushR {K:Act→World→Prop} {o:Oper} {ac:Act} {Q:Exit→Act→World→Prop} (s x:Operand) (t:TypeId)
 (ho:o.op=.call { callee:=.builtin .append,args:=#[s,x],argTypes:=#[t,t] })
 (e:TypeId) (i:TypeInfo) (z:Value) (sz bytes:Nat) (ht:P.underlying t=some (.slice e)) (hi:P.info? e=some i) (hz:i.zero=some z) (hsize:i.size=sz) (hby:i.bytes=bytes) (hzs:z.cells.size=sz) (hsz:0<sz)
 (B:Nat) (v:Value) (n:Nat) (xs:List Value) (hs:ac.eval s=v) (hown:w.ownsRow B e sz v n xs)
 (a:Addr) (c:Nat) (news:List Value) (hx:ac.eval x=.slice (some a) 1 c) (hl:news.length=sz) (hnews:∀ j u,news[j]? = some u→w.cell? (a.add j)=some u) (h1:∀ u∈news,u.oneCell'=true)
 (h63:n+1≤maxLen) (hbytes:(n+1) * bytes≤140737488355328) (hB:B≤w.heap.size)
 (h:∀ v' w',w'.ownsRow B e sz v' (n+1) (xs++news)→w.grownBy w' v.ownBlock→v'.ownBlock=(if n+1≤capOf v then v.ownBlock else some w.heap.size)→K (ac.put o.dst v') w') :
 Oper.wp P o ac w K Q:=by
 obtain ⟨v',w',hr,h2,h3,h4⟩:=run_pushR (P:=P) w t o.type e i z sz bytes ht hi hz hsize hby hzs hsz B v n xs hown a c news hl hnews h1 h63 hbytes hB
 unfold Oper.wp execOp
 simp only [ho,resolve,invoke,builtin,Sem.run_bind,Sem.run_pure,Result.andThen_ok,List.map_toArray,List.map_cons,List.map_nil,hs,hx,hr]
 exact h v' w' h2 h3 h4
end
structure At2 (g:Nat) (o:Option Nat) (w w':World):Prop where
 os:w'.os=w.os
 tape:w'.tape=w.tape
 output:w'.output=w.output
 size:w.heap.size≤w'.heap.size
 block:∀ k,k<w.heap.size→k≠g→o≠some k→w'.heap[k]? = w.heap[k]?
theorem At2.refl (g:Nat) (o:Option Nat) (w:World):At2 g o w w:=⟨rfl,rfl,rfl,Nat.le_refl _,fun _ _ _ _=>rfl⟩
theorem At2.of_below {g:Nat} {o:Option Nat} {w w':World} (h:Below w.heap.size w w'):At2 g o w w':=⟨h.os,h.tape,h.output,h.size,fun k hk _ _=>h.block k hk⟩
theorem At2.of_grown {g:Nat} {o:Option Nat} {w w':World} (h:w.grownBy w' o):At2 g o w w':=⟨h.os,h.tape,h.output,h.size,fun k hk _ ho=>h.block k hk (fun e=>ho e.symm)⟩
theorem At2.of_at1 {g:Nat} {o:Option Nat} {w w':World} (h:At1 g w w'):At2 g o w w':=⟨h.os,h.tape,h.output,h.size,fun k hk hg _=>h.heap hk hg⟩
theorem At2.trans {g:Nat} {o o':Option Nat} {a b c:World} (h:At2 g o a b) (k:At2 g o' b c) (ho:∀ x,o'=some x→o=some x∨a.heap.size≤x):At2 g o a c:=
 ⟨k.os.trans h.os,k.tape.trans h.tape,k.output.trans h.output,Nat.le_trans h.size k.size,fun x hx hg hne=>(k.block x (Nat.lt_of_lt_of_le hx h.size) hg (fun e=>by
  rcases ho x e with e2 | e2
  ·exact hne e2
  ·omega)).trans (h.block x hx hg hne)⟩
theorem At2.below {g:Nat} {o:Option Nat} {B:Nat} {w w':World} (h:At2 g o w w') (hg:B≤g) (ho:∀ x,o=some x→B≤x) (hB:B≤w.heap.size):Below B w w':=
 ⟨h.os,h.tape,h.output,h.size,fun k hk=>h.block k (Nat.lt_of_lt_of_le hk hB) (by omega) (fun e=>by have:=ho k e;omega)⟩
theorem Own.at2 {g:Nat} {o:Option Nat} {w w':World} {q:Nat} {t:TypeId} {xs:List Value} (h:Own w q t xs) (k:At2 g o w w') (hq:q≠g) (ho:o≠some q):Own w' q t xs:=
 (k.block q h.lt hq ho).trans h
theorem RegAt.at2 {g:Nat} {o:Option Nat} {w w':World} {N:Nat→Prop} {cs:List Value} {R:Qy.Reg} (h:RegAt w (fun q=>N q∧o≠some q) cs R) (k:At2 g o w w') (hg:¬ N g):RegAt w' (fun q=>N q∧o≠some q) cs R:=
 RegAt.keep k.size (fun q hq hl=>⟨hq,k.block q hl (fun e=>hg (e▸hq.1)) hq.2⟩) cs R h
theorem KRow.kids {T:TypeId} {N:Nat→Prop} {w:World} {v:Value} {l:List Qy.Reg} (h:KRow T N w v l):∃ A c,v=.slice A l.length c∧KidsAt w N A 0 l:=by
 obtain ⟨css,h1,h2,h3,h4⟩:=h
 rcases h2.2 with ⟨rfl,h0⟩ | ⟨g,cap,cur,rfl,hb,hg,hnc,hcm,hcs,htake⟩
 ·have:l=[]:=List.eq_nil_of_length_eq_zero h0
  subst this
  exact ⟨none,0,rfl,by rw [KidsAt];trivial⟩
 ·have hall:∀ c∈css,c.length=9:=fun c hc=>by
   obtain ⟨j,hj⟩:=List.mem_iff_getElem?.1 hc
   have hjl:j<l.length:=by rw [← h1];exact (List.getElem?_eq_some_iff.1 hj).1
   exact (h4 j c l[j] hj (List.getElem?_eq_getElem hjl)).1
  refine ⟨some ⟨g,0,none⟩,cap,rfl,kids_of (h3 g rfl) (heap_lt hg) l css 0 h1 (fun j k cs v hj hv=>?_) fun j cs R hj hR=>RegAt.keep (Nat.le_refl _) (fun g hg _=>⟨hg.1,rfl⟩) cs R (h4 j cs R hj hR).2⟩
  have hjl:j<l.length:=by rw [← h1];exact (List.getElem?_eq_some_iff.1 hj).1
  have hk:k<9:=by
   have:=(List.getElem?_eq_some_iff.1 hv).1
   rw [hall cs (List.mem_of_getElem? hj)] at this
   exact this
  rw [Nat.zero_add]
  have e:=flatten_at css j k cs hall hj hk
  rw [hv,← htake,List.getElem?_take_of_lt (by omega)] at e
  simpa [World.cell?,hg] using e
def zcells:List Value:=[.int .i64 0,.string ⟨#[]⟩,.int .i64 0,.int .i64 0,.int .i64 0,.int .i64 0,.int .i64 0,.int .i64 0,.slice none 0 0]
theorem zcells_reg (w:World) (S:Nat→Prop):RegAt w S zcells Qy.wholeR:=by
 show RegAt w S zcells (.mk 0 [] 0 0 0 0 0 0 [])
 rw [RegAt]
 exact ⟨none,0,rfl,by rw [KidsAt];trivial⟩
theorem KRow.push2 {T:TypeId} {N:Nat→Prop} {w1 w2:World} {v v':Value} {l:List Qy.Reg} {css:List (List Value)} {cs:List Value} {R:Qy.Reg} (h1:css.length=l.length) (h3:∀ g,v.ownBlock=some g→N g)
 (h4:∀ (j:Nat) (cs:List Value) (R:Qy.Reg),css[j]? = some cs→l[j]? = some R→cs.length=9∧RegAt w1 (fun g=>N g∧v.ownBlock≠some g) cs R) (hc:cs.length=9) (hR:RegAt w1 (fun g=>N g∧v.ownBlock≠some g) cs R) (hnew:N w1.heap.size)
 (ho:w2.ownsRow 0 T 9 v' (l.length+1) (css.flatten++cs)) (hg:w1.grownBy w2 v.ownBlock) (hv:v'.ownBlock=v.ownBlock∨v'.ownBlock=some w1.heap.size):KRow T N w2 v' (l++[R]):=by
 have hne:∀ g,v.ownBlock≠some g→g<w1.heap.size→v'.ownBlock≠some g:=fun g h k e=>by
  rcases hv with e2 | e2
  ·exact h (e2.symm.trans e)
  ·rw [e2] at e
   injection e with e
   omega
 refine ⟨css++[cs],by simp [h1],by simpa using ho,fun g hg=>?_,fun j cs' R' hj hR'=>?_⟩
 ·rcases hv with e2 | e2
  ·exact h3 g (e2.symm.trans hg)
  ·rw [e2] at hg
   injection hg with hg
   exact hg▸hnew
 have key:∀ cs R,RegAt w1 (fun g=>N g∧v.ownBlock≠some g) cs R→RegAt w2 (fun g=>N g∧v'.ownBlock≠some g) cs R:=fun cs R h=>
  RegAt.keep hg.size (fun g hg' hl=>⟨⟨hg'.1,hne g hg'.2 hl⟩,hg.block g hl (fun e=>hg'.2 e.symm)⟩) cs R h
 rcases Nat.lt_or_ge j l.length with hlt | hge
 ·rw [List.getElem?_append_left (by omega)] at hj hR'
  obtain ⟨k1,k2⟩:=h4 j cs' R' hj hR'
  exact ⟨k1,key _ _ k2⟩
 ·rw [List.getElem?_append_right (by omega)] at hj hR'
  have hj0:j - l.length=0:=by
   have:=(List.getElem?_eq_some_iff.1 hR').1
   simp at this
   omega
  rw [h1,hj0] at hj
  rw [hj0] at hR'
  simp only [List.getElem?_cons_zero,Option.some.injEq] at hj hR'
  subst hj
  subst hR'
  exact ⟨hc,key _ _ hR⟩
theorem set9_append (p:List Value) (a0 a1 a2 a3 a4 a5 a6 a7 a8 x0 x1 x2 x3 x4 x5 x6 x7 x8:Value) {m:Nat} (hm:p.length=m) :
 (((((((((p++[a0,a1,a2,a3,a4,a5,a6,a7,a8]).set m x0).set (m+1) x1).set (m+2) x2).set (m+3) x3).set (m+4) x4).set (m+5) x5).set (m+6) x6).set (m+7) x7).set (m+8) x8=p++[x0,x1,x2,x3,x4,x5,x6,x7,x8]:=by
 subst hm
 have e:∀ (l:List Value) (j:Nat) (u:Value),(p++l).set (p.length+j) u=p++l.set j u:=fun l j u=>by
  rw [List.set_append_right _ _ (by omega),Nat.add_sub_cancel_left]
 have e0:∀ (l:List Value) (u:Value),(p++l).set p.length u=p++l.set 0 u:=fun l u=>e l 0 u
 simp only [e0,e,List.set_cons_zero,List.set_cons_succ]
theorem KRow.fill {T:TypeId} {N:Nat→Prop} {w:World} {g cap:Nat} {l:List Qy.Reg} {R0 R:Qy.Reg} {x0 x1 x2 x3 x4 x5 x6 x7 x8:Value} (h:KRow T N w (.slice (some ⟨g,0,none⟩) (l.length+1) cap) (l++[R0]))
 (hR:RegAt w (fun q=>N q∧q≠g) [x0,x1,x2,x3,x4,x5,x6,x7,x8] R) :
 KRow T N (((((((((w.setCell ⟨g,l.length * 9,none⟩ x0).setCell ⟨g,l.length * 9+1,none⟩ x1).setCell ⟨g,l.length * 9+2,none⟩ x2).setCell ⟨g,l.length * 9+3,none⟩ x3).setCell ⟨g,l.length * 9+4,none⟩ x4).setCell ⟨g,l.length * 9+5,none⟩ x5).setCell ⟨g,l.length * 9+6,none⟩ x6).setCell ⟨g,l.length * 9+7,none⟩ x7).setCell ⟨g,l.length * 9+8,none⟩ x8) (.slice (some ⟨g,0,none⟩) (l.length+1) cap) (l++[R])∧
 w.grownBy (((((((((w.setCell ⟨g,l.length * 9,none⟩ x0).setCell ⟨g,l.length * 9+1,none⟩ x1).setCell ⟨g,l.length * 9+2,none⟩ x2).setCell ⟨g,l.length * 9+3,none⟩ x3).setCell ⟨g,l.length * 9+4,none⟩ x4).setCell ⟨g,l.length * 9+5,none⟩ x5).setCell ⟨g,l.length * 9+6,none⟩ x6).setCell ⟨g,l.length * 9+7,none⟩ x7).setCell ⟨g,l.length * 9+8,none⟩ x8) (some g):=by
 obtain ⟨css,h1,h2,h3,h4⟩:=h
 obtain ⟨pre,c0,rfl⟩:∃ pre c0,css=pre++[c0]:=by
  rcases List.eq_nil_or_concat css with e | ⟨pre,c0,e⟩
  ·rw [e] at h1;simp at h1
  ·exact ⟨pre,c0,by simpa using e⟩
 have hpl:pre.length=l.length:=by simpa using h1
 have hc0:c0.length=9:=(h4 l.length c0 R0 (by rw [← hpl];simp) (by simp)).1
 have hall:∀ c∈pre,c.length=9:=fun c hc=>by
  obtain ⟨j,hj⟩:=List.mem_iff_getElem?.1 hc
  have hjl:j<pre.length:=(List.getElem?_eq_some_iff.1 hj).1
  exact (h4 j c l[j] (by rw [List.getElem?_append_left hjl];exact hj) (by rw [List.getElem?_append_left (by omega)];exact List.getElem?_eq_getElem (by omega))).1
 have hfl:pre.flatten.length=l.length * 9:=by
  rw [← hpl]
  clear h1 h2 h3 h4 hpl
  induction pre with
  | nil=>simp
  | cons c pre ih=>
   rw [List.flatten_cons,List.length_append,hall c (by simp),ih fun x hx=>hall x (List.mem_cons_of_mem _ hx),List.length_cons]
   omega
 obtain ⟨a0,a1,a2,a3,a4,a5,a6,a7,a8,rfl⟩:∃ a0 a1 a2 a3 a4 a5 a6 a7 a8,c0=[a0,a1,a2,a3,a4,a5,a6,a7,a8]:=by
  match c0,hc0 with
  | [a0,a1,a2,a3,a4,a5,a6,a7,a8],_=>exact ⟨_,_,_,_,_,_,_,_,_,rfl⟩
 have hll:(l++[R0]).length=l.length+1:=by simp
 rw [hll,List.flatten_append,List.flatten_cons,List.flatten_nil,List.append_nil] at h2
 obtain ⟨s0,t0⟩:=h2.stored (l.length * 9) x0
 obtain ⟨s1,t1⟩:=s0.stored (l.length * 9+1) x1
 obtain ⟨s2,t2⟩:=s1.stored (l.length * 9+2) x2
 obtain ⟨s3,t3⟩:=s2.stored (l.length * 9+3) x3
 obtain ⟨s4,t4⟩:=s3.stored (l.length * 9+4) x4
 obtain ⟨s5,t5⟩:=s4.stored (l.length * 9+5) x5
 obtain ⟨s6,t6⟩:=s5.stored (l.length * 9+6) x6
 obtain ⟨s7,t7⟩:=s6.stored (l.length * 9+7) x7
 obtain ⟨s8,t8⟩:=s7.stored (l.length * 9+8) x8
 rw [set9_append _ _ _ _ _ _ _ _ _ _ _ _ _ _ _ _ _ _ _ hfl] at s8
 have tt:∀ {a b c:World},a.grownBy b (some g)→b.grownBy c (some g)→a.grownBy c (some g):=fun h k=>⟨k.os.trans h.os,k.tape.trans h.tape,k.output.trans h.output,Nat.le_trans h.size k.size,fun x hx hne=>(k.block x (Nat.lt_of_lt_of_le hx h.size) hne).trans (h.block x hx hne)⟩
 have hgr:=tt (tt (tt (tt (tt (tt (tt (tt t0 t1) t2) t3) t4) t5) t6) t7) t8
 refine ⟨⟨pre++[[x0,x1,x2,x3,x4,x5,x6,x7,x8]],by simp [hpl],?_,h3,fun j cs' R' hj hR'=>?_⟩,hgr⟩
 ·rw [List.flatten_append,List.flatten_cons,List.flatten_nil,List.append_nil,List.length_append,List.length_cons,List.length_nil]
  exact s8
 have key:∀ cs R,RegAt w (fun q=>N q∧q≠g) cs R→RegAt _ (fun q=>N q∧Value.ownBlock (.slice (some ⟨g,0,none⟩) (l.length+1) cap)≠some q) cs R:=fun cs R h=>
  RegAt.keep hgr.size (fun q hq hl=>⟨⟨hq.1,fun e=>hq.2 (by cases e;rfl)⟩,hgr.block q hl (fun e=>hq.2 (by cases e;rfl))⟩) cs R h
 rcases Nat.lt_or_ge j l.length with hlt | hge
 ·rw [List.getElem?_append_left (by omega)] at hj hR'
  obtain ⟨k1,k2⟩:=h4 j cs' R' (by rw [List.getElem?_append_left (by omega)];exact hj) (by rw [List.getElem?_append_left (by omega)];exact hR')
  exact ⟨k1,key _ _ (RegAt.keep (Nat.le_refl _) (fun q hq _=>⟨⟨hq.1,fun e=>hq.2 (by rw [e];rfl)⟩,rfl⟩) _ _ k2)⟩
 ·rw [List.getElem?_append_right (by omega)] at hj hR'
  have hj0:j - l.length=0:=by
   have:=(List.getElem?_eq_some_iff.1 hR').1
   simp at this
   omega
  rw [hpl,hj0] at hj
  rw [hj0] at hR'
  simp only [List.getElem?_cons_zero,Option.some.injEq] at hj hR'
  subst hj
  subst hR'
  exact ⟨rfl,key _ _ hR⟩
end Go.Proofs.YtmlpibdincfgbaaDoor
namespace Go.Proofs.YtmlpibdincfgbaaDoor
open Go.RowKit
set_option linter.unusedSimpArgs false
set_option linter.unusedVariables false
def CapAt (w:World) (g c:Nat):Prop:=∃ cur,w.heap[g]? = some (.cells cur 32 (0,0))∧cur.size=c * 9
theorem CapAt.uniq {w:World} {g c d:Nat} (h:CapAt w g c) (k:CapAt w g d):c=d:=by
 obtain ⟨cur,h1,h2⟩:=h
 obtain ⟨cur',k1,k2⟩:=k
 rw [h1] at k1
 cases k1
 omega
theorem CapAt.keep {w w':World} {g c:Nat} (h:CapAt w g c) (k:w'.heap[g]? = w.heap[g]?):CapAt w' g c:=by
 obtain ⟨cur,h1,h2⟩:=h
 exact ⟨cur,k.trans h1,h2⟩
theorem CapAt.set_ {w:World} {g c:Nat} (h:CapAt w g c) (j:Nat) (u:Value):CapAt (w.setCell ⟨g,j,none⟩ u) g c:=by
 obtain ⟨cur,h1,h2⟩:=h
 exact ⟨_,heap_setCell_same w g j cur _ u h1,by simpa using h2⟩
theorem KRow.cap {N:Nat→Prop} {w:World} {g m c:Nat} {l:List Qy.Reg} (h:KRow 32 N w (.slice (some ⟨g,0,none⟩) m c) l):CapAt w g c:=by
 obtain ⟨css,h1,h2,h3,h4⟩:=h
 rcases h2.2 with ⟨e,_⟩ | ⟨g',cap,cur,e,_,hg,_,_,hcs,_⟩
 ·cases e
 ·cases e
  exact ⟨cur,hg,hcs⟩
structure JS (T3 T4:TypeId) (g4 g3 gx n:Nat) (rv:Value) (kc:List Value) (N:Nat→Prop) (w0 W:World) (acc:List Qy.Reg) (R:Qy.Reg) (D:Nat→Prop) (wz:World):Prop where
 at_:At2 g4 rv.ownBlock w0 wz
 sz:W.heap.size≤wz.heap.size
 s0:¬ D 3→wz.heap.size=W.heap.size
 s1:D 3→¬ D 4→wz.heap.size=W.heap.size+1
 o4:¬ D 7→Own wz g4 T4 [rv]
 o7:D 7→∃ c,CapAt wz gx c∧Own wz g4 T4 [.slice (some ⟨gx,0,none⟩) (n+1) c]
 o3:Own wz g3 T3 kc
 row:¬ D 4→KRow 32 N wz rv acc
 row1:D 4→¬ D 6→∃ c,KRow 32 N wz (.slice (some ⟨gx,0,none⟩) (n+1) c) (acc++[Qy.wholeR])
 row2:D 6→∃ c,KRow 32 N wz (.slice (some ⟨gx,0,none⟩) (n+1) c) (acc++[R])
section
variable {T3 T4:TypeId} {g4 g3 gx n:Nat} {rv:Value} {kc:List Value} {N:Nat→Prop} {w0 W:World} {acc:List Qy.Reg} {R:Qy.Reg} {D:Nat→Prop} {wz wy:World} {i:Nat}
theorem or_ne {D:Nat→Prop} {i j:Nat} (h:i≠j):(D j∨j=i)↔D j:=⟨fun k=>k.resolve_right fun e=>h e.symm,.inl⟩
theorem JS.pure (h:JS T3 T4 g4 g3 gx n rv kc N w0 W acc R D wz) (h3:i≠3) (h4:i≠4) (h6:i≠6) (h7:i≠7):JS T3 T4 g4 g3 gx n rv kc N w0 W acc R (fun k=>D k∨k=i) wz:=
 ⟨h.at_,h.sz,fun hn=>h.s0 fun hd=>hn (.inl hd),fun hd hn=>h.s1 ((or_ne h3).1 hd) fun hx=>hn (.inl hx),fun hn=>h.o4 fun hd=>hn (.inl hd),fun hd=>h.o7 ((or_ne h7).1 hd),h.o3,fun hn=>h.row fun hd=>hn (.inl hd),fun hd hn=>h.row1 ((or_ne h4).1 hd) fun hx=>hn (.inl hx),fun hd=>h.row2 ((or_ne h6).1 hd)⟩
theorem JS.build (h:JS T3 T4 g4 g3 gx n rv kc N w0 W acc R D wz) (hnd:¬ D 3) (hd4:¬ D 4) (hd6:¬ D 6) (hd7:¬ D 7) (o:Obj):JS T3 T4 g4 g3 gx n rv kc N w0 W acc R (fun k=>D k∨k=3) (wz.alloc o):=by
 have kb:Below wz.heap.size wz (wz.alloc o):=below_new wz o
 exact ⟨h.at_.trans (At2.of_below (o:=rv.ownBlock) kb) fun x hx=>.inl hx,Nat.le_trans h.sz kb.size,fun hn=>absurd (.inr rfl) hn,fun _ _=>by have:=h.s0 hnd;simp [this],fun _=>(h.o4 hd7).on kb,fun hd=>absurd ((or_ne (by decide)).1 hd) hd7,h.o3.on kb,fun _=>(h.row hd4).on kb,fun hd=>absurd ((or_ne (by decide)).1 hd) hd4,fun hd=>absurd ((or_ne (by decide)).1 hd) hd6⟩
theorem JS.push {c:Nat} (h:JS T3 T4 g4 g3 gx n rv kc N w0 W acc R D wz) (k:wz.grownBy wy rv.ownBlock) (h4:rv.ownBlock≠some g4) (h3:rv.ownBlock≠some g3) (hd3:D 3) (hd6:¬ D 6) (hd7:¬ D 7) (hr:KRow 32 N wy (.slice (some ⟨gx,0,none⟩) (n+1) c) (acc++[Qy.wholeR])) :
 JS T3 T4 g4 g3 gx n rv kc N w0 W acc R (fun k=>D k∨k=4) wy:=
 ⟨h.at_.trans (At2.of_grown k) fun x hx=>.inl hx,Nat.le_trans h.sz k.size,fun hn=>absurd (.inl hd3) hn,fun _ hn=>absurd (.inr rfl) hn,fun _=>(h.o4 hd7).grown k (fun e=>h4 e.symm),fun hd=>absurd ((or_ne (by decide)).1 hd) hd7,h.o3.grown k (fun e=>h3 e.symm),fun hn=>absurd (.inr rfl) hn,fun _ _=>⟨c,hr⟩,fun hd=>absurd ((or_ne (by decide)).1 hd) hd6⟩
theorem JS.fill {c:Nat} (h:JS T3 T4 g4 g3 gx n rv kc N w0 W acc R D wz) (k:wz.grownBy wy (some gx)) (h4:gx≠g4) (h3:gx≠g3) (hd3:D 3) (hd4:D 4) (hgx:rv.ownBlock=some gx∨W.heap.size≤gx) (hW:w0.heap.size≤W.heap.size) (hcap:∀ d,CapAt wz gx d→CapAt wy gx d) (hr:KRow 32 N wy (.slice (some ⟨gx,0,none⟩) (n+1) c) (acc++[R])) :
 JS T3 T4 g4 g3 gx n rv kc N w0 W acc R (fun k=>D k∨k=6) wy:=
 ⟨h.at_.trans (At2.of_grown k) fun x hx=>by cases hx;exact hgx.imp id fun e=>by omega,Nat.le_trans h.sz k.size,fun hn=>absurd (.inl hd3) hn,fun _ hn=>absurd (.inl hd4) hn,fun hn=>(h.o4 fun hd=>hn (.inl hd)).grown k (fun e=>h4 (by cases e;rfl)),fun hd=>by
  obtain ⟨d,h1,h2⟩:=h.o7 ((or_ne (by decide)).1 hd)
  exact ⟨d,hcap d h1,h2.grown k (fun e=>h4 (by cases e;rfl))⟩,h.o3.grown k (fun e=>h3 (by cases e;rfl)),fun hn=>absurd (.inl hd4) hn,fun _ hn=>absurd (.inr rfl) hn,fun _=>⟨c,hr⟩⟩
theorem JS.store {c:Nat} (h:JS T3 T4 g4 g3 gx n rv kc N w0 W acc R D wz) (h4:gx≠g4) (h34:g3≠g4) (hN4:¬ N g4) (hd3:D 3) (hd4:D 4) (hnd:¬ D 7) (hcap:CapAt wz gx c) :
 JS T3 T4 g4 g3 gx n rv kc N w0 W acc R (fun k=>D k∨k=7) (wz.setCell ⟨g4,0,none⟩ (.slice (some ⟨gx,0,none⟩) (n+1) c)):=by
 have hk:=At1.set_ (r:=g4) wz (p:=⟨g4,0,none⟩) rfl (.slice (some ⟨gx,0,none⟩) (n+1) c)
 have hgl:gx<wz.heap.size:=by obtain ⟨cur,h1,_⟩:=hcap;exact heap_lt h1
 exact ⟨h.at_.trans (At2.of_at1 (o:=none) hk) (fun x hx=>by cases hx),Nat.le_trans h.sz hk.size,fun hn=>absurd (.inl hd3) hn,fun _ hn=>absurd (.inl hd4) hn,fun hn=>absurd (.inr rfl) hn,fun _=>⟨c,hcap.keep (hk.heap hgl h4),(h.o4 hnd).set_ 0 _⟩,h.o3.at1 hk h34,fun hn=>absurd (.inl hd4) hn,
  fun _ hn=>by obtain ⟨d,hd⟩:=h.row1 hd4 fun hx=>hn (.inl hx);exact ⟨d,hd.at1 hk hN4⟩,fun hd=>by obtain ⟨d,hd⟩:=h.row2 ((or_ne (by decide)).1 hd);exact ⟨d,hd.at1 hk hN4⟩⟩
end
def sZ9 (W:World):SpecE:=sE fun v w=>∃ x:Nat,v=.slice (some ⟨x,0,none⟩) 1 1∧x=W.heap.size∧Own w x 32 zcells
theorem sZ9_grown {W w w':World} {o:Option Nat} {v:Value} (h:(sZ9 W).p v w) (k:w.grownBy w' o) (ho:o≠some W.heap.size):(sZ9 W).p v w':=by
 obtain ⟨x,e,hx,hO⟩:=h
 exact ⟨x,e,hx,hO.grown k fun e2=>ho (by rw [← e2,hx])⟩
def sCp (gx n:Nat):SpecE:=sE fun v w=>∃ c:Nat,v=.slice (some ⟨gx,0,none⟩) (n+1) c∧CapAt w gx c
theorem UpS8 {a0 a1 a2 b0:Value} {s3 s4:SpecE} {D:Nat→Prop} {w w':World} (u3:D 3→∀ x,s3.p x w→s3.p x w') (u4:D 4→∀ x,s4.p x w→s4.p x w') :
 UpD [Spec.eq a0,Spec.eq a1,Spec.eq a2,s3,s4,Spec.eq b0,Spec.any,Spec.any] D w w':=by
 intro k s hD hs
 match k,hD,hs with
 | 0,_,hs=>cases hs;exact fun _ h=>h
 | 1,_,hs=>cases hs;exact fun _ h=>h
 | 2,_,hs=>cases hs;exact fun _ h=>h
 | 3,hD,hs=>cases hs;exact u3 hD
 | 4,hD,hs=>cases hs;exact u4 hD
 | 5,_,hs=>cases hs;exact fun _ h=>h
 | 6,_,hs=>cases hs;exact fun _ h=>h
 | 7,_,hs=>cases hs;exact fun _ h=>h
 | k+8,_,hs=>cases hs
theorem zcells_one:∀ u∈zcells,u.oneCell'=true:=by
 intro u hu
 simp only [zcells,List.mem_cons,List.not_mem_nil,or_false] at hu
 rcases hu with rfl | rfl | rfl | rfl | rfl | rfl | rfl | rfl | rfl <;> rfl
theorem owns_form {w:World} {B:Nat} {e:TypeId} {sz:Nat} {v:Value} {n g:Nat} {xs:List Value} (h:w.ownsRow B e sz v n xs) (hg:v.ownBlock=some g):∃ c,v=.slice (some ⟨g,0,none⟩) n c:=by
 rcases h.2 with ⟨rfl,_⟩ | ⟨g',cap,cur,rfl,_⟩
 ·cases hg
 ·cases hg
  exact ⟨cap,rfl⟩
theorem KRow.cells_ {T:TypeId} {N:Nat→Prop} {w:World} {g m cap:Nat} {l:List Qy.Reg} (h:KRow T N w (.slice (some ⟨g,0,none⟩) m cap) l) (hm:l.length=m) :
 (∀ j,j<m * 9→∃ u,w.cell? ⟨g,j,none⟩=some u)∧∀ j,w.frozen? ⟨g,j,none⟩=false:=by
 subst hm
 obtain ⟨css,h1,h2,h3,h4⟩:=h
 refine ⟨fun j hj=>?_,fun j=>h2.frozenAt j⟩
 rw [h2.cellAt j hj]
 exact ⟨_,List.getElem?_eq_getElem (by rw [h2.1];exact hj)⟩
theorem KRow.place {T:TypeId} {N:Nat→Prop} {w:World} {A:Option Addr} {n c W:Nat} {l:List Qy.Reg} (h:KRow T N w (.slice A n c) l):∃ gx,(if n+1≤capOf (.slice A n c) then (Value.slice A n c).ownBlock else some (W+1))=some gx∧((Value.slice A n c).ownBlock=some gx∨gx=W+1):=by
 obtain ⟨css,h1,h2,h3,h4⟩:=h
 rcases h2.2 with ⟨e,_⟩ | ⟨g,cap,cur,e,_⟩
 ·cases e
  exact ⟨W+1,rfl,.inr rfl⟩
 ·cases e
  by_cases hr:l.length+1≤c
  ·exact ⟨g,by rw [show capOf (.slice (some ⟨g,0,none⟩) l.length c)=c from rfl,if_pos hr];rfl,.inl rfl⟩
  ·exact ⟨W+1,by rw [show capOf (.slice (some ⟨g,0,none⟩) l.length c)=c from rfl,if_neg hr],.inr rfl⟩
def AddP (K:Int) (g4:Nat) (T4:TypeId) (rv:Value) (N:Nat→Prop) (acc:List Qy.Reg) (R:Qy.Reg) (w:World) (e:Ending) (w':World):Prop:=
 e=.returned (.tuple #[])∧∃ rv',Own w' g4 T4 [rv']∧KRow 32 N w' rv' (Qy.addP K acc R)∧At2 g4 rv.ownBlock w w'∧(rv'.ownBlock=rv.ownBlock∨∃ g,rv'.ownBlock=some g∧w.heap.size≤g)
theorem add_same {K:Int} {acc:List Qy.Reg} {R:Qy.Reg} (h:(acc.any fun x=>Qy.sameR x R)=true):Qy.addP K acc R=acc:=by unfold Qy.addP;rw [h];rfl
theorem add_whole {K:Int} {acc:List Qy.Reg} {R:Qy.Reg} (h5:K≠5) (h:Qy.wholeB R=true):Qy.addP K acc R=acc:=by unfold Qy.addP;rw [h];simp [h5]
theorem add_new {K:Int} {acc:List Qy.Reg} {R:Qy.Reg} (h:(acc.any fun x=>Qy.sameR x R)=false) (hw:K=5∨Qy.wholeB R=false):Qy.addP K acc R=acc++[R]:=by
 unfold Qy.addP
 rw [h]
 rcases hw with e | e
 ·simp [e]
 ·simp [e]
set_option maxRecDepth 100000 in
set_option maxHeartbeats 3200000 in
theorem add4_any {w:World} {g4 g1:Nat} {T4:TypeId} {rv:Value} {acc:List Qy.Reg} {R:Qy.Reg} {v:Value} {N:Nat→Prop} (hO:Own w g4 T4 [rv]) (hrow:KRow 32 N w rv acc) (h1:w.cell? ⟨g1,0,none⟩=some (.int .i64 4)) (l1:g1<w.heap.size)
 (hv:∃ cs,v=.agg cs.toArray∧RegAt w (fun g=>N g∧rv.ownBlock≠some g) cs R) (hn4:¬ N g4) (hnew:∀ g,w.heap.size≤g→N g) (hb:Qy.nodes R≤1000000) (hbl:acc.length≤900000) (hbn:∀ x∈acc,Qy.nodes x≤1000000) :
 Calls Tryd.prog 71 #[v,.pointer (some ⟨g4,0,none⟩),.pointer (some ⟨g1,0,none⟩)] w (AddP 4 g4 T4 rv N acc R w):=by
 obtain ⟨cs,rfl,hR⟩:=hv
 obtain ⟨Ax,cx,rfl,hKx⟩:=hR.cells
 obtain ⟨n0,s1,n2,n3,n4,n5,n6,n7,l8,ec⟩:=regCells_parts R Ax cx
 obtain ⟨A8,rfl⟩:∃ A,A=Ax:=⟨_,rfl⟩
 obtain ⟨c8,rfl⟩:∃ c,c=cx:=⟨_,rfl⟩
 rw [ec] at hR ⊢
 obtain ⟨A3,n,c3,hrv,hnl⟩:∃ A3 n c3,rv=.slice A3 n c3∧acc.length=n:=by
  obtain ⟨A,c,e,_⟩:=hrow.kids
  exact ⟨A,_,c,e,rfl⟩
 subst hrv
 have HAL:=Lib.hid hnl
 have hn9:n≤900000:=by omega
 have hown:=hrow.own
 have HR4:Hid ((Value.slice A3 n c3).ownBlock≠some g4):=Lib.hid fun e=>hn4 (hown g4 e).1
 have HNW:=Lib.hid hnew
 have HN4:=Lib.hid hn4
 have HOW:=Lib.hid hown
 have HREG:=Lib.hid hR
 have HOR:=Lib.hid (And.intro hO hrow)
 have HBN:=Lib.hid (And.intro hb hbn)
 have H1:=Lib.hid (And.intro h1 l1)
 have hmf:∀ (fn:Fn) (first cap:Array Value) (w:World),(Instr.makeFunc fn first cap).run Tryd.prog w=.ok (.func fn first cap) w:=fun _ _ _ _=>rfl
 clear hO hrow h1 l1 hR hn4 hnew hb hbl hbn hnl ec hKx hown
 go_enter Tryd.func71,Tryd.ntmps71
 go_upto_region 1 with fail
 refine wp_new1 fun W0 hA hB=>?_
 obtain ⟨g3,hg3⟩:∃ g3,w.heap.size=g3:=⟨_,rfl⟩
 have HG3:=Lib.hid hg3
 rw [hg3] at hA ⊢
 obtain ⟨T3,hT3⟩:∃ T,T=32:=⟨_,rfl⟩
 have HA:=Lib.hid hA
 have HB:=Lib.hid hB
 obtain ⟨A9,c9,e9,hkids⟩:=HOR.out.2.kids
 obtain ⟨hA9,hc9⟩:A9=A3∧c9=c3:=by cases e9;exact ⟨rfl,rfl⟩
 subst hA9 hc9
 have HC:Hid (Calls Tryd.prog 74 #[.slice A9 n c9,.func (.func 72) #[] #[.pointer (some ⟨g3,0,none⟩)]] W0 (RetB W0 (acc.any fun x=>Qy.sameR x R))):=Lib.hid (by
  have h9:=containsS (c:=c9) (p:=fun x=>Qy.sameR x R) (l:=acc) (g:=g3) (w:=W0) (by rw [HAL.out];omega) (fun R' hR' v' u hu hv'=>same1_any (HBN.out.2 R' hR') HBN.out.1 hv' (HA.out.on hu) ((HREG.out.on HB.out).on hu)) (hkids.on HB.out)
  rw [HAL.out] at h9
  exact h9)
 obtain ⟨E,hE⟩:∃ E,(acc.any fun x=>Qy.sameR x R)=E:=⟨_,rfl⟩
 rw [hE] at HC
 have HE:=Lib.hid hE
 have hO4:=HOR.out.1.on HB.out
 have z4:=hO4.c0
 clear hA hB e9 hkids hE hg3 hO4
 go_wp2_with fail
 refine HC.out.mono ?_
 rintro e w1 ⟨rfl,k1⟩
 have hB1:=Below.call HB.out k1
 have HB1:=Lib.hid hB1
 have HA1:=Lib.hid (HA.out.on k1)
 have HO1:=Lib.hid (And.intro (HOR.out.1.on hB1) (HOR.out.2.on hB1))
 have z1:w1.cell? ⟨g1,0,none⟩=some (.int .i64 4):=(hB1.cell (p:=⟨g1,0,none⟩) H1.out.2).trans H1.out.1
 clear k1 z4 hB1 HC
 cases E
 rotate_left
 ·have HF:Hid (Qy.addP 4 acc R=acc):=Lib.hid (add_same HE.out)
  obtain ⟨⟨y0,y1,y2,y3,y4,y5,y6,y7,y8⟩,_⟩:=HA1.out.all9
  go_wp2
  exact bodyPost_end (results_none Tryd.results71 _ _ _) rfl ⟨rfl,_,HO1.out.1,by rw [HF.out];exact HO1.out.2,At2.of_below HB1.out,.inl rfl⟩
 obtain ⟨wb,hwb⟩:∃ b,Qy.wholeB R=b:=⟨_,rfl⟩
 have HWC:Hid (∀ u,Below w.heap.size w u→Calls Tryd.prog 69 #[.agg #[.int .i64 n0,.string s1,.int .i64 n2,.int .i64 n3,.int .i64 n4,.int .i64 n5,.int .i64 n6,.int .i64 n7,.slice A8 l8 c8]] u (RetB u wb)):=Lib.hid fun u hu=>hwb▸whole_any (HREG.out.on hu).isReg
 have HWB:=Lib.hid hwb
 clear hwb
 obtain ⟨⟨y0,y1,y2,y3,y4,y5,y6,y7,y8⟩,_⟩:=HA1.out.all9
 go_wp2_with fail
 refine (HWC.out _ HB1.out).mono ?_
 rintro e w2 ⟨rfl,k2⟩
 clear y0 y1 y2 y3 y4 y5 y6 y7 y8 z1 HWC
 have hB5:=Below.call HB1.out k2
 have hA5:=HA1.out.on k2
 have hO5:=HO1.out.1.on k2
 have hR5:=HO1.out.2.on k2
 cases wb
 rotate_left
 ·have HF:Hid (Qy.addP 4 acc R=acc):=Lib.hid (add_whole (by decide) HWB.out)
  have HX:=Lib.hid (And.intro hO5 (And.intro hR5 hB5))
  clear hB5 hA5 hO5 hR5 k2
  go_wp2
  exact bodyPost_end (results_none Tryd.results71 _ _ _) rfl ⟨rfl,_,HX.out.1,by rw [HF.out];exact HX.out.2.1,At2.of_below HX.out.2.2,.inl rfl⟩
 have HF:Hid (Qy.addP 4 acc R=acc++[R]):=Lib.hid (add_new HE.out (.inr HWB.out))
 clear k2
 go_upto_region 3 with fail
 obtain ⟨w5,hw5⟩:∃ w5,w5=w2:=⟨_,rfl⟩
 subst hw5
 have hs5:=hB5.size
 obtain ⟨gx,hgx,hgx2⟩:=hR5.place (W:=w5.heap.size)
 have HG:=Lib.hid hgx
 have hg3l:=hA5.lt
 have HR3:Hid ((Value.slice A9 n c9).ownBlock≠some g3):=Lib.hid fun e=>by have h8:=(HOW.out g3 e).2;have h9:=HG3.out;omega
 have HR5:Hid ((Value.slice A9 n c9).ownBlock≠some w5.heap.size):=Lib.hid fun e=>by have h8:=(HOW.out _ e).2;omega
 have hNW5:∀ g,w5.heap.size≤g→N g:=fun g hg=>HNW.out g (Nat.le_trans hs5 hg)
 replace HNW:=Lib.hid hNW5
 have HRF:Hid (RegAt w5 (fun g=>N g∧(Value.slice A9 n c9).ownBlock≠some g) [.int .i64 n0,.string s1,.int .i64 n2,.int .i64 n3,.int .i64 n4,.int .i64 n5,.int .i64 n6,.int .i64 n7,.slice A8 l8 c8] R):=Lib.hid (HREG.out.on hB5)
 have kd:=Below.drew (Below.refl w5.heap.size w5)
 obtain ⟨A3,hA3⟩:∃ A,A=A9:=⟨_,rfl⟩
 obtain ⟨c3,hc3⟩:∃ c,c=c9:=⟨_,rfl⟩
 subst hA3 hc3
 have hJ0:JS T3 T4 g4 g3 gx n (.slice A3 n c3) [.int .i64 n0,.string s1,.int .i64 n2,.int .i64 n3,.int .i64 n4,.int .i64 n5,.int .i64 n6,.int .i64 n7,.slice A8 l8 c8] N w w5 acc R (fun _=>False) w5.drew:=⟨At2.of_below (Below.call hB5 kd),Nat.le_refl _,fun _=>rfl,fun h=>h.elim,fun _=>hO5.on kd,fun h=>h.elim,by rw [hT3];exact hA5.on kd,fun _=>hR5.on kd,fun h=>h.elim,fun h=>h.elim⟩
 have HB5:=Lib.hid hB5
 have hgl4:g4<w.heap.size:=HOR.out.1.lt
 have hg3w:=HG3.out
 have hgx2':(Value.slice A3 n c3).ownBlock=some gx∨w5.heap.size≤gx:=hgx2.imp id fun e=>by omega
 have HGX:=Lib.hid hgx2'
 have HX4:Hid (gx≠g4):=Lib.hid fun e=>by
  rcases hgx2 with h9 | h9
  ·exact HR4.out (by rw [h9,e])
  ·omega
 have HX3:Hid (gx≠g3):=Lib.hid fun e=>by
  rcases hgx2 with h9 | h9
  ·exact HR3.out (by rw [h9,e])
  ·omega
 have HXW:Hid (gx≠w5.heap.size∧g4≠w5.heap.size∧g3≠g4):=Lib.hid ⟨fun e=>by
  rcases hgx2 with h9 | h9
  ·have h8:=HOW.out gx h9;have h7:=h8.2;omega
  ·omega,by omega,by omega⟩
 have HLEN:Hid ((acc++[Qy.wholeR]).length=n+1):=Lib.hid (by rw [List.length_append,HAL.out];rfl)
 have HRZ:Hid (∀ wz,At2 g4 (Value.slice A3 n c3).ownBlock w wz→RegAt wz (fun q=>N q∧q≠gx) [.int .i64 n0,.string s1,.int .i64 n2,.int .i64 n3,.int .i64 n4,.int .i64 n5,.int .i64 n6,.int .i64 n7,.slice A8 l8 c8] R):=Lib.hid fun wz h7=>by
  refine RegAt.keep (w:=w) (S:=fun q=>N q∧(Value.slice A3 n c3).ownBlock≠some q) h7.size (fun q hq hl=>⟨⟨hq.1,fun e=>?_⟩,h7.block q hl (fun e=>HN4.out (e▸hq.1)) hq.2⟩) _ _ HREG.out
  rcases hgx2 with h9 | h9
  ·exact hq.2 (by rw [h9,e])
  ·omega
 have HW5:=Lib.hid hs5
 clear hB5 hA5 hO5 hR5 hs5 hgx kd hNW5 hgx2 hgx2' hgl4 hg3w hg3l hT3
 refine wp_region_allA (JS T3 T4 g4 g3 gx n (.slice A3 n c3) [.int .i64 n0,.string s1,.int .i64 n2,.int .i64 n3,.int .i64 n4,.int .i64 n5,.int .i64 n6,.int .i64 n7,.slice A8 l8 c8] N w w5 acc R) [Spec.eq (.slice A3 n c3),Spec.eq (.agg #[.int .i64 n0,.string s1,.int .i64 n2,.int .i64 n3,.int .i64 n4,.int .i64 n5,.int .i64 n6,.int .i64 n7,.slice A8 l8 c8]),Spec.eq (.int .i64 (n:Int)),sZ9 w5,sCp gx n,Spec.eq (.pointer (some ⟨gx,n * 9,none⟩)),Spec.any ,Spec.any ]
  (by kernel_rfl) (by kernel_rfl) rfl (by kernel_rfl) hJ0 ?_ ?_
 ·
  refine RegStepsA.cons ?_ ?_
  ·intro DD az wz hcl hw hnd hC hdf hF hD K hK;replace hdf:=Lib.hid hdf
   have q1:az.tmps[1]? = some (.pointer (some ⟨g4,0,none⟩)):=hF 1 rfl
   have h70:¬ DD 7:=fun h=>hnd (hcl 4 _ rfl (hcl 7 _ rfl h 4 rfl) 0 rfl)
   have z8:wz.cell? ⟨g4,0,none⟩=some (.slice A3 n c3):=(hC.o4 h70).cell 0
   clear hF hD
   refine want_none rfl ?_
   go_simp
   exact hK _ _ (hC.pure (by decide) (by decide) (by decide) (by decide)) UpD.refl rfl
  refine RegStepsA.cons ?_ ?_
  ·intro DD az wz hcl hw hnd hC hdf hF hD K hK;replace hdf:=Lib.hid hdf
   have q3:az.tmps[3]? = some (.pointer (some ⟨g3,0,none⟩)):=hF 3 rfl
   obtain ⟨⟨y0,y1,y2,y3,y4,y5,y6,y7,y8⟩,_⟩:=hC.o3.all9
   clear hF hD
   refine want_none rfl ?_
   go_simp
   exact hK _ _ (hC.pure (by decide) (by decide) (by decide) (by decide)) UpD.refl rfl
  refine RegStepsA.cons ?_ ?_
  ·intro DD az wz hcl hw hnd hC hdf hF hD K hK;replace hdf:=Lib.hid hdf
   obtain ⟨_,q20,rfl⟩:=dep hD 0 rfl rfl rfl rfl
   clear hF hD
   refine want_none rfl ?_
   go_simp
   exact hK _ _ (hC.pure (by decide) (by decide) (by decide) (by decide)) UpD.refl rfl
  refine RegStepsA.cons ?_ ?_
  ·intro DD az wz hcl hw hnd hC hdf hF hD K hK;replace hdf:=Lib.hid hdf
   have h43:¬ DD 4:=fun h=>hnd (hcl 4 _ rfl h 3 rfl)
   have h63:¬ DD 6:=fun h=>h43 (hcl 6 _ rfl h 4 rfl)
   have h73:¬ DD 7:=fun h=>h43 (hcl 7 _ rfl h 4 rfl)
   have HP:=Lib.hid (hC.build hnd h43 h63 h73 (.cells zcells.toArray 32))
   have HO:=Lib.hid (Own.new wz 32 zcells)
   have HZ:=Lib.hid (hC.s0 hnd)
   have HND:=Lib.hid (And.intro hnd h43)
   clear hF hD hC hcl hw hnd h43 h63 h73
   refine want_none rfl ?_
   go_simp
   exact hK _ _ HP.out (UpS8 (fun h=>absurd h HND.out.1) (fun h=>absurd h HND.out.2)) ⟨wz.heap.size,rfl,HZ.out,HO.out⟩
  refine RegStepsA.cons ?_ ?_
  ·intro DD az wz hcl hw hnd hC hdf hF hD K hK;replace hdf:=Lib.hid hdf
   obtain ⟨_,q20,rfl⟩:=dep hD 0 rfl rfl rfl rfl
   obtain ⟨_,q23,x23,rfl,hx23⟩:=dep hD 3 rfl rfl rfl rfl
   obtain ⟨hs1,ho9⟩:=hx23
   have hd3:=hw 3 rfl
   have hd6:¬ DD 6:=fun h=>hnd (hcl 6 _ rfl h 4 rfl)
   have hd7:¬ DD 7:=fun h=>hnd (hcl 7 _ rfl h 4 rfl)
   clear hF hD
   refine want_none rfl ?_
   obtain ⟨css,p1,p2,p4,p3⟩:=hC.row hnd
   rw [HAL.out] at p2
   have hsz:wz.heap.size=w5.heap.size+1:=hC.s1 hd3 hnd
   obtain ⟨i0_,hi_,hz0,hz1,hz2⟩:=info_parts reg_info
   refine oper_pushR _ _ _ 30 rfl 32 i0_ (.agg #[.int .i64 0,.string ⟨#[]⟩,.int .i64 0,.int .i64 0,.int .i64 0,.int .i64 0,.int .i64 0,.int .i64 0,.slice none 0 0]) 9 96 Tryd.underlying30 hi_ hz0 hz1 hz2 rfl (by decide) 0 _ _ _ (by simp [Act.eval,q20]) p2 ⟨x23,0,none⟩ 1 zcells (by simp [Act.eval,q23]) rfl (own_news ho9) zcells_one (by unfold maxLen;omega) (by omega) (Nat.zero_le _) ?_
   intro v' w' hrow3 hgrow hv'
   rw [hsz] at hv'
   have hgx:v'.ownBlock=some gx:=hv'.trans HG.out
   have hvo:v'.ownBlock=(Value.slice A3 n c3).ownBlock∨v'.ownBlock=some wz.heap.size:=by rw [hsz,hv'];split;exact .inl rfl;exact .inr rfl
   have hrow4:=KRow.push2 p1 p4 p3 rfl (zcells_reg wz _) (HNW.out _ (by omega)) (by rw [HAL.out];exact hrow3) hgrow hvo
   obtain ⟨c',rfl⟩:=owns_form hrow3 hgx
   exact hK _ _ (hC.push hgrow HR4.out HR3.out hd3 hd6 hd7 hrow4) (UpS8 (fun _ _ hx=>sZ9_grown hx hgrow HR5.out) (fun h=>absurd h hnd)) ⟨c',rfl,hrow4.cap⟩
  refine RegStepsA.cons ?_ ?_
  ·intro DD az wz hcl hw hnd hC hdf hF hD K hK;replace hdf:=Lib.hid hdf
   obtain ⟨_,q24,x24,rfl,hx24⟩:=dep hD 4 rfl rfl rfl rfl
   obtain ⟨_,q22,rfl⟩:=dep hD 2 rfl rfl rfl rfl
   have i0_:(0:Int)≤(n:Int):=by omega
   have i1_:(n:Int)<(n:Int)+1:=by omega
   clear hF hD
   refine want_none rfl ?_
   go_simp
   exact hK _ _ (hC.pure (by decide) (by decide) (by decide) (by decide)) UpD.refl rfl
  refine RegStepsA.cons ?_ ?_
  ·intro DD az wz hcl hw hnd hC hdf hF hD K hK;replace hdf:=Lib.hid hdf
   obtain ⟨_,q25,rfl⟩:=dep hD 5 rfl rfl rfl rfl
   obtain ⟨_,q21,rfl⟩:=dep hD 1 rfl rfl rfl rfl
   have hd4:=hw 4 rfl
   have hd3:=hcl 4 _ rfl hd4 3 rfl
   obtain ⟨c',hrow⟩:=hC.row1 hd4 hnd
   obtain ⟨hcs,hfz⟩:=hrow.cells_ HLEN.out
   obtain ⟨u0,z0⟩:=hcs (n * 9) (by omega)
   obtain ⟨u1,z1⟩:=hcs (n * 9+1) (by omega)
   obtain ⟨u2,z2⟩:=hcs (n * 9+2) (by omega)
   obtain ⟨u3,z3⟩:=hcs (n * 9+3) (by omega)
   obtain ⟨u4,z4⟩:=hcs (n * 9+4) (by omega)
   obtain ⟨u5,z5⟩:=hcs (n * 9+5) (by omega)
   obtain ⟨u6,z6⟩:=hcs (n * 9+6) (by omega)
   obtain ⟨u7,z7⟩:=hcs (n * 9+7) (by omega)
   obtain ⟨u8,z8⟩:=hcs (n * 9+8) (by omega)
   have f0:=hfz (n * 9)
   have f1:=hfz (n * 9+1)
   have f2:=hfz (n * 9+2)
   have f3:=hfz (n * 9+3)
   have f4:=hfz (n * 9+4)
   have f5:=hfz (n * 9+5)
   have f6:=hfz (n * 9+6)
   have f7:=hfz (n * 9+7)
   have f8:=hfz (n * 9+8)
   have hy25:KRow 32 N wz (.slice (some ⟨gx,0,none⟩) (acc.length+1) c') (acc++[Qy.wholeR]):=by rw [HAL.out];exact hrow
   obtain ⟨hF1,hF2⟩:=hy25.fill (HRZ.out wz hC.at_)
   rw [HAL.out] at hF1 hF2
   have hcap:∀ d,CapAt wz gx d→CapAt _ gx d:=fun d hd=>((((((((hd.set_ (n * 9) (.int .i64 n0)).set_ (n * 9+1) (.string s1)).set_ (n * 9+2) (.int .i64 n2)).set_ (n * 9+3) (.int .i64 n3)).set_ (n * 9+4) (.int .i64 n4)).set_ (n * 9+5) (.int .i64 n5)).set_ (n * 9+6) (.int .i64 n6)).set_ (n * 9+7) (.int .i64 n7)).set_ (n * 9+8) (.slice A8 l8 c8)
   have HP:=Lib.hid (hC.fill hF2 HX4.out HX3.out hd3 hd4 HGX.out HW5.out hcap hF1)
   have HU:=Lib.hid (And.intro hF2 hcap)
   clear hF hD hC hcl hw hnd hd3 hd4 hrow hcs hfz hy25 hF1 hF2 hcap
   refine want_none rfl ?_
   go_simp
   exact hK undef _ HP.out (UpS8 (fun _ _ hx=>sZ9_grown hx HU.out.1 (fun e=>HXW.out.1 (by cases e;rfl))) (fun _ _ hx=>by obtain ⟨c9,e9,h9⟩:=hx;exact ⟨c9,e9,HU.out.2 _ h9⟩)) trivial
  refine RegStepsA.cons ?_ ?_
  ·intro DD az wz hcl hw hnd hC hdf hF hD K hK;replace hdf:=Lib.hid hdf
   have q1:az.tmps[1]? = some (.pointer (some ⟨g4,0,none⟩)):=hF 1 rfl
   obtain ⟨_,q24,x24,rfl,hx24⟩:=dep hD 4 rfl rfl rfl rfl
   have hd4:=hw 4 rfl
   have hd3:=hcl 4 _ rfl hd4 3 rfl
   have hO4:=hC.o4 hnd
   have z0:=hO4.cell 0
   have f0:=hO4.frozen 0
   have HP:=Lib.hid (hC.store HX4.out HXW.out.2.2 HN4.out hd3 hd4 hnd hx24)
   have HK:=Lib.hid (At1.set_ (r:=g4) wz (p:=⟨g4,0,none⟩) rfl (.slice (some ⟨gx,0,none⟩) (n+1) x24))
   clear hF hD hC hcl hw hnd hd3 hd4 hO4 hx24
   refine want_none rfl ?_
   go_simp
   exact hK undef _ HP.out (UpS8 (fun _ _ hx=>sZ9_grown hx HK.out (fun e=>HXW.out.2.1 (by cases e;rfl))) (fun _ _ hx=>by obtain ⟨c9,e9,h9⟩:=hx;exact ⟨c9,e9,h9.keep (HK.out.heap (by obtain ⟨_,h8,_⟩:=h9;exact heap_lt h8) HX4.out)⟩)) trivial
  exact RegStepsA.nil
 intro w6 hJ
 rintro _ rfl _ rfl _ rfl _ ⟨y23,rfl,_⟩ _ ⟨y24,rfl,_⟩ _ rfl _ hs6 _ hs7
 simp only [FinOK,Act.put,List.setIfInBounds_toArray,List.set_cons_zero,List.set_cons_succ]
 obtain ⟨d7,hcap7,hO7⟩:=hJ.o7 (by decide)
 obtain ⟨d6,hrow6⟩:=hJ.row2 (by decide)
 obtain rfl:=CapAt.uniq hrow6.cap hcap7
 have hat:=hJ.at_
 refine bodyPost_end (results_none Tryd.results71 _ _ _) rfl ⟨rfl,_,hO7,by rw [HF.out];exact hrow6,hat,?_⟩
 rcases HGX.out with h9 | h9
 ·exact .inl h9.symm
 ·exact .inr ⟨gx,rfl,Nat.le_trans HW5.out h9⟩
set_option maxRecDepth 100000 in
set_option maxHeartbeats 3200000 in
theorem add5_any {w:World} {g4 g1:Nat} {T4:TypeId} {rv:Value} {acc:List Qy.Reg} {R:Qy.Reg} {v:Value} {N:Nat→Prop} (hO:Own w g4 T4 [rv]) (hrow:KRow 32 N w rv acc) (h1:w.cell? ⟨g1,0,none⟩=some (.int .i64 5)) (l1:g1<w.heap.size)
 (hv:∃ cs,v=.agg cs.toArray∧RegAt w (fun g=>N g∧rv.ownBlock≠some g) cs R) (hn4:¬ N g4) (hnew:∀ g,w.heap.size≤g→N g) (hb:Qy.nodes R≤1000000) (hbl:acc.length≤900000) (hbn:∀ x∈acc,Qy.nodes x≤1000000) :
 Calls Tryd.prog 71 #[v,.pointer (some ⟨g4,0,none⟩),.pointer (some ⟨g1,0,none⟩)] w (AddP 5 g4 T4 rv N acc R w):=by
 obtain ⟨cs,rfl,hR⟩:=hv
 obtain ⟨Ax,cx,rfl,hKx⟩:=hR.cells
 obtain ⟨n0,s1,n2,n3,n4,n5,n6,n7,l8,ec⟩:=regCells_parts R Ax cx
 obtain ⟨A8,rfl⟩:∃ A,A=Ax:=⟨_,rfl⟩
 obtain ⟨c8,rfl⟩:∃ c,c=cx:=⟨_,rfl⟩
 rw [ec] at hR ⊢
 obtain ⟨A3,n,c3,hrv,hnl⟩:∃ A3 n c3,rv=.slice A3 n c3∧acc.length=n:=by
  obtain ⟨A,c,e,_⟩:=hrow.kids
  exact ⟨A,_,c,e,rfl⟩
 subst hrv
 have HAL:=Lib.hid hnl
 have hn9:n≤900000:=by omega
 have hown:=hrow.own
 have HR4:Hid ((Value.slice A3 n c3).ownBlock≠some g4):=Lib.hid fun e=>hn4 (hown g4 e).1
 have HNW:=Lib.hid hnew
 have HN4:=Lib.hid hn4
 have HOW:=Lib.hid hown
 have HREG:=Lib.hid hR
 have HOR:=Lib.hid (And.intro hO hrow)
 have HBN:=Lib.hid (And.intro hb hbn)
 have H1:=Lib.hid (And.intro h1 l1)
 have hmf:∀ (fn:Fn) (first cap:Array Value) (w:World),(Instr.makeFunc fn first cap).run Tryd.prog w=.ok (.func fn first cap) w:=fun _ _ _ _=>rfl
 clear hO hrow h1 l1 hR hn4 hnew hb hbl hbn hnl ec hKx hown
 go_enter Tryd.func71,Tryd.ntmps71
 go_upto_region 1 with fail
 refine wp_new1 fun W0 hA hB=>?_
 obtain ⟨g3,hg3⟩:∃ g3,w.heap.size=g3:=⟨_,rfl⟩
 have HG3:=Lib.hid hg3
 rw [hg3] at hA ⊢
 obtain ⟨T3,hT3⟩:∃ T,T=32:=⟨_,rfl⟩
 have HA:=Lib.hid hA
 have HB:=Lib.hid hB
 obtain ⟨A9,c9,e9,hkids⟩:=HOR.out.2.kids
 obtain ⟨hA9,hc9⟩:A9=A3∧c9=c3:=by cases e9;exact ⟨rfl,rfl⟩
 subst hA9 hc9
 have HC:Hid (Calls Tryd.prog 74 #[.slice A9 n c9,.func (.func 72) #[] #[.pointer (some ⟨g3,0,none⟩)]] W0 (RetB W0 (acc.any fun x=>Qy.sameR x R))):=Lib.hid (by
  have h9:=containsS (c:=c9) (p:=fun x=>Qy.sameR x R) (l:=acc) (g:=g3) (w:=W0) (by rw [HAL.out];omega) (fun R' hR' v' u hu hv'=>same1_any (HBN.out.2 R' hR') HBN.out.1 hv' (HA.out.on hu) ((HREG.out.on HB.out).on hu)) (hkids.on HB.out)
  rw [HAL.out] at h9
  exact h9)
 obtain ⟨E,hE⟩:∃ E,(acc.any fun x=>Qy.sameR x R)=E:=⟨_,rfl⟩
 rw [hE] at HC
 have HE:=Lib.hid hE
 have hO4:=HOR.out.1.on HB.out
 have z4:=hO4.c0
 clear hA hB e9 hkids hE hg3 hO4
 go_wp2_with fail
 refine HC.out.mono ?_
 rintro e w1 ⟨rfl,k1⟩
 have hB1:=Below.call HB.out k1
 have HB1:=Lib.hid hB1
 have HA1:=Lib.hid (HA.out.on k1)
 have HO1:=Lib.hid (And.intro (HOR.out.1.on hB1) (HOR.out.2.on hB1))
 have z1:w1.cell? ⟨g1,0,none⟩=some (.int .i64 5):=(hB1.cell (p:=⟨g1,0,none⟩) H1.out.2).trans H1.out.1
 clear k1 z4 hB1 HC
 cases E
 rotate_left
 ·have HF:Hid (Qy.addP 5 acc R=acc):=Lib.hid (add_same HE.out)
  obtain ⟨⟨y0,y1,y2,y3,y4,y5,y6,y7,y8⟩,_⟩:=HA1.out.all9
  go_wp2
  exact bodyPost_end (results_none Tryd.results71 _ _ _) rfl ⟨rfl,_,HO1.out.1,by rw [HF.out];exact HO1.out.2,At2.of_below HB1.out,.inl rfl⟩
 have HF:Hid (Qy.addP 5 acc R=acc++[R]):=Lib.hid (add_new HE.out (.inl rfl))
 have hB5:=HB1.out
 have hA5:=HA1.out
 have hO5:=HO1.out.1
 have hR5:=HO1.out.2
 obtain ⟨⟨y0,y1,y2,y3,y4,y5,y6,y7,y8⟩,_⟩:=HA1.out.all9
 go_upto_region 3 with fail
 clear y0 y1 y2 y3 y4 y5 y6 y7 y8 z1
 obtain ⟨w5,hw5⟩:∃ w5,w5=w1:=⟨_,rfl⟩
 subst hw5
 have hs5:=hB5.size
 obtain ⟨gx,hgx,hgx2⟩:=hR5.place (W:=w5.heap.size)
 have HG:=Lib.hid hgx
 have hg3l:=hA5.lt
 have HR3:Hid ((Value.slice A9 n c9).ownBlock≠some g3):=Lib.hid fun e=>by have h8:=(HOW.out g3 e).2;have h9:=HG3.out;omega
 have HR5:Hid ((Value.slice A9 n c9).ownBlock≠some w5.heap.size):=Lib.hid fun e=>by have h8:=(HOW.out _ e).2;omega
 have hNW5:∀ g,w5.heap.size≤g→N g:=fun g hg=>HNW.out g (Nat.le_trans hs5 hg)
 replace HNW:=Lib.hid hNW5
 have HRF:Hid (RegAt w5 (fun g=>N g∧(Value.slice A9 n c9).ownBlock≠some g) [.int .i64 n0,.string s1,.int .i64 n2,.int .i64 n3,.int .i64 n4,.int .i64 n5,.int .i64 n6,.int .i64 n7,.slice A8 l8 c8] R):=Lib.hid (HREG.out.on hB5)
 have kd:=Below.drew (Below.refl w5.heap.size w5)
 obtain ⟨A3,hA3⟩:∃ A,A=A9:=⟨_,rfl⟩
 obtain ⟨c3,hc3⟩:∃ c,c=c9:=⟨_,rfl⟩
 subst hA3 hc3
 have hJ0:JS T3 T4 g4 g3 gx n (.slice A3 n c3) [.int .i64 n0,.string s1,.int .i64 n2,.int .i64 n3,.int .i64 n4,.int .i64 n5,.int .i64 n6,.int .i64 n7,.slice A8 l8 c8] N w w5 acc R (fun _=>False) w5.drew:=⟨At2.of_below (Below.call hB5 kd),Nat.le_refl _,fun _=>rfl,fun h=>h.elim,fun _=>hO5.on kd,fun h=>h.elim,by rw [hT3];exact hA5.on kd,fun _=>hR5.on kd,fun h=>h.elim,fun h=>h.elim⟩
 have HB5:=Lib.hid hB5
 have hgl4:g4<w.heap.size:=HOR.out.1.lt
 have hg3w:=HG3.out
 have hgx2':(Value.slice A3 n c3).ownBlock=some gx∨w5.heap.size≤gx:=hgx2.imp id fun e=>by omega
 have HGX:=Lib.hid hgx2'
 have HX4:Hid (gx≠g4):=Lib.hid fun e=>by
  rcases hgx2 with h9 | h9
  ·exact HR4.out (by rw [h9,e])
  ·omega
 have HX3:Hid (gx≠g3):=Lib.hid fun e=>by
  rcases hgx2 with h9 | h9
  ·exact HR3.out (by rw [h9,e])
  ·omega
 have HXW:Hid (gx≠w5.heap.size∧g4≠w5.heap.size∧g3≠g4):=Lib.hid ⟨fun e=>by
  rcases hgx2 with h9 | h9
  ·have h8:=HOW.out gx h9;have h7:=h8.2;omega
  ·omega,by omega,by omega⟩
 have HLEN:Hid ((acc++[Qy.wholeR]).length=n+1):=Lib.hid (by rw [List.length_append,HAL.out];rfl)
 have HRZ:Hid (∀ wz,At2 g4 (Value.slice A3 n c3).ownBlock w wz→RegAt wz (fun q=>N q∧q≠gx) [.int .i64 n0,.string s1,.int .i64 n2,.int .i64 n3,.int .i64 n4,.int .i64 n5,.int .i64 n6,.int .i64 n7,.slice A8 l8 c8] R):=Lib.hid fun wz h7=>by
  refine RegAt.keep (w:=w) (S:=fun q=>N q∧(Value.slice A3 n c3).ownBlock≠some q) h7.size (fun q hq hl=>⟨⟨hq.1,fun e=>?_⟩,h7.block q hl (fun e=>HN4.out (e▸hq.1)) hq.2⟩) _ _ HREG.out
  rcases hgx2 with h9 | h9
  ·exact hq.2 (by rw [h9,e])
  ·omega
 have HW5:=Lib.hid hs5
 clear hB5 hA5 hO5 hR5 hs5 hgx kd hNW5 hgx2 hgx2' hgl4 hg3w hg3l hT3
 refine wp_region_allA (JS T3 T4 g4 g3 gx n (.slice A3 n c3) [.int .i64 n0,.string s1,.int .i64 n2,.int .i64 n3,.int .i64 n4,.int .i64 n5,.int .i64 n6,.int .i64 n7,.slice A8 l8 c8] N w w5 acc R) [Spec.eq (.slice A3 n c3),Spec.eq (.agg #[.int .i64 n0,.string s1,.int .i64 n2,.int .i64 n3,.int .i64 n4,.int .i64 n5,.int .i64 n6,.int .i64 n7,.slice A8 l8 c8]),Spec.eq (.int .i64 (n:Int)),sZ9 w5,sCp gx n,Spec.eq (.pointer (some ⟨gx,n * 9,none⟩)),Spec.any ,Spec.any ]
  (by kernel_rfl) (by kernel_rfl) rfl (by kernel_rfl) hJ0 ?_ ?_
 ·
  refine RegStepsA.cons ?_ ?_
  ·intro DD az wz hcl hw hnd hC hdf hF hD K hK;replace hdf:=Lib.hid hdf
   have q1:az.tmps[1]? = some (.pointer (some ⟨g4,0,none⟩)):=hF 1 rfl
   have h70:¬ DD 7:=fun h=>hnd (hcl 4 _ rfl (hcl 7 _ rfl h 4 rfl) 0 rfl)
   have z8:wz.cell? ⟨g4,0,none⟩=some (.slice A3 n c3):=(hC.o4 h70).cell 0
   clear hF hD
   refine want_none rfl ?_
   go_simp
   exact hK _ _ (hC.pure (by decide) (by decide) (by decide) (by decide)) UpD.refl rfl
  refine RegStepsA.cons ?_ ?_
  ·intro DD az wz hcl hw hnd hC hdf hF hD K hK;replace hdf:=Lib.hid hdf
   have q3:az.tmps[3]? = some (.pointer (some ⟨g3,0,none⟩)):=hF 3 rfl
   obtain ⟨⟨y0,y1,y2,y3,y4,y5,y6,y7,y8⟩,_⟩:=hC.o3.all9
   clear hF hD
   refine want_none rfl ?_
   go_simp
   exact hK _ _ (hC.pure (by decide) (by decide) (by decide) (by decide)) UpD.refl rfl
  refine RegStepsA.cons ?_ ?_
  ·intro DD az wz hcl hw hnd hC hdf hF hD K hK;replace hdf:=Lib.hid hdf
   obtain ⟨_,q20,rfl⟩:=dep hD 0 rfl rfl rfl rfl
   clear hF hD
   refine want_none rfl ?_
   go_simp
   exact hK _ _ (hC.pure (by decide) (by decide) (by decide) (by decide)) UpD.refl rfl
  refine RegStepsA.cons ?_ ?_
  ·intro DD az wz hcl hw hnd hC hdf hF hD K hK;replace hdf:=Lib.hid hdf
   have h43:¬ DD 4:=fun h=>hnd (hcl 4 _ rfl h 3 rfl)
   have h63:¬ DD 6:=fun h=>h43 (hcl 6 _ rfl h 4 rfl)
   have h73:¬ DD 7:=fun h=>h43 (hcl 7 _ rfl h 4 rfl)
   have HP:=Lib.hid (hC.build hnd h43 h63 h73 (.cells zcells.toArray 32))
   have HO:=Lib.hid (Own.new wz 32 zcells)
   have HZ:=Lib.hid (hC.s0 hnd)
   have HND:=Lib.hid (And.intro hnd h43)
   clear hF hD hC hcl hw hnd h43 h63 h73
   refine want_none rfl ?_
   go_simp
   exact hK _ _ HP.out (UpS8 (fun h=>absurd h HND.out.1) (fun h=>absurd h HND.out.2)) ⟨wz.heap.size,rfl,HZ.out,HO.out⟩
  refine RegStepsA.cons ?_ ?_
  ·intro DD az wz hcl hw hnd hC hdf hF hD K hK;replace hdf:=Lib.hid hdf
   obtain ⟨_,q20,rfl⟩:=dep hD 0 rfl rfl rfl rfl
   obtain ⟨_,q23,x23,rfl,hx23⟩:=dep hD 3 rfl rfl rfl rfl
   obtain ⟨hs1,ho9⟩:=hx23
   have hd3:=hw 3 rfl
   have hd6:¬ DD 6:=fun h=>hnd (hcl 6 _ rfl h 4 rfl)
   have hd7:¬ DD 7:=fun h=>hnd (hcl 7 _ rfl h 4 rfl)
   clear hF hD
   refine want_none rfl ?_
   obtain ⟨css,p1,p2,p4,p3⟩:=hC.row hnd
   rw [HAL.out] at p2
   have hsz:wz.heap.size=w5.heap.size+1:=hC.s1 hd3 hnd
   obtain ⟨i0_,hi_,hz0,hz1,hz2⟩:=info_parts reg_info
   refine oper_pushR _ _ _ 30 rfl 32 i0_ (.agg #[.int .i64 0,.string ⟨#[]⟩,.int .i64 0,.int .i64 0,.int .i64 0,.int .i64 0,.int .i64 0,.int .i64 0,.slice none 0 0]) 9 96 Tryd.underlying30 hi_ hz0 hz1 hz2 rfl (by decide) 0 _ _ _ (by simp [Act.eval,q20]) p2 ⟨x23,0,none⟩ 1 zcells (by simp [Act.eval,q23]) rfl (own_news ho9) zcells_one (by unfold maxLen;omega) (by omega) (Nat.zero_le _) ?_
   intro v' w' hrow3 hgrow hv'
   rw [hsz] at hv'
   have hgx:v'.ownBlock=some gx:=hv'.trans HG.out
   have hvo:v'.ownBlock=(Value.slice A3 n c3).ownBlock∨v'.ownBlock=some wz.heap.size:=by rw [hsz,hv'];split;exact .inl rfl;exact .inr rfl
   have hrow4:=KRow.push2 p1 p4 p3 rfl (zcells_reg wz _) (HNW.out _ (by omega)) (by rw [HAL.out];exact hrow3) hgrow hvo
   obtain ⟨c',rfl⟩:=owns_form hrow3 hgx
   exact hK _ _ (hC.push hgrow HR4.out HR3.out hd3 hd6 hd7 hrow4) (UpS8 (fun _ _ hx=>sZ9_grown hx hgrow HR5.out) (fun h=>absurd h hnd)) ⟨c',rfl,hrow4.cap⟩
  refine RegStepsA.cons ?_ ?_
  ·intro DD az wz hcl hw hnd hC hdf hF hD K hK;replace hdf:=Lib.hid hdf
   obtain ⟨_,q24,x24,rfl,hx24⟩:=dep hD 4 rfl rfl rfl rfl
   obtain ⟨_,q22,rfl⟩:=dep hD 2 rfl rfl rfl rfl
   have i0_:(0:Int)≤(n:Int):=by omega
   have i1_:(n:Int)<(n:Int)+1:=by omega
   clear hF hD
   refine want_none rfl ?_
   go_simp
   exact hK _ _ (hC.pure (by decide) (by decide) (by decide) (by decide)) UpD.refl rfl
  refine RegStepsA.cons ?_ ?_
  ·intro DD az wz hcl hw hnd hC hdf hF hD K hK;replace hdf:=Lib.hid hdf
   obtain ⟨_,q25,rfl⟩:=dep hD 5 rfl rfl rfl rfl
   obtain ⟨_,q21,rfl⟩:=dep hD 1 rfl rfl rfl rfl
   have hd4:=hw 4 rfl
   have hd3:=hcl 4 _ rfl hd4 3 rfl
   obtain ⟨c',hrow⟩:=hC.row1 hd4 hnd
   obtain ⟨hcs,hfz⟩:=hrow.cells_ HLEN.out
   obtain ⟨u0,z0⟩:=hcs (n * 9) (by omega)
   obtain ⟨u1,z1⟩:=hcs (n * 9+1) (by omega)
   obtain ⟨u2,z2⟩:=hcs (n * 9+2) (by omega)
   obtain ⟨u3,z3⟩:=hcs (n * 9+3) (by omega)
   obtain ⟨u4,z4⟩:=hcs (n * 9+4) (by omega)
   obtain ⟨u5,z5⟩:=hcs (n * 9+5) (by omega)
   obtain ⟨u6,z6⟩:=hcs (n * 9+6) (by omega)
   obtain ⟨u7,z7⟩:=hcs (n * 9+7) (by omega)
   obtain ⟨u8,z8⟩:=hcs (n * 9+8) (by omega)
   have f0:=hfz (n * 9)
   have f1:=hfz (n * 9+1)
   have f2:=hfz (n * 9+2)
   have f3:=hfz (n * 9+3)
   have f4:=hfz (n * 9+4)
   have f5:=hfz (n * 9+5)
   have f6:=hfz (n * 9+6)
   have f7:=hfz (n * 9+7)
   have f8:=hfz (n * 9+8)
   have hy25:KRow 32 N wz (.slice (some ⟨gx,0,none⟩) (acc.length+1) c') (acc++[Qy.wholeR]):=by rw [HAL.out];exact hrow
   obtain ⟨hF1,hF2⟩:=hy25.fill (HRZ.out wz hC.at_)
   rw [HAL.out] at hF1 hF2
   have hcap:∀ d,CapAt wz gx d→CapAt _ gx d:=fun d hd=>((((((((hd.set_ (n * 9) (.int .i64 n0)).set_ (n * 9+1) (.string s1)).set_ (n * 9+2) (.int .i64 n2)).set_ (n * 9+3) (.int .i64 n3)).set_ (n * 9+4) (.int .i64 n4)).set_ (n * 9+5) (.int .i64 n5)).set_ (n * 9+6) (.int .i64 n6)).set_ (n * 9+7) (.int .i64 n7)).set_ (n * 9+8) (.slice A8 l8 c8)
   have HP:=Lib.hid (hC.fill hF2 HX4.out HX3.out hd3 hd4 HGX.out HW5.out hcap hF1)
   have HU:=Lib.hid (And.intro hF2 hcap)
   clear hF hD hC hcl hw hnd hd3 hd4 hrow hcs hfz hy25 hF1 hF2 hcap
   refine want_none rfl ?_
   go_simp
   exact hK undef _ HP.out (UpS8 (fun _ _ hx=>sZ9_grown hx HU.out.1 (fun e=>HXW.out.1 (by cases e;rfl))) (fun _ _ hx=>by obtain ⟨c9,e9,h9⟩:=hx;exact ⟨c9,e9,HU.out.2 _ h9⟩)) trivial
  refine RegStepsA.cons ?_ ?_
  ·intro DD az wz hcl hw hnd hC hdf hF hD K hK;replace hdf:=Lib.hid hdf
   have q1:az.tmps[1]? = some (.pointer (some ⟨g4,0,none⟩)):=hF 1 rfl
   obtain ⟨_,q24,x24,rfl,hx24⟩:=dep hD 4 rfl rfl rfl rfl
   have hd4:=hw 4 rfl
   have hd3:=hcl 4 _ rfl hd4 3 rfl
   have hO4:=hC.o4 hnd
   have z0:=hO4.cell 0
   have f0:=hO4.frozen 0
   have HP:=Lib.hid (hC.store HX4.out HXW.out.2.2 HN4.out hd3 hd4 hnd hx24)
   have HK:=Lib.hid (At1.set_ (r:=g4) wz (p:=⟨g4,0,none⟩) rfl (.slice (some ⟨gx,0,none⟩) (n+1) x24))
   clear hF hD hC hcl hw hnd hd3 hd4 hO4 hx24
   refine want_none rfl ?_
   go_simp
   exact hK undef _ HP.out (UpS8 (fun _ _ hx=>sZ9_grown hx HK.out (fun e=>HXW.out.2.1 (by cases e;rfl))) (fun _ _ hx=>by obtain ⟨c9,e9,h9⟩:=hx;exact ⟨c9,e9,h9.keep (HK.out.heap (by obtain ⟨_,h8,_⟩:=h9;exact heap_lt h8) HX4.out)⟩)) trivial
  exact RegStepsA.nil
 intro w6 hJ
 rintro _ rfl _ rfl _ rfl _ ⟨y23,rfl,_⟩ _ ⟨y24,rfl,_⟩ _ rfl _ hs6 _ hs7
 simp only [FinOK,Act.put,List.setIfInBounds_toArray,List.set_cons_zero,List.set_cons_succ]
 obtain ⟨d7,hcap7,hO7⟩:=hJ.o7 (by decide)
 obtain ⟨d6,hrow6⟩:=hJ.row2 (by decide)
 obtain rfl:=CapAt.uniq hrow6.cap hcap7
 have hat:=hJ.at_
 refine bodyPost_end (results_none Tryd.results71 _ _ _) rfl ⟨rfl,_,hO7,by rw [HF.out];exact hrow6,hat,?_⟩
 rcases HGX.out with h9 | h9
 ·exact .inl h9.symm
 ·exact .inr ⟨gx,rfl,Nat.le_trans HW5.out h9⟩
end Go.Proofs.YtmlpibdincfgbaaDoor
namespace Go.Proofs.YtmlpibdincfgbaaDoor
open Go.RowKit
set_option linter.unusedSimpArgs false
set_option linter.unusedVariables false
theorem acc_step {K:Int} {kids:List Qy.Reg} {i:Nat} {R:Qy.Reg} (h:kids[i]? = some R) :
 (Qy.flatP K ((kids.take (i+1)).map Qy.smp)).foldl (Qy.addP K) []=(Qy.flat1 K (Qy.smp R)).foldl (Qy.addP K) ((Qy.flatP K ((kids.take i).map Qy.smp)).foldl (Qy.addP K) []):=by
 rw [List.take_add_one,h]
 show (Qy.flatP K ((kids.take i++[R]).map Qy.smp)).foldl _ _=_
 rw [List.map_append]
 unfold Qy.flatP
 rw [List.flatMap_append,List.foldl_append]
 simp
theorem acc_nodes (K:Int) {l:List Qy.Reg} (hE:∀ x∈l,Qy.nodeE x=0):Qy.nodesL ((Qy.flatP K (l.map Qy.smp)).foldl (Qy.addP K) [])≤Qy.nodesL l:=by
 have h1:=Qy.sub_nodesL (Qy.add_sub K (Qy.flatP K (l.map Qy.smp)) [])
 rw [List.nil_append] at h1
 have h2:=Qy.flat_nodes K (l.map Qy.smp)
 have h3:Qy.nodesL (l.map Qy.smp)≤Qy.nodesL l:=by
  clear h1 h2
  induction l with
  | nil=>exact Nat.le_refl _
  | cons r l ih=>
   rw [List.map_cons,Qy.nodesL,Qy.nodesL]
   have h1:=(Qy.smp_good _ r (Nat.le_refl _) (hE r (by simp))).2.2.1
   have h2:=ih fun x hx=>hE x (List.mem_cons_of_mem _ hx)
   omega
 omega
theorem small_acc {acc:List Qy.Reg} (h:Qy.nodesL acc≤900000):acc.length≤900000∧∀ x∈acc,Qy.nodes x≤1000000:=by
 have:=Qy.len_nodesL acc
 exact ⟨by omega,fun x hx=>by have:=Qy.nodes_in1 hx;omega⟩
def SimP (S:Nat→Prop) (w:World) (R:Qy.Reg) (e:Ending) (w':World):Prop:=
 ∃ v',e=.returned v'∧Below w.heap.size w w'∧∃ cs,v'=.agg cs.toArray∧RegAt w' (fun g=>S g∨w.heap.size≤g) cs (Qy.smp R)
theorem RegAt.wider {w:World} {S S':Nat→Prop} {cs:List Value} {R:Qy.Reg} (h:RegAt w S cs R) (k:∀ g,S g→g<w.heap.size→S' g):RegAt w S' cs R:=
 RegAt.keep (Nat.le_refl _) (fun g hg hl=>⟨k g hg hl,rfl⟩) cs R h
theorem regCells_kind (R:Qy.Reg) (A:Option Addr) (c:Nat):∃ s1 n2 n3 n4 n5 n6 n7,regCells R A c=[.int .i64 R.kind,.string s1,.int .i64 n2,.int .i64 n3,.int .i64 n4,.int .i64 n5,.int .i64 n6,.int .i64 n7,.slice A R.kids.length c]:=by
 obtain ⟨k,nm,ax,ay,b0,b1,b2,b3,kids⟩:=R
 exact ⟨_,_,_,_,_,_,_,rfl⟩
theorem RegAt.litk {w:World} {S:Nat→Prop} {cs:List Value} {R:Qy.Reg} (h:RegAt w S cs R):∃ s1 n2 n3 n4 n5 n6 n7 A c,cs=[.int .i64 R.kind,.string s1,.int .i64 n2,.int .i64 n3,.int .i64 n4,.int .i64 n5,.int .i64 n6,.int .i64 n7,.slice A R.kids.length c]∧KidsAt w S A 0 R.kids:=by
 obtain ⟨A,c,rfl,hK⟩:=h.cells
 obtain ⟨s1,n2,n3,n4,n5,n6,n7,e⟩:=regCells_kind R A c
 exact ⟨s1,n2,n3,n4,n5,n6,n7,A,c,e,hK⟩
theorem kids_reg {w:World} {S:Nat→Prop} {A:Option Addr} {K:Int} {l:List Qy.Reg} {c m:Nat} (h:KidsAt w S A 0 l) (hm:l.length=m):RegAt w S [.int .i64 K,.string ⟨#[]⟩,.int .i64 0,.int .i64 0,.int .i64 0,.int .i64 0,.int .i64 0,.int .i64 0,.slice A m c] (Qy.kidsR K l):=by
 show RegAt w S _ (.mk K [] 0 0 0 0 0 0 l)
 rw [RegAt]
 subst hm
 exact ⟨A,c,rfl,h⟩
theorem nothing_reg (w:World) (S:Nat→Prop):RegAt w S [.int .i64 5,.string ⟨#[]⟩,.int .i64 0,.int .i64 0,.int .i64 0,.int .i64 0,.int .i64 0,.int .i64 0,.slice none 0 0] Qy.nothingR:=kids_reg (l:=[]) (by rw [KidsAt];trivial) rfl
theorem RegAt.atg {w w':World} {N:Nat→Prop} {g:Nat} {cs:List Value} {R:Qy.Reg} (h:RegAt w N cs R) (k:At1 g w w') (hg:¬ N g):RegAt w' N cs R:=
 RegAt.keep k.size (fun q hq hl=>⟨hq,k.heap hl (fun e=>hg (e▸hq))⟩) cs R h
theorem kids_one {w:World} {N:Nat→Prop} {T:TypeId} {R:Qy.Reg} {x0 x1 x2 x3 x4 x5 x6 x7 x8:Value} (h:RegAt w N [x0,x1,x2,x3,x4,x5,x6,x7,x8] R) (hN:N w.heap.size):KidsAt (w.alloc (.cells #[x0,x1,x2,x3,x4,x5,x6,x7,x8] T)) N (some ⟨w.heap.size,0,none⟩) 0 [R]:=by
 obtain ⟨A,c,e,_⟩:=h.cells
 have h7:=h
 rw [e] at h7
 have h6:=KRow.one (T:=T) h7 hN
 rw [← e] at h6
 obtain ⟨A9,c9,e9,h9⟩:=h6.kids
 simp only [Value.slice.injEq] at e9
 rw [e9.1]
 exact h9
theorem not_kids (R:Qy.Reg):(Qy.kidsR 6 [R]).kind=6∧(Qy.kidsR 6 [R]).kids.length=1:=⟨rfl,rfl⟩
def SimIH (n:Nat):Prop:=∀ (R:Qy.Reg),Qy.nodes R≤n→Qy.nodeE R=0→∀ (S:Nat→Prop) (cs:List Value) (w:World),RegAt w S cs R→Calls Tryd.prog 45 #[.agg cs.toArray] w (SimP S w R)
set_option maxRecDepth 100000 in
set_option maxHeartbeats 3200000 in
theorem simple_leaf {R:Qy.Reg} (hk:0≤R.kind∧R.kind<4) (S:Nat→Prop) (cs:List Value) (w:World) (h:RegAt w S cs R):Calls Tryd.prog 45 #[.agg cs.toArray] w (SimP S w R):=by
 have HR:Hid (∀ w',Below w.heap.size w w'→RegAt w' (fun g=>S g∨w.heap.size≤g) cs (Qy.smp R)):=Lib.hid fun w' k=>by rw [Qy.smp_leaf hk.2];exact (h.on k).wider fun g hg _=>.inl hg
 obtain ⟨s1,n2,n3,n4,n5,n6,n7,A,c,rfl,_⟩:=h.litk
 obtain ⟨k,hkk⟩:∃ k,R.kind=k:=⟨_,rfl⟩
 obtain ⟨m,hm⟩:∃ m,R.kids.length=m:=⟨_,rfl⟩
 rw [hkk,hm] at HR ⊢
 have h3:k<4:=by omega
 clear h hk hkk hm
 go_enter Tryd.func45,Tryd.ntmps45
 go_upto_region 1 with fail
 refine wp_new2 fun W0 hA hQ hB=>?_
 obtain ⟨g2,hg2⟩:∃ g2,w.heap.size+1=g2:=⟨_,rfl⟩
 rw [hg2] at hQ ⊢
 have HG2:Hid (w.heap.size≤g2):=Lib.hid (by omega)
 obtain ⟨N,hN⟩:∃ N:Nat→Prop,N=fun g=>(S g∧g<w.heap.size)∨g2<g:=⟨_,rfl⟩
 have HN:Hid (∀ g,N g↔(S g∧g<w.heap.size)∨g2<g):=Lib.hid fun g=>by rw [hN]
 have HNn:Hid (¬ N g2):=Lib.hid fun h=>by rcases (HN.out g2).1 h with h | h <;> omega
 have HNw:Hid (∀ g,N g→S g∨w.heap.size≤g):=Lib.hid fun g h=>((HN.out g).1 h).imp (fun h=>h.1) fun h=>by omega
 have HZ2:Hid (g2<W0.heap.size):=Lib.hid hQ.lt
 have HB:=Lib.hid hB
 have HQ:=Lib.hid hQ
 have HA:=Lib.hid hA
 clear hN
 obtain ⟨⟨y0,y1,y2,y3,y4,y5,y6,y7,y8⟩,_⟩:=hA.all9
 clear hA hQ hB hg2
 obtain ⟨⟨e0,e1,e2,e3,e4,e5,e6,e7,e8⟩,f0,f1,f2,f3,f4,f5,f6,f7,f8⟩:=(HQ.out).all9
 go_wp2_with fail
 obtain ⟨hO9,hk9⟩:=(HQ.out).put9 (x0:=.int .i64 k) (x1:=.string s1) (x2:=.int .i64 n2) (x3:=.int .i64 n3) (x4:=.int .i64 n4) (x5:=.int .i64 n5) (x6:=.int .i64 n6) (x7:=.int .i64 n7) (x8:=.slice A m c)
 clear e0 e1 e2 e3 e4 e5 e6 e7 e8 f0 f1 f2 f3 f4 f5 f6 f7 f8
 revert hO9 hk9
 generalize (((((((((W0.setCell _ _).setCell _ _).setCell _ _).setCell _ _).setCell _ _).setCell _ _).setCell _ _).setCell _ _).setCell _ _)=W9
 intro hO9 hk9
 obtain ⟨⟨q0,q1,q2,q3,q4,q5,q6,q7,q8⟩,_⟩:=hO9.all9
 refine bodyPost_ret (v:=.agg #[.int .i64 k,.string s1,.int .i64 n2,.int .i64 n3,.int .i64 n4,.int .i64 n5,.int .i64 n6,.int .i64 n7,.slice A m c]) (by simp [results,Tryd.results45,go_sem,q0,q1,q2,q3,q4,q5,q6,q7,q8]) rfl ?_
 exact ⟨_,rfl,Below.grown (HB.out) hk9 (HB.out).size (fun j hj=>by cases hj;exact HG2.out),[.int .i64 k,.string s1,.int .i64 n2,.int .i64 n3,.int .i64 n4,.int .i64 n5,.int .i64 n6,.int .i64 n7,.slice A m c],rfl,HR.out _ (Below.grown HB.out hk9 HB.out.size (fun j hj=>by cases hj;exact HG2.out))⟩
set_option maxRecDepth 100000 in
set_option maxHeartbeats 3200000 in
theorem simple_not {n:Nat} (ih:SimIH n) {x:Qy.Reg} (hn:Qy.nodes x≤n) (hv:Qy.nodeE x=0) (S:Nat→Prop) (cs:List Value) (w:World) (h:RegAt w S cs (Qy.kidsR 6 [x])):Calls Tryd.prog 45 #[.agg cs.toArray] w (SimP S w (Qy.kidsR 6 [x])):=by
 obtain ⟨ng,nvx,_⟩:=Qy.smp_good _ x (Nat.le_refl _) hv
 obtain ⟨s1,n2,n3,n4,n5,n6,n7,A,c,rfl,hK⟩:=h.litk
 rw [(not_kids x).1,(not_kids x).2]
 have hK:KidsAt w S A 0 [x]:=hK
 have HSM:Hid (Qy.smp (Qy.kidsR 6 [x])=Qy.notP (Qy.smp x)):=Lib.hid (Qy.smp_not x)
 obtain ⟨gk,off,d0,t1,d2,d3,d4,d5,d6,d7,B8,l8,c8,rfl,hSg,hgl,⟨a0,a1,a2,a3,a4,a5,a6,a7,a8⟩,hRx⟩:=hK.lit (i:=0) (R:=x) rfl
 simp only [Nat.zero_mul,Nat.add_zero] at a0 a1 a2 a3 a4 a5 a6 a7 a8
 have HIH:Hid (∀ u,Below w.heap.size w u→Calls Tryd.prog 45 #[.agg #[.int .i64 d0,.string t1,.int .i64 d2,.int .i64 d3,.int .i64 d4,.int .i64 d5,.int .i64 d6,.int .i64 d7,.slice B8 l8 c8]] u (SimP (fun g=>S g∧g<w.heap.size) u x)):=Lib.hid fun u k=>ih x hn hv _ _ u ((hRx.wider fun g h1 h2=>⟨h1,h2⟩).on k)
 have HX:=Lib.hid nvx
 clear h hK hRx ng nvx hn hv hSg ih
 go_enter Tryd.func45,Tryd.ntmps45
 go_upto_region 1 with fail
 refine wp_new2 fun W0 hA hQ hB=>?_
 obtain ⟨g2,hg2⟩:∃ g2,w.heap.size+1=g2:=⟨_,rfl⟩
 rw [hg2] at hQ ⊢
 have HG2:Hid (w.heap.size≤g2):=Lib.hid (by omega)
 obtain ⟨N,hN⟩:∃ N:Nat→Prop,N=fun g=>(S g∧g<w.heap.size)∨g2<g:=⟨_,rfl⟩
 have HN:Hid (∀ g,N g↔(S g∧g<w.heap.size)∨g2<g):=Lib.hid fun g=>by rw [hN]
 have HNn:Hid (¬ N g2):=Lib.hid fun h=>by rcases (HN.out g2).1 h with h | h <;> omega
 have HNw:Hid (∀ g,N g→S g∨w.heap.size≤g):=Lib.hid fun g h=>((HN.out g).1 h).imp (fun h=>h.1) fun h=>by omega
 have HZ2:Hid (g2<W0.heap.size):=Lib.hid hQ.lt
 have HB:=Lib.hid hB
 have HQ:=Lib.hid hQ
 have HA:=Lib.hid hA
 clear hN
 obtain ⟨⟨y0,y1,y2,y3,y4,y5,y6,y7,y8⟩,_⟩:=hA.all9
 have ce:∀ o,W0.cell? ⟨gk,o,none⟩=w.cell? ⟨gk,o,none⟩:=fun o=>World.cell?_of_block (a:=⟨gk,o,none⟩) (hB.block gk hgl)
 rw [← ce] at a0 a1 a2 a3 a4 a5 a6 a7 a8
 have HC:=Lib.hid (HIH.out W0 hB)
 clear ce hA hQ hB hg2 HIH
 go_wp2_with fail
 refine HC.out.mono ?_
 rintro e w1 ⟨v1,rfl,k1,cs1,rfl,hR1⟩
 obtain ⟨sx,hsx⟩:∃ sx,Qy.smp x=sx:=⟨_,rfl⟩
 rw [hsx] at hR1 HX HSM
 have HR1':RegAt w1 N cs1 sx:=hR1.wider fun g hg _=>(HN.out g).2 (hg.imp id fun h9=>Nat.lt_of_lt_of_le HZ2.out h9)
 obtain ⟨u1,m2,m3,m4,m5,m6,m7,A1,c1,rfl,hK1⟩:=HR1'.litk
 obtain ⟨kk,hkk⟩:∃ k,sx.kind=k:=⟨_,rfl⟩
 obtain ⟨mm,hmm⟩:∃ m,sx.kids.length=m:=⟨_,rfl⟩
 rw [hkk,hmm] at HR1' ⊢
 have HKK:=Lib.hid (And.intro hkk hmm)
 have HB1:=Lib.hid (Below.call HB.out k1)
 have HQ1:=Lib.hid (HQ.out.on k1)
 clear k1 hR1 y0 y1 y2 y3 y4 y5 y6 y7 y8 a0 a1 a2 a3 a4 a5 a6 a7 a8 hsx hkk hmm hgl HB HQ
 go_upto_region 5 with fail
 refine wp_new1 fun W2 hA k2=>?_
 obtain ⟨⟨y0,y1,y2,y3,y4,y5,y6,y7,y8⟩,_⟩:=hA.all9
 have HB2:=Lib.hid (Below.call HB1.out k2)
 have HQ2:=Lib.hid (HQ1.out.on k2)
 have HR2:=Lib.hid (RegAt.on HR1' k2)
 have HK2:=Lib.hid (KidsAt.on hK1 k2)
 have HA2:=Lib.hid hA
 clear k2 hA HB1 HQ1 HR1' hK1 HC
 by_cases h6:kk=6
 ·
  subst h6
  obtain ⟨y,hy1,hy2⟩:∃ y,sx=Qy.kidsR 6 [y]∧Qy.nodeE y=0:=by
   have h8:=HKK.out.1
   rcases Qy.node_cases HX.out with h9 | h9 | h9
   ·omega
   ·exact h9
   ·omega
  subst hy1
  have HS2:Hid (Qy.smp (Qy.kidsR 6 [x])=y):=Lib.hid (by rw [HSM.out];unfold Qy.notP;rw [if_pos (by rfl:(Qy.kidsR 6 [y]).kind=6)];rfl)
  obtain rfl:mm=1:=HKK.out.2.symm
  have hK2:KidsAt W2 N A1 0 [y]:=HK2.out
  obtain ⟨gy,of2,d0,t1,d2,d3,d4,d5,d6,d7,B8,l8,c8,rfl,_,hgl,⟨a0,a1,a2,a3,a4,a5,a6,a7,a8⟩,hRy⟩:=hK2.lit (i:=0) (R:=y) rfl
  simp only [Nat.zero_mul,Nat.add_zero] at a0 a1 a2 a3 a4 a5 a6 a7 a8
  have HRY:=Lib.hid hRy
  clear hRy hgl hy2 hK2
  obtain ⟨⟨e0,e1,e2,e3,e4,e5,e6,e7,e8⟩,f0,f1,f2,f3,f4,f5,f6,f7,f8⟩:=(HQ2.out).all9
  go_wp2_with fail
  obtain ⟨hO9,hk9⟩:=(HQ2.out).put9 (x0:=.int .i64 d0) (x1:=.string t1) (x2:=.int .i64 d2) (x3:=.int .i64 d3) (x4:=.int .i64 d4) (x5:=.int .i64 d5) (x6:=.int .i64 d6) (x7:=.int .i64 d7) (x8:=.slice B8 l8 c8)
  clear e0 e1 e2 e3 e4 e5 e6 e7 e8 f0 f1 f2 f3 f4 f5 f6 f7 f8
  revert hO9 hk9
  generalize (((((((((W2.setCell _ _).setCell _ _).setCell _ _).setCell _ _).setCell _ _).setCell _ _).setCell _ _).setCell _ _).setCell _ _)=W9
  intro hO9 hk9
  obtain ⟨⟨q0,q1,q2,q3,q4,q5,q6,q7,q8⟩,_⟩:=hO9.all9
  refine bodyPost_ret (v:=.agg #[.int .i64 d0,.string t1,.int .i64 d2,.int .i64 d3,.int .i64 d4,.int .i64 d5,.int .i64 d6,.int .i64 d7,.slice B8 l8 c8]) (by simp [results,Tryd.results45,go_sem,q0,q1,q2,q3,q4,q5,q6,q7,q8]) rfl ?_
  exact ⟨_,rfl,Below.grown (HB2.out) hk9 (HB2.out).size (fun j hj=>by cases hj;exact HG2.out),[.int .i64 d0,.string t1,.int .i64 d2,.int .i64 d3,.int .i64 d4,.int .i64 d5,.int .i64 d6,.int .i64 d7,.slice B8 l8 c8],rfl,by rw [HS2.out];exact (RegAt.atg (HRY.out) hk9 HNn.out).wider fun g hg _=>HNw.out g hg⟩
 ·
  have HWC:Hid (∀ u,Below W2.heap.size W2 u→Calls Tryd.prog 69 #[.agg #[.int .i64 kk,.string u1,.int .i64 m2,.int .i64 m3,.int .i64 m4,.int .i64 m5,.int .i64 m6,.int .i64 m7,.slice A1 mm c1]] u (RetB u (Qy.wholeB sx))):=Lib.hid fun u hu=>whole_any (HR2.out.on hu).isReg
  have HNC:Hid (∀ u,Below W2.heap.size W2 u→Calls Tryd.prog 70 #[.agg #[.int .i64 kk,.string u1,.int .i64 m2,.int .i64 m3,.int .i64 m4,.int .i64 m5,.int .i64 m6,.int .i64 m7,.slice A1 mm c1]] u (RetB u (Qy.nothingB sx))):=Lib.hid fun u hu=>nothing_any (HR2.out.on hu).isReg
  obtain ⟨bw,hbw⟩:∃ b,Qy.wholeB sx=b:=⟨_,rfl⟩
  obtain ⟨bn,hbn⟩:∃ b,Qy.nothingB sx=b:=⟨_,rfl⟩
  rw [hbw] at HWC
  rw [hbn] at HNC
  have HBW:=Lib.hid (And.intro hbw hbn)
  have H6:=Lib.hid h6
  clear hbw hbn
  go_wp2_with fail
  refine (HWC.out _ (Below.refl _ _)).mono ?_
  rintro e w3 ⟨rfl,k3⟩
  have HB3:=Lib.hid (Below.call HB2.out k3)
  have HQ3:=Lib.hid (HQ2.out.on k3)
  have HA3:=Lib.hid (HA2.out.on k3)
  have HR3:=Lib.hid (HR2.out.on k3)
  have HK3:=Lib.hid k3
  clear k3 y0 y1 y2 y3 y4 y5 y6 y7 y8
  cases bw
  rotate_left
  ·
   have HS2:Hid (Qy.smp (Qy.kidsR 6 [x])=Qy.nothingR):=Lib.hid (by
    have h8:=HBW.out.1
    unfold Qy.wholeB at h8
    rw [HSM.out];unfold Qy.notP;rw [if_neg (by rw [HKK.out.1];exact H6.out),if_pos (by simpa using h8)])
   obtain ⟨⟨e0,e1,e2,e3,e4,e5,e6,e7,e8⟩,f0,f1,f2,f3,f4,f5,f6,f7,f8⟩:=(HQ3.out).all9
   go_wp2_with fail
   obtain ⟨hO9,hk9⟩:=(HQ3.out).put9 (x0:=.int .i64 5) (x1:=.string ⟨#[]⟩) (x2:=.int .i64 0) (x3:=.int .i64 0) (x4:=.int .i64 0) (x5:=.int .i64 0) (x6:=.int .i64 0) (x7:=.int .i64 0) (x8:=.slice none 0 0)
   clear e0 e1 e2 e3 e4 e5 e6 e7 e8 f0 f1 f2 f3 f4 f5 f6 f7 f8
   revert hO9 hk9
   generalize (((((((((w3.setCell _ _).setCell _ _).setCell _ _).setCell _ _).setCell _ _).setCell _ _).setCell _ _).setCell _ _).setCell _ _)=W9
   intro hO9 hk9
   obtain ⟨⟨q0,q1,q2,q3,q4,q5,q6,q7,q8⟩,_⟩:=hO9.all9
   refine bodyPost_ret (v:=.agg #[.int .i64 5,.string ⟨#[]⟩,.int .i64 0,.int .i64 0,.int .i64 0,.int .i64 0,.int .i64 0,.int .i64 0,.slice none 0 0]) (by simp [results,Tryd.results45,go_sem,q0,q1,q2,q3,q4,q5,q6,q7,q8]) rfl ?_
   exact ⟨_,rfl,Below.grown (HB3.out) hk9 (HB3.out).size (fun j hj=>by cases hj;exact HG2.out),[.int .i64 5,.string ⟨#[]⟩,.int .i64 0,.int .i64 0,.int .i64 0,.int .i64 0,.int .i64 0,.int .i64 0,.slice none 0 0],rfl,by rw [HS2.out];exact nothing_reg _ _⟩
  obtain ⟨⟨y0,y1,y2,y3,y4,y5,y6,y7,y8⟩,_⟩:=HA3.out.all9
  go_wp2_with fail
  refine (HNC.out _ HK3.out).mono ?_
  rintro e w4 ⟨rfl,k4⟩
  have HB4:=Lib.hid (Below.call HB3.out k4)
  have HQ4:=Lib.hid (HQ3.out.on k4)
  have HA4:=Lib.hid (HA3.out.on k4)
  have HR4:=Lib.hid (HR3.out.on k4)
  clear k4 y0 y1 y2 y3 y4 y5 y6 y7 y8
  cases bn
  rotate_left
  ·
   have HS2:Hid (Qy.smp (Qy.kidsR 6 [x])=Qy.wholeR):=Lib.hid (by
    have h8:=HBW.out.1
    unfold Qy.wholeB at h8
    rw [HSM.out];unfold Qy.notP;rw [if_neg (by rw [HKK.out.1];exact H6.out),if_neg (by simpa using h8),if_pos HBW.out.2])
   obtain ⟨⟨e0,e1,e2,e3,e4,e5,e6,e7,e8⟩,f0,f1,f2,f3,f4,f5,f6,f7,f8⟩:=(HQ4.out).all9
   go_wp2_with fail
   obtain ⟨hO9,hk9⟩:=(HQ4.out).put9 (x0:=.int .i64 0) (x1:=.string ⟨#[]⟩) (x2:=.int .i64 0) (x3:=.int .i64 0) (x4:=.int .i64 0) (x5:=.int .i64 0) (x6:=.int .i64 0) (x7:=.int .i64 0) (x8:=.slice none 0 0)
   clear e0 e1 e2 e3 e4 e5 e6 e7 e8 f0 f1 f2 f3 f4 f5 f6 f7 f8
   revert hO9 hk9
   generalize (((((((((w4.setCell _ _).setCell _ _).setCell _ _).setCell _ _).setCell _ _).setCell _ _).setCell _ _).setCell _ _).setCell _ _)=W9
   intro hO9 hk9
   obtain ⟨⟨q0,q1,q2,q3,q4,q5,q6,q7,q8⟩,_⟩:=hO9.all9
   refine bodyPost_ret (v:=.agg #[.int .i64 0,.string ⟨#[]⟩,.int .i64 0,.int .i64 0,.int .i64 0,.int .i64 0,.int .i64 0,.int .i64 0,.slice none 0 0]) (by simp [results,Tryd.results45,go_sem,q0,q1,q2,q3,q4,q5,q6,q7,q8]) rfl ?_
   exact ⟨_,rfl,Below.grown (HB4.out) hk9 (HB4.out).size (fun j hj=>by cases hj;exact HG2.out),[.int .i64 0,.string ⟨#[]⟩,.int .i64 0,.int .i64 0,.int .i64 0,.int .i64 0,.int .i64 0,.int .i64 0,.slice none 0 0],rfl,by rw [HS2.out];exact zcells_reg _ _⟩
  have HS2:Hid (Qy.smp (Qy.kidsR 6 [x])=Qy.kidsR 6 [sx]):=Lib.hid (by
   have h8:=HBW.out.1
   unfold Qy.wholeB at h8
   rw [HSM.out];unfold Qy.notP;rw [if_neg (by rw [HKK.out.1];exact H6.out),if_neg (by simpa using h8),if_neg (by rw [HBW.out.2];simp)])
  obtain ⟨⟨y0,y1,y2,y3,y4,y5,y6,y7,y8⟩,_⟩:=HA4.out.all9
  obtain ⟨⟨e0,e1,e2,e3,e4,e5,e6,e7,e8⟩,f0,f1,f2,f3,f4,f5,f6,f7,f8⟩:=HQ4.out.all9
  have kn:=below_new w4 (.cells #[.int .i64 kk,.string u1,.int .i64 m2,.int .i64 m3,.int .i64 m4,.int .i64 m5,.int .i64 m6,.int .i64 m7,.slice A1 mm c1] 32)
  have HQ5:=Lib.hid (HQ4.out.on kn)
  have HB5:=Lib.hid (Below.call HB4.out kn)
  have HK5:=Lib.hid (kids_one (T:=32) HR4.out ((HN.out _).2 (.inr HQ4.out.lt)))
  clear kn e0 e1 e2 e3 e4 e5 e6 e7 e8 f0 f1 f2 f3 f4 f5 f6 f7 f8
  go_upto_region 11 with fail
  go_wp2_with (refine wpList_new1 ?_)
  intro W5 eW
  rw [← eW] at HQ5 HB5 HK5
  clear eW
  obtain ⟨⟨e0,e1,e2,e3,e4,e5,e6,e7,e8⟩,f0,f1,f2,f3,f4,f5,f6,f7,f8⟩:=(HQ5.out).all9
  go_wp2_with fail
  obtain ⟨hO9,hk9⟩:=(HQ5.out).put9 (x0:=.int .i64 6) (x1:=.string ⟨#[]⟩) (x2:=.int .i64 0) (x3:=.int .i64 0) (x4:=.int .i64 0) (x5:=.int .i64 0) (x6:=.int .i64 0) (x7:=.int .i64 0) (x8:=.slice (some ⟨w4.heap.size,0,none⟩) 1 1)
  clear e0 e1 e2 e3 e4 e5 e6 e7 e8 f0 f1 f2 f3 f4 f5 f6 f7 f8
  revert hO9 hk9
  generalize (((((((((W5.setCell _ _).setCell _ _).setCell _ _).setCell _ _).setCell _ _).setCell _ _).setCell _ _).setCell _ _).setCell _ _)=W9
  intro hO9 hk9
  obtain ⟨⟨q0,q1,q2,q3,q4,q5,q6,q7,q8⟩,_⟩:=hO9.all9
  refine bodyPost_ret (v:=.agg #[.int .i64 6,.string ⟨#[]⟩,.int .i64 0,.int .i64 0,.int .i64 0,.int .i64 0,.int .i64 0,.int .i64 0,.slice (some ⟨w4.heap.size,0,none⟩) 1 1]) (by simp [results,Tryd.results45,go_sem,q0,q1,q2,q3,q4,q5,q6,q7,q8]) rfl ?_
  exact ⟨_,rfl,Below.grown (HB5.out) hk9 (HB5.out).size (fun j hj=>by cases hj;exact HG2.out),[.int .i64 6,.string ⟨#[]⟩,.int .i64 0,.int .i64 0,.int .i64 0,.int .i64 0,.int .i64 0,.int .i64 0,.slice (some ⟨w4.heap.size,0,none⟩) 1 1],rfl,by rw [HS2.out];exact (RegAt.atg (kids_reg HK5.out rfl) hk9 HNn.out).wider fun g hg _=>HNw.out g hg⟩
set_option maxRecDepth 100000 in
set_option maxHeartbeats 6400000 in
theorem simple_kids4 {n:Nat} (ih:SimIH n) {kids:List Qy.Reg} (hn:Qy.nodesL kids≤n) (hn2:n≤400000) (hv:∀ x∈kids,Qy.nodeE x=0) (S:Nat→Prop) (cs:List Value) (w:World) (h:RegAt w S cs (Qy.kidsR 4 kids)):Calls Tryd.prog 45 #[.agg cs.toArray] w (SimP S w (Qy.kidsR 4 kids)):=by
 have HSM:Hid (Qy.smp (Qy.kidsR 4 kids)=Qy.fin 4 ((Qy.flatP 4 (kids.map Qy.smp)).foldl (Qy.addP 4) [])):=Lib.hid (Qy.smp_kids 4 kids (.inl rfl))
 obtain ⟨s1,n2,n3,n4,n5,n6,n7,A,c,rfl,hK⟩:=h.litk
 have hK:KidsAt w S A 0 kids:=hK
 rw [show (Qy.kidsR 4 kids).kind=4 from rfl,show (Qy.kidsR 4 kids).kids.length=kids.length from rfl]
 have hml:=Qy.len_nodesL kids
 obtain ⟨m,hm⟩:∃ m,kids.length=m:=⟨_,rfl⟩
 have HM:=Lib.hid hm
 rw [hm] at hml ⊢
 have hmb:m≤400000:=by omega
 have HK:=Lib.hid hK
 have HV:=Lib.hid (And.intro hv (And.intro hn hn2))
 have HIH:Hid (∀ R∈kids,∀ (cs:List Value) (u:World),RegAt u (fun g=>S g∧g<w.heap.size) cs R→Calls Tryd.prog 45 #[.agg cs.toArray] u (SimP (fun g=>S g∧g<w.heap.size) u R)):=Lib.hid fun R hR cs u h=>ih R (by have:=Qy.nodes_in1 hR;omega) (hv R hR) _ cs u h
 have hmf:∀ (fn:Fn) (first cap:Array Value) (w:World),(Instr.makeFunc fn first cap).run Tryd.prog w=.ok (.func fn first cap) w:=fun _ _ _ _=>rfl
 clear h hK hn hn2 hv ih hm hml
 go_enter Tryd.func45,Tryd.ntmps45
 go_upto_region 1 with fail
 refine wp_new2 fun W0 hA hQ hB=>?_
 obtain ⟨g2,hg2⟩:∃ g2,w.heap.size+1=g2:=⟨_,rfl⟩
 rw [hg2] at hQ ⊢
 have hz2:=hQ.lt
 obtain ⟨⟨y0,y1,y2,y3,y4,y5,y6,y7,y8⟩,_⟩:=hA.all9
 go_upto_region 13 with fail
 refine wp_new1 fun W1 hG k1=>?_
 obtain ⟨g4,hg4⟩:∃ g4,W0.heap.size=g4:=⟨_,rfl⟩
 rw [hg4] at hG ⊢
 have HG2:Hid (w.heap.size≤g2):=Lib.hid (by omega)
 have HGG:Hid (w.heap.size<g2∧g2<g4):=Lib.hid ⟨by omega,by omega⟩
 obtain ⟨N,hN⟩:∃ N:Nat→Prop,N=fun g=>(S g∧g<w.heap.size)∨g4<g:=⟨_,rfl⟩
 have HN:Hid (∀ g,N g↔(S g∧g<w.heap.size)∨g4<g):=Lib.hid fun g=>by rw [hN]
 have HNn:Hid (¬ N g2):=Lib.hid fun h=>by rcases (HN.out g2).1 h with h | h <;> omega
 have HN4:Hid (¬ N g4):=Lib.hid fun h=>by rcases (HN.out g4).1 h with h | h <;> omega
 have HNw:Hid (∀ g,N g→S g∨w.heap.size≤g):=Lib.hid fun g h=>((HN.out g).1 h).imp (fun h=>h.1) fun h=>by omega
 have HS:=Lib.hid (And.intro (Below.call hB k1) (And.intro (hA.on k1) (And.intro (hQ.on k1) (And.intro hG (KRow.nil (T:=32) N W1)))))
 clear hB k1 hA hQ hG hg2 hg4 hN hz2 y0 y1 y2 y3 y4 y5 y6 y7 y8
 obtain ⟨⟨y0,y1,y2,y3,y4,y5,y6,y7,y8⟩,_⟩:=HS.out.2.1.all9
 go_wp2_with fail
 go_loopw [45] (fun s wr=>∃ (i:Nat) (rv:Value),i≤m∧s=.int .i64 (i:Int)∧Below w.heap.size w wr∧Own wr w.heap.size 32 [.int .i64 4,.string s1,.int .i64 n2,.int .i64 n3,.int .i64 n4,.int .i64 n5,.int .i64 n6,.int .i64 n7,.slice A m c]∧Own wr g2 32 [.int .i64 0,.string ⟨#[]⟩,.int .i64 0,.int .i64 0,.int .i64 0,.int .i64 0,.int .i64 0,.int .i64 0,.slice none 0 0]∧Own wr g4 30 [rv]∧KRow 32 N wr rv ((Qy.flatP 4 ((kids.take i).map Qy.smp)).foldl (Qy.addP 4) [])∧(∀ b,rv.ownBlock=some b→g4<b)) (fun s _=>m - (intOf s).toNat)
 case atStart=>exact ⟨0,_,Nat.zero_le _,rfl,HS.out.1,HS.out.2.1,HS.out.2.2.1,HS.out.2.2.2.1,by simpa [Qy.flatP] using HS.out.2.2.2.2,fun b hb=>by cases hb⟩
 case round=>
  obtain ⟨i,rv,hi,rfl,hB,hA,hQ,hG,hrow,hrv⟩:=hrel
  clear HS y0 y1 y2 y3 y4 y5 y6 y7 y8
  rcases Nat.lt_or_eq_of_le hi with hlt | heq
  ·
   have i0:(0:Int)≤(i:Int):=by omega
   have i1:(i:Int)<(m:Int):=by omega
   obtain ⟨Ri,hRi⟩:∃ R,kids[i]? = some R:=⟨_,List.getElem?_eq_getElem (by have:=HM.out;omega)⟩
   obtain ⟨gk,off,d0,t1,d2,d3,d4,d5,d6,d7,B8,l8,c8,rfl,hSg,hgl,⟨a0,a1,a2,a3,a4,a5,a6,a7,a8⟩,hR⟩:=HK.out.lit hRi
   have ce:∀ o,wr.cell? ⟨gk,o,none⟩=w.cell? ⟨gk,o,none⟩:=fun o=>World.cell?_of_block (a:=⟨gk,o,none⟩) (hB.block gk hgl)
   rw [← ce] at a0 a1 a2 a3 a4 a5 a6 a7 a8
   have hmem:=List.mem_of_getElem? hRi
   have HR0:Hid (RegAt wr (fun g=>S g∧g<w.heap.size) [.int .i64 d0,.string t1,.int .i64 d2,.int .i64 d3,.int .i64 d4,.int .i64 d5,.int .i64 d6,.int .i64 d7,.slice B8 l8 c8] Ri):=Lib.hid ((hR.wider fun g h1 h2=>⟨h1,h2⟩).on hB)
   obtain ⟨acc,hacc⟩:∃ acc,(Qy.flatP 4 ((kids.take i).map Qy.smp)).foldl (Qy.addP 4) []=acc:=⟨_,rfl⟩
   have HT:Hid ((Qy.flatP 4 ((kids.take (i+1)).map Qy.smp)).foldl (Qy.addP 4) []=(Qy.flat1 4 (Qy.smp Ri)).foldl (Qy.addP 4) acc):=Lib.hid (by rw [acc_step hRi,hacc])
   have HNB:Hid (Qy.nodesL acc≤400000):=Lib.hid (by
    have h9:=acc_nodes 4 (l:=kids.take i) fun x hx=>HV.out.1 x (List.mem_of_mem_take hx)
    have h8:=Qy.nodesL_take_le kids i
    have h7:=HV.out.2
    rw [hacc] at h9
    omega)
   have HNR:Hid (Qy.nodes Ri≤400000∧Qy.nodeE Ri=0):=Lib.hid ⟨by have h9:=Qy.nodes_in1 hmem;have h8:=HV.out.2;omega,HV.out.1 Ri hmem⟩
   have HC0:=Lib.hid (HIH.out Ri hmem)
   rw [hacc] at hrow
   have HS:=Lib.hid (And.intro hB (And.intro hA (And.intro hQ (And.intro hG (And.intro hrow hrv)))))
   have hg4r:=hG.lt
   clear ce hRi hR hSg hacc hB hA hQ hG hrow hrv hgl hmem
   go_upto_region 17 with fail
   refine wp_new1 fun W5 hO7 k5=>?_
   obtain ⟨g7,hg7⟩:∃ g7,wr.heap.size=g7:=⟨_,rfl⟩
   have HG7:=Lib.hid hg7
   rw [hg7] at hO7 hg4r ⊢
   have h75:=hO7.lt
   obtain ⟨⟨y0,y1,y2,y3,y4,y5,y6,y7,y8⟩,_⟩:=hO7.all9
   have HC5:=Lib.hid (HC0.out _ W5 (HR0.out.on k5))
   have HK5:=Lib.hid (And.intro hO7 k5)
   clear hO7 k5 a0 a1 a2 a3 a4 a5 a6 a7 a8 HC0 hg7
   go_wp2_with fail
   refine HC5.out.mono ?_
   rintro e w6 ⟨v6,rfl,k6,cs6,rfl,hR6⟩
   obtain ⟨sx,hsx⟩:∃ sx,Qy.smp Ri=sx:=⟨_,rfl⟩
   rw [hsx] at hR6 HT
   have HSX:Hid (Qy.nodes sx≤400000):=Lib.hid (by rw [← hsx];have h9:=(Qy.smp_good _ Ri (Nat.le_refl _) HNR.out.2).2.2.1;have h8:=HNR.out.1;omega)
   obtain ⟨u1,m2,m3,m4,m5,m6,m7,A1,c1,rfl,hK6⟩:=hR6.litk
   obtain ⟨kk,hkk⟩:∃ k,sx.kind=k:=⟨_,rfl⟩
   obtain ⟨mm,hmm⟩:∃ m,sx.kids.length=m:=⟨_,rfl⟩
   rw [hkk,hmm] at hR6 ⊢
   have HKK:=Lib.hid (And.intro hkk hmm)
   have hO6:=HK5.out.1.on k6
   have hB6:Below wr.heap.size wr w6:=Below.call HK5.out.2 k6
   have HKR:=Lib.hid (And.intro hO6 (And.intro hB6 (And.intro hR6 k6.size)))
   obtain ⟨⟨e0,e1,e2,e3,e4,e5,e6,e7,e8⟩,f0,f1,f2,f3,f4,f5,f6,f7,f8⟩:=hO6.all9
   clear hO6 hB6 hR6 hK6 k6 y0 y1 y2 y3 y4 y5 y6 y7 y8 hsx hkk hmm HC5
   go_upto_region 18 with fail
   refine wp_put9 HKR.out.1 fun W7 hO7 hat7=>?_
   clear e0 e1 e2 e3 e4 e5 e6 e7 e8 f0 f1 f2 f3 f4 f5 f6 f7 f8
   have hB7:Below wr.heap.size wr W7:=Below.grown HKR.out.2.1 hat7 HKR.out.2.1.size fun j hj=>by cases hj;exact Nat.le_of_eq HG7.out
   have hB7w:=Below.call HS.out.1 hB7
   have hA7:=HS.out.2.1.on hB7
   have hQ7:=HS.out.2.2.1.on hB7
   have hG7:=HS.out.2.2.2.1.on hB7
   have hrow7:=HS.out.2.2.2.2.1.on hB7
   have hrv:=HS.out.2.2.2.2.2
   have hown:=HS.out.2.2.2.2.1.own
   obtain ⟨SK,hSK⟩:∃ SK:Nat→Prop,SK=fun g=>(S g∧g<w.heap.size)∨W5.heap.size≤g:=⟨_,rfl⟩
   have HSK:Hid (∀ g,SK g↔(S g∧g<w.heap.size)∨W5.heap.size≤g):=Lib.hid fun g=>by rw [hSK]
   have hR7:RegAt W7 SK [.int .i64 kk,.string u1,.int .i64 m2,.int .i64 m3,.int .i64 m4,.int .i64 m5,.int .i64 m6,.int .i64 m7,.slice A1 mm c1] sx:=by
    rw [hSK]
    exact HKR.out.2.2.1.atg hat7 fun h=>by have:=HGG.out;have:=HG7.out;rcases h with h | h <;> omega
   have HRV:Hid (∀ b,rv.ownBlock=some b→g4<b∧b<g7):=Lib.hid fun b hb=>⟨hrv b hb,by have h9:=(hown b hb).2;have h8:=HG7.out;omega⟩
   have hz7:=hO7.lt
   obtain ⟨⟨y0,y1,y2,y3,y4,y5,y6,y7,y8⟩,_⟩:=hO7.all9
   have z0:=hA7.cell 0
   have HX:=Lib.hid (And.intro hB7w (And.intro hA7 (And.intro hQ7 (And.intro hG7 (And.intro hrow7 (And.intro hR7 hO7))))))
   have HLT:Hid (g4<g7∧g7<W5.heap.size∧W5.heap.size≤W7.heap.size):=Lib.hid ⟨hg4r,h75,Nat.le_trans HKR.out.2.2.2 hat7.size⟩
   have HW0:Hid (w.heap.size<g2∧g2<g4∧g4<W7.heap.size):=Lib.hid ⟨HGG.out.1,HGG.out.2,by have:=HLT.out;omega⟩
   have HNew:Hid (∀ g,W7.heap.size≤g→N g):=Lib.hid fun g hg=>(HN.out g).2 (.inr (by have:=HLT.out;omega))
   clear hB7 hB7w hA7 hQ7 hG7 hrow7 hrv hown hSK hR7 hz7 hO7 hat7 h75 hg4r
   by_cases hk:kk=4
   ·subst hk
    have HSX2:Hid (Qy.nodesL sx.kids≤400000):=Lib.hid (by have h9:=Qy.nodes_of_kids sx;have h8:=HSX.out;omega)
    have HKids:Hid (KidsAt W7 (fun g=>SK g∧g<W7.heap.size) A1 0 sx.kids):=Lib.hid (by
     obtain ⟨v1,q2,q3,q4,q5,q6,q7,A9,c9,e9,h9⟩:=HX.out.2.2.2.2.2.1.litk
     simp only [List.cons.injEq,Value.slice.injEq] at e9
     obtain ⟨-,-,-,-,-,-,-,-,⟨e10,-,-⟩,-⟩:=e9
     rw [e10]
     exact KidsAt.keep (Nat.le_refl _) (fun g hg hl=>⟨⟨hg,hl⟩,rfl⟩) _ _ _ h9)
    have hmmb:mm≤400000:=by have h9:=Qy.len_nodesL sx.kids;have h8:=HSX2.out;have h7:=HKK.out.2;omega
    go_wp2_with fail
    clear y0 y1 y2 y3 y4 y5 y6 y7 y8 z0
    go_loopw [62] (fun s wq=>∃ (j:Nat) (rv2:Value),j≤mm∧s=.int .i64 (j:Int)∧Below w.heap.size w wq∧Own wq w.heap.size 32 [.int .i64 4,.string s1,.int .i64 n2,.int .i64 n3,.int .i64 n4,.int .i64 n5,.int .i64 n6,.int .i64 n7,.slice (some ⟨gk,off,none⟩) m c]∧Own wq g2 32 [.int .i64 0,.string ⟨#[]⟩,.int .i64 0,.int .i64 0,.int .i64 0,.int .i64 0,.int .i64 0,.int .i64 0,.slice none 0 0]∧Own wq g4 30 [rv2]∧KRow 32 N wq rv2 ((sx.kids.take j).foldl (Qy.addP 4) acc)∧KidsAt wq (fun g=>SK g∧g<W7.heap.size) A1 0 sx.kids∧W7.heap.size≤wq.heap.size∧(∀ b,rv2.ownBlock=some b→g4<b∧(b<g7∨W7.heap.size≤b))) (fun s _=>mm - (intOf s).toNat)
    case atStart=>exact ⟨0,rv,Nat.zero_le _,rfl,HX.out.1,HX.out.2.1,HX.out.2.2.1,HX.out.2.2.2.1,by simpa using HX.out.2.2.2.2.1,HKids.out,Nat.le_refl _,fun b hb=>⟨(HRV.out b hb).1,.inl (HRV.out b hb).2⟩⟩
    case round=>
     obtain ⟨j,rv2,hj,rfl,hB,hA,hQ,hG,hrow,hkk,hsz,hrv⟩:=hrel
     rcases Nat.lt_or_eq_of_le hj with hjlt | hjeq
     ·have j0:(0:Int)≤(j:Int):=by omega
      have j1:(j:Int)<(mm:Int):=by omega
      obtain ⟨Rj,hRj⟩:∃ R,sx.kids[j]? = some R:=⟨_,List.getElem?_eq_getElem (by have:=HKK.out.2;omega)⟩
      obtain ⟨gj,of2,d0,t1,d2,d3,d4,d5,d6,d7,B8,l8,c8,rfl,hSj,hgl,⟨a0,a1,a2,a3,a4,a5,a6,a7,a8⟩,hR⟩:=hkk.lit hRj
      obtain ⟨acc2,hacc2⟩:∃ acc2,(sx.kids.take j).foldl (Qy.addP 4) acc=acc2:=⟨_,rfl⟩
      have HT2:Hid ((sx.kids.take (j+1)).foldl (Qy.addP 4) acc=Qy.addP 4 acc2 Rj):=Lib.hid (by rw [List.take_add_one,hRj,List.foldl_append,hacc2];rfl)
      have HNB2:Hid (Qy.nodesL acc2≤900000∧Qy.nodes Rj≤1000000):=Lib.hid (by
       have h9:=Qy.sub_nodesL (Qy.add_sub 4 (sx.kids.take j) acc)
       rw [hacc2,Qy.nodesL_append] at h9
       have h8:=Qy.nodesL_take_le sx.kids j
       have h7:=Qy.nodes_in1 (List.mem_of_getElem? hRj)
       have h6:=HNB.out
       have h5:=HSX2.out
       omega)
      rw [hacc2] at hrow
      have HS2:=Lib.hid (And.intro hB (And.intro hA (And.intro hQ (And.intro hG (And.intro hrow (And.intro hkk (And.intro hsz hrv)))))))
      have HRJ:=Lib.hid hR
      clear hRj hSj hgl hR hacc2 hB hA hQ hG hrow hkk hsz hrv
      go_upto_region 23 with fail
      refine wp_new1 fun W8 hO9 k8=>?_
      obtain ⟨⟨y0,y1,y2,y3,y4,y5,y6,y7,y8⟩,_⟩:=hO9.all9
      have HB8:=Lib.hid (Below.call HS2.out.1 k8)
      have hA8:=HS2.out.2.1.on k8
      have HG8:=Lib.hid (HS2.out.2.2.2.1.on k8)
      have z0:W8.cell? ⟨w.heap.size,0,none⟩=some (.int .i64 4):=hA8.cell 0
      have HRv:=Lib.hid HS2.out.2.2.2.2.2.2.2
      have HSz:=Lib.hid (Nat.le_trans HS2.out.2.2.2.2.2.2.1 k8.size)
      have HADD:=Lib.hid (add4_any (g1:=w.heap.size) HG8.out (HS2.out.2.2.2.2.1.on k8) z0 hA8.lt ⟨_,rfl,(HRJ.out.on k8).wider fun g hg _=>⟨(HN.out g).2 (((HSK.out g).1 hg.1).imp id fun h9=>by have:=HLT.out;omega),fun e=>by
       have h9:=HRv.out g e
       have h8:=hg.2
       have h7:=HLT.out
       have h6:=HW0.out
       rcases (HSK.out g).1 hg.1 with h5 | h5
       ·have:=h5.2;omega
       ·rcases h9.2 with h4 | h4 <;> omega⟩⟩ HN4.out (fun g hg=>HNew.out g (Nat.le_trans HSz.out hg)) HNB2.out.2 (small_acc HNB2.out.1).1 (small_acc HNB2.out.1).2)
      have HAQ:=Lib.hid (And.intro hA8 (And.intro (HS2.out.2.2.1.on k8) (HS2.out.2.2.2.2.2.1.on k8)))
      clear z0 hA8 k8 hO9 a0 a1 a2 a3 a4 a5 a6 a7 a8
      go_wp2_with fail
      refine HADD.out.mono ?_
      rintro e w9 ⟨rfl,rv3,hG9,hrow9,hat9,hown9⟩
      have hne:∀ q,q≤g4→rv2.ownBlock≠some q:=fun q hq e=>by have h9:=(HRv.out q e).1;omega
      have hw0:=HW0.out
      have hB9:Below w.heap.size w w9:=Below.trans HB8.out (hat9.below (by omega) (fun x hx=>by have h9:=(HRv.out x hx).1;omega) HB8.out.size)
      have hA9:=HAQ.out.1.at2 hat9 (by omega) (hne _ (by omega))
      have hQ9:=HAQ.out.2.1.at2 hat9 (by omega) (hne _ (by omega))
      have hkk9:KidsAt w9 (fun g=>SK g∧g<W7.heap.size) (some ⟨gj,of2,none⟩) 0 sx.kids:=KidsAt.keep hat9.size (fun g hg hl=>⟨hg,hat9.block g hl (fun e=>by
       have h7:=HLT.out
       rcases (HSK.out g).1 hg.1 with h5 | h5
       ·have:=h5.2;omega
       ·omega) (fun e=>by
       have h9:=HRv.out g e
       have h8:=hg.2
       have h7:=HLT.out
       rcases (HSK.out g).1 hg.1 with h5 | h5
       ·have:=h5.2;omega
       ·rcases h9.2 with h4 | h4 <;> omega)⟩) _ _ _ HAQ.out.2.2
      have hrv9:∀ b,rv3.ownBlock=some b→g4<b∧(b<g7∨W7.heap.size≤b):=fun b hb=>by
       rcases hown9 with h9 | ⟨g,h9,h8⟩
       ·exact HRv.out b (by rw [← h9,hb])
       ·rw [h9] at hb
        cases hb
        have h7:=HSz.out
        exact ⟨by omega,.inr (by omega)⟩
      have hsz9:=Nat.le_trans HSz.out hat9.size
      have HY:=Lib.hid (And.intro hB9 (And.intro hA9 (And.intro hQ9 (And.intro hG9 (And.intro hrow9 (And.intro hkk9 (And.intro hsz9 hrv9)))))))
      clear hB9 hA9 hQ9 hG9 hrow9 hkk9 hsz9 hrv9 hne hw0 hat9 hown9 y0 y1 y2 y3 y4 y5 y6 y7 y8
      go_wp2_with fail
      go_roundw
      case rel=>exact ⟨j+1,rv3,by omega,by go_num,HY.out.1,HY.out.2.1,HY.out.2.2.1,HY.out.2.2.2.1,by rw [HT2.out];exact HY.out.2.2.2.2.1,HY.out.2.2.2.2.2.1,HY.out.2.2.2.2.2.2.1,HY.out.2.2.2.2.2.2.2⟩
      case measure=>simp [intOf];omega
     ·subst hjeq
      have HT2:Hid ((Qy.flat1 4 sx).foldl (Qy.addP 4) acc=(sx.kids.take j).foldl (Qy.addP 4) acc):=Lib.hid (by
       unfold Qy.flat1
       rw [if_pos HKK.out.1,List.take_of_length_le (by have:=HKK.out.2;omega)])
      have HY:=Lib.hid (And.intro hB (And.intro hA (And.intro hQ (And.intro hG (And.intro hrow hrv)))))
      clear hB hA hQ hG hrow hkk hsz hrv
      go_wp2_with fail
      go_roundw
      case rel=>exact ⟨i+1,rv2,by omega,by go_num,HY.out.1,HY.out.2.1,HY.out.2.2.1,HY.out.2.2.2.1,by rw [HT.out,HT2.out];exact HY.out.2.2.2.2.1,fun b hb=>(HY.out.2.2.2.2.2 b hb).1⟩
      case measure=>simp [intOf];omega
   ·
    have hkz:(kk==(4:Int))=false:=by simp [hk]
    have HT2:Hid ((Qy.flat1 4 sx).foldl (Qy.addP 4) acc=Qy.addP 4 acc sx):=Lib.hid (by
     unfold Qy.flat1
     rw [if_neg (by rw [HKK.out.1];exact hk)]
     rfl)
    have HADD:=Lib.hid (add4_any (g1:=w.heap.size) HX.out.2.2.2.1 HX.out.2.2.2.2.1 z0 HX.out.2.1.lt ⟨_,rfl,HX.out.2.2.2.2.2.1.wider fun g hg hl=>⟨(HN.out g).2 (((HSK.out g).1 hg).imp id fun h9=>by have:=HLT.out;omega),fun e=>by
     have h9:=HRV.out g e
     have h7:=HLT.out
     have h6:=HW0.out
     rcases (HSK.out g).1 hg with h5 | h5
     ·have:=h5.2;omega
     ·omega⟩⟩ HN4.out HNew.out (by have:=HSX.out;omega) (small_acc (by have:=HNB.out;omega)).1 (small_acc (by have:=HNB.out;omega)).2)
    go_wp2_with fail
    refine HADD.out.mono ?_
    rintro e w9 ⟨rfl,rv3,hG9,hrow9,hat9,hown9⟩
    have hne:∀ q,q≤g4→rv.ownBlock≠some q:=fun q hq e=>by have h9:=(HRV.out q e).1;omega
    have hw0:=HW0.out
    have hB9:Below w.heap.size w w9:=Below.trans HX.out.1 (hat9.below (by omega) (fun x hx=>by have h9:=(HRV.out x hx).1;omega) HX.out.1.size)
    have hA9:=HX.out.2.1.at2 hat9 (by omega) (hne _ (by omega))
    have hQ9:=HX.out.2.2.1.at2 hat9 (by omega) (hne _ (by omega))
    have hrv9:∀ b,rv3.ownBlock=some b→g4<b:=fun b hb=>by
     rcases hown9 with h9 | ⟨g,h9,h8⟩
     ·exact (HRV.out b (by rw [← h9,hb])).1
     ·rw [h9] at hb
      cases hb
      omega
    have HY:=Lib.hid (And.intro hB9 (And.intro hA9 (And.intro hQ9 (And.intro hG9 (And.intro hrow9 hrv9)))))
    clear hB9 hA9 hQ9 hG9 hrow9 hrv9 hne hw0 hat9 hown9 y0 y1 y2 y3 y4 y5 y6 y7 y8 z0
    go_wp2_with fail
    go_roundw
    case rel=>exact ⟨i+1,rv3,by omega,by go_num,HY.out.1,HY.out.2.1,HY.out.2.2.1,HY.out.2.2.2.1,by rw [HT.out,HT2.out];exact HY.out.2.2.2.2.1,HY.out.2.2.2.2.2⟩
    case measure=>simp [intOf];omega
  ·subst heq
   obtain ⟨L,hL⟩:∃ L,(Qy.flatP 4 (kids.map Qy.smp)).foldl (Qy.addP 4) []=L:=⟨_,rfl⟩
   have hLL:(Qy.flatP 4 ((kids.take i).map Qy.smp)).foldl (Qy.addP 4) []=L:=by rw [List.take_of_length_le (by have:=HM.out;omega),hL]
   have HFin:Hid (Qy.smp (Qy.kidsR 4 kids)=Qy.fin 4 L):=Lib.hid (by rw [HSM.out,hL])
   have HLS:Hid (L.length≤900000):=Lib.hid (by
    have h9:=acc_nodes 4 HV.out.1
    rw [hL] at h9
    have h8:=HV.out.2
    exact (small_acc (by omega)).1)
   rw [hLL] at hrow
   obtain ⟨A9,c9,hrve,hkids⟩:=hrow.kids
   subst hrve
   obtain ⟨q,hq⟩:∃ q,L.length=q:=⟨_,rfl⟩
   have HQL:=Lib.hid hq
   rw [hq] at hG
   have hqb:q≤900000:=by rw [← hq];exact HLS.out
   have z4:=hG.cell 0
   have HY:=Lib.hid (And.intro hB (And.intro hA (And.intro hQ (And.intro hG hkids))))
   clear hB hA hQ hG hrow hrv hkids hL hLL hq
   obtain ⟨⟨y0,y1,y2,y3,y4,y5,y6,y7,y8⟩,_⟩:=HY.out.2.1.all9
   obtain ⟨b1,hb1⟩:∃ b,L.any Qy.nothingB=b:=⟨_,rfl⟩
   have HC1:Hid (Calls Tryd.prog 74 #[.slice A9 q c9,.func (.func 70) #[] #[]] wr (RetB wr b1)):=Lib.hid (by
    have h9:=containsN (c:=c9) (p:=Qy.nothingB) (l:=L) (w:=wr) (by have:=HLS.out;omega) (fun R' hR' v' u hu hv'=>nothing_any hv') HY.out.2.2.2.2
    rw [HQL.out,hb1] at h9
    exact h9)
   have HB1:=Lib.hid hb1
   clear hb1
   go_wp2_with fail
   refine HC1.out.mono ?_
   rintro e w2 ⟨rfl,k2⟩
   have HB2:=Lib.hid (Below.call HY.out.1 k2)
   have HQ2:=Lib.hid (HY.out.2.2.1.on k2)
   have HG2_:=Lib.hid (HY.out.2.2.2.1.on k2)
   have HA2:=Lib.hid (HY.out.2.1.on k2)
   have HK2:=Lib.hid (HY.out.2.2.2.2.on k2)
   clear k2 y0 y1 y2 y3 y4 y5 y6 y7 y8 z4 HC1
   obtain ⟨⟨y0,y1,y2,y3,y4,y5,y6,y7,y8⟩,_⟩:=HA2.out.all9
   have z4:=HG2_.out.cell 0
   cases b1
   rotate_left
   ·
    have HS2:Hid (Qy.smp (Qy.kidsR 4 kids)=Qy.nothingR):=Lib.hid (by rw [HFin.out];unfold Qy.fin;rw [if_pos ⟨rfl,HB1.out⟩])
    obtain ⟨⟨e0,e1,e2,e3,e4,e5,e6,e7,e8⟩,f0,f1,f2,f3,f4,f5,f6,f7,f8⟩:=(HQ2.out).all9
    go_wp2_with fail
    obtain ⟨hO9,hk9⟩:=(HQ2.out).put9 (x0:=.int .i64 5) (x1:=.string ⟨#[]⟩) (x2:=.int .i64 0) (x3:=.int .i64 0) (x4:=.int .i64 0) (x5:=.int .i64 0) (x6:=.int .i64 0) (x7:=.int .i64 0) (x8:=.slice none 0 0)
    clear e0 e1 e2 e3 e4 e5 e6 e7 e8 f0 f1 f2 f3 f4 f5 f6 f7 f8
    revert hO9 hk9
    generalize (((((((((w2.setCell _ _).setCell _ _).setCell _ _).setCell _ _).setCell _ _).setCell _ _).setCell _ _).setCell _ _).setCell _ _)=W9
    intro hO9 hk9
    obtain ⟨⟨q0,q1,q2,q3,q4,q5,q6,q7,q8⟩,_⟩:=hO9.all9
    refine bodyPost_ret (v:=.agg #[.int .i64 5,.string ⟨#[]⟩,.int .i64 0,.int .i64 0,.int .i64 0,.int .i64 0,.int .i64 0,.int .i64 0,.slice none 0 0]) (by simp [results,Tryd.results45,go_sem,q0,q1,q2,q3,q4,q5,q6,q7,q8]) rfl ?_
    exact ⟨_,rfl,Below.grown (HB2.out) hk9 (HB2.out).size (fun j hj=>by cases hj;exact HG2.out),[.int .i64 5,.string ⟨#[]⟩,.int .i64 0,.int .i64 0,.int .i64 0,.int .i64 0,.int .i64 0,.int .i64 0,.slice none 0 0],rfl,by rw [HS2.out];exact nothing_reg _ _⟩
   by_cases hq0:q=0
   ·subst hq0
    have HS2:Hid (Qy.smp (Qy.kidsR 4 kids)=Qy.wholeR):=Lib.hid (by rw [HFin.out];unfold Qy.fin;rw [if_neg (by rw [HB1.out];simp),if_pos (.inr ⟨rfl,HQL.out⟩)])
    obtain ⟨⟨e0,e1,e2,e3,e4,e5,e6,e7,e8⟩,f0,f1,f2,f3,f4,f5,f6,f7,f8⟩:=(HQ2.out).all9
    go_wp2_with fail
    obtain ⟨hO9,hk9⟩:=(HQ2.out).put9 (x0:=.int .i64 0) (x1:=.string ⟨#[]⟩) (x2:=.int .i64 0) (x3:=.int .i64 0) (x4:=.int .i64 0) (x5:=.int .i64 0) (x6:=.int .i64 0) (x7:=.int .i64 0) (x8:=.slice none 0 0)
    clear e0 e1 e2 e3 e4 e5 e6 e7 e8 f0 f1 f2 f3 f4 f5 f6 f7 f8
    revert hO9 hk9
    generalize (((((((((w2.setCell _ _).setCell _ _).setCell _ _).setCell _ _).setCell _ _).setCell _ _).setCell _ _).setCell _ _).setCell _ _)=W9
    intro hO9 hk9
    obtain ⟨⟨q0,q1,q2,q3,q4,q5,q6,q7,q8⟩,_⟩:=hO9.all9
    refine bodyPost_ret (v:=.agg #[.int .i64 0,.string ⟨#[]⟩,.int .i64 0,.int .i64 0,.int .i64 0,.int .i64 0,.int .i64 0,.int .i64 0,.slice none 0 0]) (by simp [results,Tryd.results45,go_sem,q0,q1,q2,q3,q4,q5,q6,q7,q8]) rfl ?_
    exact ⟨_,rfl,Below.grown (HB2.out) hk9 (HB2.out).size (fun j hj=>by cases hj;exact HG2.out),[.int .i64 0,.string ⟨#[]⟩,.int .i64 0,.int .i64 0,.int .i64 0,.int .i64 0,.int .i64 0,.int .i64 0,.slice none 0 0],rfl,by rw [HS2.out];exact zcells_reg _ _⟩
   have hq0z:((q:Int)==0)=false:=by simp;omega
   by_cases hq1:q=1
   ·subst hq1
    obtain ⟨x,hx⟩:∃ x,L[0]? = some x:=⟨_,List.getElem?_eq_getElem (by have:=HQL.out;omega)⟩
    have HS2:Hid (Qy.smp (Qy.kidsR 4 kids)=x):=Lib.hid (by
     rw [HFin.out];unfold Qy.fin;rw [if_neg (by rw [HB1.out];simp),if_neg (by rw [HQL.out];omega),if_pos HQL.out]
     cases hL:L with
     | nil=>rw [hL] at hx;cases hx
     | cons a l=>rw [hL] at hx;simpa using hx)
    obtain ⟨gy,of2,d0,t1,d2,d3,d4,d5,d6,d7,B8,l8,c8,rfl,_,hgl,⟨a0,a1,a2,a3,a4,a5,a6,a7,a8⟩,hRx⟩:=HK2.out.lit hx
    simp only [Nat.zero_mul,Nat.add_zero] at a0 a1 a2 a3 a4 a5 a6 a7 a8
    have HRX:=Lib.hid hRx
    clear hRx hgl hx
    obtain ⟨⟨e0,e1,e2,e3,e4,e5,e6,e7,e8⟩,f0,f1,f2,f3,f4,f5,f6,f7,f8⟩:=(HQ2.out).all9
    go_wp2_with fail
    obtain ⟨hO9,hk9⟩:=(HQ2.out).put9 (x0:=.int .i64 d0) (x1:=.string t1) (x2:=.int .i64 d2) (x3:=.int .i64 d3) (x4:=.int .i64 d4) (x5:=.int .i64 d5) (x6:=.int .i64 d6) (x7:=.int .i64 d7) (x8:=.slice B8 l8 c8)
    clear e0 e1 e2 e3 e4 e5 e6 e7 e8 f0 f1 f2 f3 f4 f5 f6 f7 f8
    revert hO9 hk9
    generalize (((((((((w2.setCell _ _).setCell _ _).setCell _ _).setCell _ _).setCell _ _).setCell _ _).setCell _ _).setCell _ _).setCell _ _)=W9
    intro hO9 hk9
    obtain ⟨⟨q0,q1,q2,q3,q4,q5,q6,q7,q8⟩,_⟩:=hO9.all9
    refine bodyPost_ret (v:=.agg #[.int .i64 d0,.string t1,.int .i64 d2,.int .i64 d3,.int .i64 d4,.int .i64 d5,.int .i64 d6,.int .i64 d7,.slice B8 l8 c8]) (by simp [results,Tryd.results45,go_sem,q0,q1,q2,q3,q4,q5,q6,q7,q8]) rfl ?_
    exact ⟨_,rfl,Below.grown (HB2.out) hk9 (HB2.out).size (fun j hj=>by cases hj;exact HG2.out),[.int .i64 d0,.string t1,.int .i64 d2,.int .i64 d3,.int .i64 d4,.int .i64 d5,.int .i64 d6,.int .i64 d7,.slice B8 l8 c8],rfl,by rw [HS2.out];exact (RegAt.atg (HRX.out) hk9 HNn.out).wider fun g hg _=>HNw.out g hg⟩
   have hq1z:((q:Int)==1)=false:=by simp;omega
   have HS2:Hid (Qy.smp (Qy.kidsR 4 kids)=Qy.kidsR 4 L):=Lib.hid (by rw [HFin.out];unfold Qy.fin;rw [if_neg (by rw [HB1.out];simp),if_neg (by rw [HQL.out];omega),if_neg (by rw [HQL.out];exact hq1)])
   obtain ⟨⟨e0,e1,e2,e3,e4,e5,e6,e7,e8⟩,f0,f1,f2,f3,f4,f5,f6,f7,f8⟩:=(HQ2.out).all9
   go_wp2_with fail
   obtain ⟨hO9,hk9⟩:=(HQ2.out).put9 (x0:=.int .i64 4) (x1:=.string ⟨#[]⟩) (x2:=.int .i64 0) (x3:=.int .i64 0) (x4:=.int .i64 0) (x5:=.int .i64 0) (x6:=.int .i64 0) (x7:=.int .i64 0) (x8:=.slice A9 q c9)
   clear e0 e1 e2 e3 e4 e5 e6 e7 e8 f0 f1 f2 f3 f4 f5 f6 f7 f8
   revert hO9 hk9
   generalize (((((((((w2.setCell _ _).setCell _ _).setCell _ _).setCell _ _).setCell _ _).setCell _ _).setCell _ _).setCell _ _).setCell _ _)=W9
   intro hO9 hk9
   obtain ⟨⟨q0,q1,q2,q3,q4,q5,q6,q7,q8⟩,_⟩:=hO9.all9
   refine bodyPost_ret (v:=.agg #[.int .i64 4,.string ⟨#[]⟩,.int .i64 0,.int .i64 0,.int .i64 0,.int .i64 0,.int .i64 0,.int .i64 0,.slice A9 q c9]) (by simp [results,Tryd.results45,go_sem,q0,q1,q2,q3,q4,q5,q6,q7,q8]) rfl ?_
   exact ⟨_,rfl,Below.grown (HB2.out) hk9 (HB2.out).size (fun j hj=>by cases hj;exact HG2.out),[.int .i64 4,.string ⟨#[]⟩,.int .i64 0,.int .i64 0,.int .i64 0,.int .i64 0,.int .i64 0,.int .i64 0,.slice A9 q c9],rfl,by rw [HS2.out];exact (RegAt.atg (kids_reg HK2.out HQL.out) hk9 HNn.out).wider fun g hg _=>HNw.out g hg⟩
set_option maxRecDepth 100000 in
set_option maxHeartbeats 6400000 in
theorem simple_kids5 {n:Nat} (ih:SimIH n) {kids:List Qy.Reg} (hn:Qy.nodesL kids≤n) (hn2:n≤400000) (hv:∀ x∈kids,Qy.nodeE x=0) (S:Nat→Prop) (cs:List Value) (w:World) (h:RegAt w S cs (Qy.kidsR 5 kids)):Calls Tryd.prog 45 #[.agg cs.toArray] w (SimP S w (Qy.kidsR 5 kids)):=by
 have HSM:Hid (Qy.smp (Qy.kidsR 5 kids)=Qy.fin 5 ((Qy.flatP 5 (kids.map Qy.smp)).foldl (Qy.addP 5) [])):=Lib.hid (Qy.smp_kids 5 kids (.inr rfl))
 obtain ⟨s1,n2,n3,n4,n5,n6,n7,A,c,rfl,hK⟩:=h.litk
 have hK:KidsAt w S A 0 kids:=hK
 rw [show (Qy.kidsR 5 kids).kind=5 from rfl,show (Qy.kidsR 5 kids).kids.length=kids.length from rfl]
 have hml:=Qy.len_nodesL kids
 obtain ⟨m,hm⟩:∃ m,kids.length=m:=⟨_,rfl⟩
 have HM:=Lib.hid hm
 rw [hm] at hml ⊢
 have hmb:m≤400000:=by omega
 have HK:=Lib.hid hK
 have HV:=Lib.hid (And.intro hv (And.intro hn hn2))
 have HIH:Hid (∀ R∈kids,∀ (cs:List Value) (u:World),RegAt u (fun g=>S g∧g<w.heap.size) cs R→Calls Tryd.prog 45 #[.agg cs.toArray] u (SimP (fun g=>S g∧g<w.heap.size) u R)):=Lib.hid fun R hR cs u h=>ih R (by have:=Qy.nodes_in1 hR;omega) (hv R hR) _ cs u h
 have hmf:∀ (fn:Fn) (first cap:Array Value) (w:World),(Instr.makeFunc fn first cap).run Tryd.prog w=.ok (.func fn first cap) w:=fun _ _ _ _=>rfl
 clear h hK hn hn2 hv ih hm hml
 go_enter Tryd.func45,Tryd.ntmps45
 go_upto_region 1 with fail
 refine wp_new2 fun W0 hA hQ hB=>?_
 obtain ⟨g2,hg2⟩:∃ g2,w.heap.size+1=g2:=⟨_,rfl⟩
 rw [hg2] at hQ ⊢
 have hz2:=hQ.lt
 obtain ⟨⟨y0,y1,y2,y3,y4,y5,y6,y7,y8⟩,_⟩:=hA.all9
 go_upto_region 13 with fail
 refine wp_new1 fun W1 hG k1=>?_
 obtain ⟨g4,hg4⟩:∃ g4,W0.heap.size=g4:=⟨_,rfl⟩
 rw [hg4] at hG ⊢
 have HG2:Hid (w.heap.size≤g2):=Lib.hid (by omega)
 have HGG:Hid (w.heap.size<g2∧g2<g4):=Lib.hid ⟨by omega,by omega⟩
 obtain ⟨N,hN⟩:∃ N:Nat→Prop,N=fun g=>(S g∧g<w.heap.size)∨g4<g:=⟨_,rfl⟩
 have HN:Hid (∀ g,N g↔(S g∧g<w.heap.size)∨g4<g):=Lib.hid fun g=>by rw [hN]
 have HNn:Hid (¬ N g2):=Lib.hid fun h=>by rcases (HN.out g2).1 h with h | h <;> omega
 have HN4:Hid (¬ N g4):=Lib.hid fun h=>by rcases (HN.out g4).1 h with h | h <;> omega
 have HNw:Hid (∀ g,N g→S g∨w.heap.size≤g):=Lib.hid fun g h=>((HN.out g).1 h).imp (fun h=>h.1) fun h=>by omega
 have HS:=Lib.hid (And.intro (Below.call hB k1) (And.intro (hA.on k1) (And.intro (hQ.on k1) (And.intro hG (KRow.nil (T:=32) N W1)))))
 clear hB k1 hA hQ hG hg2 hg4 hN hz2 y0 y1 y2 y3 y4 y5 y6 y7 y8
 obtain ⟨⟨y0,y1,y2,y3,y4,y5,y6,y7,y8⟩,_⟩:=HS.out.2.1.all9
 go_wp2_with fail
 go_loopw [45] (fun s wr=>∃ (i:Nat) (rv:Value),i≤m∧s=.int .i64 (i:Int)∧Below w.heap.size w wr∧Own wr w.heap.size 32 [.int .i64 5,.string s1,.int .i64 n2,.int .i64 n3,.int .i64 n4,.int .i64 n5,.int .i64 n6,.int .i64 n7,.slice A m c]∧Own wr g2 32 [.int .i64 0,.string ⟨#[]⟩,.int .i64 0,.int .i64 0,.int .i64 0,.int .i64 0,.int .i64 0,.int .i64 0,.slice none 0 0]∧Own wr g4 30 [rv]∧KRow 32 N wr rv ((Qy.flatP 5 ((kids.take i).map Qy.smp)).foldl (Qy.addP 5) [])∧(∀ b,rv.ownBlock=some b→g4<b)) (fun s _=>m - (intOf s).toNat)
 case atStart=>exact ⟨0,_,Nat.zero_le _,rfl,HS.out.1,HS.out.2.1,HS.out.2.2.1,HS.out.2.2.2.1,by simpa [Qy.flatP] using HS.out.2.2.2.2,fun b hb=>by cases hb⟩
 case round=>
  obtain ⟨i,rv,hi,rfl,hB,hA,hQ,hG,hrow,hrv⟩:=hrel
  clear HS y0 y1 y2 y3 y4 y5 y6 y7 y8
  rcases Nat.lt_or_eq_of_le hi with hlt | heq
  ·
   have i0:(0:Int)≤(i:Int):=by omega
   have i1:(i:Int)<(m:Int):=by omega
   obtain ⟨Ri,hRi⟩:∃ R,kids[i]? = some R:=⟨_,List.getElem?_eq_getElem (by have:=HM.out;omega)⟩
   obtain ⟨gk,off,d0,t1,d2,d3,d4,d5,d6,d7,B8,l8,c8,rfl,hSg,hgl,⟨a0,a1,a2,a3,a4,a5,a6,a7,a8⟩,hR⟩:=HK.out.lit hRi
   have ce:∀ o,wr.cell? ⟨gk,o,none⟩=w.cell? ⟨gk,o,none⟩:=fun o=>World.cell?_of_block (a:=⟨gk,o,none⟩) (hB.block gk hgl)
   rw [← ce] at a0 a1 a2 a3 a4 a5 a6 a7 a8
   have hmem:=List.mem_of_getElem? hRi
   have HR0:Hid (RegAt wr (fun g=>S g∧g<w.heap.size) [.int .i64 d0,.string t1,.int .i64 d2,.int .i64 d3,.int .i64 d4,.int .i64 d5,.int .i64 d6,.int .i64 d7,.slice B8 l8 c8] Ri):=Lib.hid ((hR.wider fun g h1 h2=>⟨h1,h2⟩).on hB)
   obtain ⟨acc,hacc⟩:∃ acc,(Qy.flatP 5 ((kids.take i).map Qy.smp)).foldl (Qy.addP 5) []=acc:=⟨_,rfl⟩
   have HT:Hid ((Qy.flatP 5 ((kids.take (i+1)).map Qy.smp)).foldl (Qy.addP 5) []=(Qy.flat1 5 (Qy.smp Ri)).foldl (Qy.addP 5) acc):=Lib.hid (by rw [acc_step hRi,hacc])
   have HNB:Hid (Qy.nodesL acc≤400000):=Lib.hid (by
    have h9:=acc_nodes 5 (l:=kids.take i) fun x hx=>HV.out.1 x (List.mem_of_mem_take hx)
    have h8:=Qy.nodesL_take_le kids i
    have h7:=HV.out.2
    rw [hacc] at h9
    omega)
   have HNR:Hid (Qy.nodes Ri≤400000∧Qy.nodeE Ri=0):=Lib.hid ⟨by have h9:=Qy.nodes_in1 hmem;have h8:=HV.out.2;omega,HV.out.1 Ri hmem⟩
   have HC0:=Lib.hid (HIH.out Ri hmem)
   rw [hacc] at hrow
   have HS:=Lib.hid (And.intro hB (And.intro hA (And.intro hQ (And.intro hG (And.intro hrow hrv)))))
   have hg4r:=hG.lt
   clear ce hRi hR hSg hacc hB hA hQ hG hrow hrv hgl hmem
   go_upto_region 17 with fail
   refine wp_new1 fun W5 hO7 k5=>?_
   obtain ⟨g7,hg7⟩:∃ g7,wr.heap.size=g7:=⟨_,rfl⟩
   have HG7:=Lib.hid hg7
   rw [hg7] at hO7 hg4r ⊢
   have h75:=hO7.lt
   obtain ⟨⟨y0,y1,y2,y3,y4,y5,y6,y7,y8⟩,_⟩:=hO7.all9
   have HC5:=Lib.hid (HC0.out _ W5 (HR0.out.on k5))
   have HK5:=Lib.hid (And.intro hO7 k5)
   clear hO7 k5 a0 a1 a2 a3 a4 a5 a6 a7 a8 HC0 hg7
   go_wp2_with fail
   refine HC5.out.mono ?_
   rintro e w6 ⟨v6,rfl,k6,cs6,rfl,hR6⟩
   obtain ⟨sx,hsx⟩:∃ sx,Qy.smp Ri=sx:=⟨_,rfl⟩
   rw [hsx] at hR6 HT
   have HSX:Hid (Qy.nodes sx≤400000):=Lib.hid (by rw [← hsx];have h9:=(Qy.smp_good _ Ri (Nat.le_refl _) HNR.out.2).2.2.1;have h8:=HNR.out.1;omega)
   obtain ⟨u1,m2,m3,m4,m5,m6,m7,A1,c1,rfl,hK6⟩:=hR6.litk
   obtain ⟨kk,hkk⟩:∃ k,sx.kind=k:=⟨_,rfl⟩
   obtain ⟨mm,hmm⟩:∃ m,sx.kids.length=m:=⟨_,rfl⟩
   rw [hkk,hmm] at hR6 ⊢
   have HKK:=Lib.hid (And.intro hkk hmm)
   have hO6:=HK5.out.1.on k6
   have hB6:Below wr.heap.size wr w6:=Below.call HK5.out.2 k6
   have HKR:=Lib.hid (And.intro hO6 (And.intro hB6 (And.intro hR6 k6.size)))
   obtain ⟨⟨e0,e1,e2,e3,e4,e5,e6,e7,e8⟩,f0,f1,f2,f3,f4,f5,f6,f7,f8⟩:=hO6.all9
   clear hO6 hB6 hR6 hK6 k6 y0 y1 y2 y3 y4 y5 y6 y7 y8 hsx hkk hmm HC5
   go_upto_region 18 with fail
   refine wp_put9 HKR.out.1 fun W7 hO7 hat7=>?_
   clear e0 e1 e2 e3 e4 e5 e6 e7 e8 f0 f1 f2 f3 f4 f5 f6 f7 f8
   have hB7:Below wr.heap.size wr W7:=Below.grown HKR.out.2.1 hat7 HKR.out.2.1.size fun j hj=>by cases hj;exact Nat.le_of_eq HG7.out
   have hB7w:=Below.call HS.out.1 hB7
   have hA7:=HS.out.2.1.on hB7
   have hQ7:=HS.out.2.2.1.on hB7
   have hG7:=HS.out.2.2.2.1.on hB7
   have hrow7:=HS.out.2.2.2.2.1.on hB7
   have hrv:=HS.out.2.2.2.2.2
   have hown:=HS.out.2.2.2.2.1.own
   obtain ⟨SK,hSK⟩:∃ SK:Nat→Prop,SK=fun g=>(S g∧g<w.heap.size)∨W5.heap.size≤g:=⟨_,rfl⟩
   have HSK:Hid (∀ g,SK g↔(S g∧g<w.heap.size)∨W5.heap.size≤g):=Lib.hid fun g=>by rw [hSK]
   have hR7:RegAt W7 SK [.int .i64 kk,.string u1,.int .i64 m2,.int .i64 m3,.int .i64 m4,.int .i64 m5,.int .i64 m6,.int .i64 m7,.slice A1 mm c1] sx:=by
    rw [hSK]
    exact HKR.out.2.2.1.atg hat7 fun h=>by have:=HGG.out;have:=HG7.out;rcases h with h | h <;> omega
   have HRV:Hid (∀ b,rv.ownBlock=some b→g4<b∧b<g7):=Lib.hid fun b hb=>⟨hrv b hb,by have h9:=(hown b hb).2;have h8:=HG7.out;omega⟩
   have hz7:=hO7.lt
   obtain ⟨⟨y0,y1,y2,y3,y4,y5,y6,y7,y8⟩,_⟩:=hO7.all9
   have z0:=hA7.cell 0
   have HX:=Lib.hid (And.intro hB7w (And.intro hA7 (And.intro hQ7 (And.intro hG7 (And.intro hrow7 (And.intro hR7 hO7))))))
   have HLT:Hid (g4<g7∧g7<W5.heap.size∧W5.heap.size≤W7.heap.size):=Lib.hid ⟨hg4r,h75,Nat.le_trans HKR.out.2.2.2 hat7.size⟩
   have HW0:Hid (w.heap.size<g2∧g2<g4∧g4<W7.heap.size):=Lib.hid ⟨HGG.out.1,HGG.out.2,by have:=HLT.out;omega⟩
   have HNew:Hid (∀ g,W7.heap.size≤g→N g):=Lib.hid fun g hg=>(HN.out g).2 (.inr (by have:=HLT.out;omega))
   clear hB7 hB7w hA7 hQ7 hG7 hrow7 hrv hown hSK hR7 hz7 hO7 hat7 h75 hg4r
   by_cases hk:kk=5
   ·subst hk
    have HSX2:Hid (Qy.nodesL sx.kids≤400000):=Lib.hid (by have h9:=Qy.nodes_of_kids sx;have h8:=HSX.out;omega)
    have HKids:Hid (KidsAt W7 (fun g=>SK g∧g<W7.heap.size) A1 0 sx.kids):=Lib.hid (by
     obtain ⟨v1,q2,q3,q4,q5,q6,q7,A9,c9,e9,h9⟩:=HX.out.2.2.2.2.2.1.litk
     simp only [List.cons.injEq,Value.slice.injEq] at e9
     obtain ⟨-,-,-,-,-,-,-,-,⟨e10,-,-⟩,-⟩:=e9
     rw [e10]
     exact KidsAt.keep (Nat.le_refl _) (fun g hg hl=>⟨⟨hg,hl⟩,rfl⟩) _ _ _ h9)
    have hmmb:mm≤400000:=by have h9:=Qy.len_nodesL sx.kids;have h8:=HSX2.out;have h7:=HKK.out.2;omega
    go_wp2_with fail
    clear y0 y1 y2 y3 y4 y5 y6 y7 y8 z0
    go_loopw [62] (fun s wq=>∃ (j:Nat) (rv2:Value),j≤mm∧s=.int .i64 (j:Int)∧Below w.heap.size w wq∧Own wq w.heap.size 32 [.int .i64 5,.string s1,.int .i64 n2,.int .i64 n3,.int .i64 n4,.int .i64 n5,.int .i64 n6,.int .i64 n7,.slice (some ⟨gk,off,none⟩) m c]∧Own wq g2 32 [.int .i64 0,.string ⟨#[]⟩,.int .i64 0,.int .i64 0,.int .i64 0,.int .i64 0,.int .i64 0,.int .i64 0,.slice none 0 0]∧Own wq g4 30 [rv2]∧KRow 32 N wq rv2 ((sx.kids.take j).foldl (Qy.addP 5) acc)∧KidsAt wq (fun g=>SK g∧g<W7.heap.size) A1 0 sx.kids∧W7.heap.size≤wq.heap.size∧(∀ b,rv2.ownBlock=some b→g4<b∧(b<g7∨W7.heap.size≤b))) (fun s _=>mm - (intOf s).toNat)
    case atStart=>exact ⟨0,rv,Nat.zero_le _,rfl,HX.out.1,HX.out.2.1,HX.out.2.2.1,HX.out.2.2.2.1,by simpa using HX.out.2.2.2.2.1,HKids.out,Nat.le_refl _,fun b hb=>⟨(HRV.out b hb).1,.inl (HRV.out b hb).2⟩⟩
    case round=>
     obtain ⟨j,rv2,hj,rfl,hB,hA,hQ,hG,hrow,hkk,hsz,hrv⟩:=hrel
     rcases Nat.lt_or_eq_of_le hj with hjlt | hjeq
     ·have j0:(0:Int)≤(j:Int):=by omega
      have j1:(j:Int)<(mm:Int):=by omega
      obtain ⟨Rj,hRj⟩:∃ R,sx.kids[j]? = some R:=⟨_,List.getElem?_eq_getElem (by have:=HKK.out.2;omega)⟩
      obtain ⟨gj,of2,d0,t1,d2,d3,d4,d5,d6,d7,B8,l8,c8,rfl,hSj,hgl,⟨a0,a1,a2,a3,a4,a5,a6,a7,a8⟩,hR⟩:=hkk.lit hRj
      obtain ⟨acc2,hacc2⟩:∃ acc2,(sx.kids.take j).foldl (Qy.addP 5) acc=acc2:=⟨_,rfl⟩
      have HT2:Hid ((sx.kids.take (j+1)).foldl (Qy.addP 5) acc=Qy.addP 5 acc2 Rj):=Lib.hid (by rw [List.take_add_one,hRj,List.foldl_append,hacc2];rfl)
      have HNB2:Hid (Qy.nodesL acc2≤900000∧Qy.nodes Rj≤1000000):=Lib.hid (by
       have h9:=Qy.sub_nodesL (Qy.add_sub 5 (sx.kids.take j) acc)
       rw [hacc2,Qy.nodesL_append] at h9
       have h8:=Qy.nodesL_take_le sx.kids j
       have h7:=Qy.nodes_in1 (List.mem_of_getElem? hRj)
       have h6:=HNB.out
       have h5:=HSX2.out
       omega)
      rw [hacc2] at hrow
      have HS2:=Lib.hid (And.intro hB (And.intro hA (And.intro hQ (And.intro hG (And.intro hrow (And.intro hkk (And.intro hsz hrv)))))))
      have HRJ:=Lib.hid hR
      clear hRj hSj hgl hR hacc2 hB hA hQ hG hrow hkk hsz hrv
      go_upto_region 23 with fail
      refine wp_new1 fun W8 hO9 k8=>?_
      obtain ⟨⟨y0,y1,y2,y3,y4,y5,y6,y7,y8⟩,_⟩:=hO9.all9
      have HB8:=Lib.hid (Below.call HS2.out.1 k8)
      have hA8:=HS2.out.2.1.on k8
      have HG8:=Lib.hid (HS2.out.2.2.2.1.on k8)
      have z0:W8.cell? ⟨w.heap.size,0,none⟩=some (.int .i64 5):=hA8.cell 0
      have HRv:=Lib.hid HS2.out.2.2.2.2.2.2.2
      have HSz:=Lib.hid (Nat.le_trans HS2.out.2.2.2.2.2.2.1 k8.size)
      have HADD:=Lib.hid (add5_any (g1:=w.heap.size) HG8.out (HS2.out.2.2.2.2.1.on k8) z0 hA8.lt ⟨_,rfl,(HRJ.out.on k8).wider fun g hg _=>⟨(HN.out g).2 (((HSK.out g).1 hg.1).imp id fun h9=>by have:=HLT.out;omega),fun e=>by
       have h9:=HRv.out g e
       have h8:=hg.2
       have h7:=HLT.out
       have h6:=HW0.out
       rcases (HSK.out g).1 hg.1 with h5 | h5
       ·have:=h5.2;omega
       ·rcases h9.2 with h4 | h4 <;> omega⟩⟩ HN4.out (fun g hg=>HNew.out g (Nat.le_trans HSz.out hg)) HNB2.out.2 (small_acc HNB2.out.1).1 (small_acc HNB2.out.1).2)
      have HAQ:=Lib.hid (And.intro hA8 (And.intro (HS2.out.2.2.1.on k8) (HS2.out.2.2.2.2.2.1.on k8)))
      clear z0 hA8 k8 hO9 a0 a1 a2 a3 a4 a5 a6 a7 a8
      go_wp2_with fail
      refine HADD.out.mono ?_
      rintro e w9 ⟨rfl,rv3,hG9,hrow9,hat9,hown9⟩
      have hne:∀ q,q≤g4→rv2.ownBlock≠some q:=fun q hq e=>by have h9:=(HRv.out q e).1;omega
      have hw0:=HW0.out
      have hB9:Below w.heap.size w w9:=Below.trans HB8.out (hat9.below (by omega) (fun x hx=>by have h9:=(HRv.out x hx).1;omega) HB8.out.size)
      have hA9:=HAQ.out.1.at2 hat9 (by omega) (hne _ (by omega))
      have hQ9:=HAQ.out.2.1.at2 hat9 (by omega) (hne _ (by omega))
      have hkk9:KidsAt w9 (fun g=>SK g∧g<W7.heap.size) (some ⟨gj,of2,none⟩) 0 sx.kids:=KidsAt.keep hat9.size (fun g hg hl=>⟨hg,hat9.block g hl (fun e=>by
       have h7:=HLT.out
       rcases (HSK.out g).1 hg.1 with h5 | h5
       ·have:=h5.2;omega
       ·omega) (fun e=>by
       have h9:=HRv.out g e
       have h8:=hg.2
       have h7:=HLT.out
       rcases (HSK.out g).1 hg.1 with h5 | h5
       ·have:=h5.2;omega
       ·rcases h9.2 with h4 | h4 <;> omega)⟩) _ _ _ HAQ.out.2.2
      have hrv9:∀ b,rv3.ownBlock=some b→g4<b∧(b<g7∨W7.heap.size≤b):=fun b hb=>by
       rcases hown9 with h9 | ⟨g,h9,h8⟩
       ·exact HRv.out b (by rw [← h9,hb])
       ·rw [h9] at hb
        cases hb
        have h7:=HSz.out
        exact ⟨by omega,.inr (by omega)⟩
      have hsz9:=Nat.le_trans HSz.out hat9.size
      have HY:=Lib.hid (And.intro hB9 (And.intro hA9 (And.intro hQ9 (And.intro hG9 (And.intro hrow9 (And.intro hkk9 (And.intro hsz9 hrv9)))))))
      clear hB9 hA9 hQ9 hG9 hrow9 hkk9 hsz9 hrv9 hne hw0 hat9 hown9 y0 y1 y2 y3 y4 y5 y6 y7 y8
      go_wp2_with fail
      go_roundw
      case rel=>exact ⟨j+1,rv3,by omega,by go_num,HY.out.1,HY.out.2.1,HY.out.2.2.1,HY.out.2.2.2.1,by rw [HT2.out];exact HY.out.2.2.2.2.1,HY.out.2.2.2.2.2.1,HY.out.2.2.2.2.2.2.1,HY.out.2.2.2.2.2.2.2⟩
      case measure=>simp [intOf];omega
     ·subst hjeq
      have HT2:Hid ((Qy.flat1 5 sx).foldl (Qy.addP 5) acc=(sx.kids.take j).foldl (Qy.addP 5) acc):=Lib.hid (by
       unfold Qy.flat1
       rw [if_pos HKK.out.1,List.take_of_length_le (by have:=HKK.out.2;omega)])
      have HY:=Lib.hid (And.intro hB (And.intro hA (And.intro hQ (And.intro hG (And.intro hrow hrv)))))
      clear hB hA hQ hG hrow hkk hsz hrv
      go_wp2_with fail
      go_roundw
      case rel=>exact ⟨i+1,rv2,by omega,by go_num,HY.out.1,HY.out.2.1,HY.out.2.2.1,HY.out.2.2.2.1,by rw [HT.out,HT2.out];exact HY.out.2.2.2.2.1,fun b hb=>(HY.out.2.2.2.2.2 b hb).1⟩
      case measure=>simp [intOf];omega
   ·
    have hkz:(kk==(5:Int))=false:=by simp [hk]
    have HT2:Hid ((Qy.flat1 5 sx).foldl (Qy.addP 5) acc=Qy.addP 5 acc sx):=Lib.hid (by
     unfold Qy.flat1
     rw [if_neg (by rw [HKK.out.1];exact hk)]
     rfl)
    have HADD:=Lib.hid (add5_any (g1:=w.heap.size) HX.out.2.2.2.1 HX.out.2.2.2.2.1 z0 HX.out.2.1.lt ⟨_,rfl,HX.out.2.2.2.2.2.1.wider fun g hg hl=>⟨(HN.out g).2 (((HSK.out g).1 hg).imp id fun h9=>by have:=HLT.out;omega),fun e=>by
     have h9:=HRV.out g e
     have h7:=HLT.out
     have h6:=HW0.out
     rcases (HSK.out g).1 hg with h5 | h5
     ·have:=h5.2;omega
     ·omega⟩⟩ HN4.out HNew.out (by have:=HSX.out;omega) (small_acc (by have:=HNB.out;omega)).1 (small_acc (by have:=HNB.out;omega)).2)
    go_wp2_with fail
    refine HADD.out.mono ?_
    rintro e w9 ⟨rfl,rv3,hG9,hrow9,hat9,hown9⟩
    have hne:∀ q,q≤g4→rv.ownBlock≠some q:=fun q hq e=>by have h9:=(HRV.out q e).1;omega
    have hw0:=HW0.out
    have hB9:Below w.heap.size w w9:=Below.trans HX.out.1 (hat9.below (by omega) (fun x hx=>by have h9:=(HRV.out x hx).1;omega) HX.out.1.size)
    have hA9:=HX.out.2.1.at2 hat9 (by omega) (hne _ (by omega))
    have hQ9:=HX.out.2.2.1.at2 hat9 (by omega) (hne _ (by omega))
    have hrv9:∀ b,rv3.ownBlock=some b→g4<b:=fun b hb=>by
     rcases hown9 with h9 | ⟨g,h9,h8⟩
     ·exact (HRV.out b (by rw [← h9,hb])).1
     ·rw [h9] at hb
      cases hb
      omega
    have HY:=Lib.hid (And.intro hB9 (And.intro hA9 (And.intro hQ9 (And.intro hG9 (And.intro hrow9 hrv9)))))
    clear hB9 hA9 hQ9 hG9 hrow9 hrv9 hne hw0 hat9 hown9 y0 y1 y2 y3 y4 y5 y6 y7 y8 z0
    go_wp2_with fail
    go_roundw
    case rel=>exact ⟨i+1,rv3,by omega,by go_num,HY.out.1,HY.out.2.1,HY.out.2.2.1,HY.out.2.2.2.1,by rw [HT.out,HT2.out];exact HY.out.2.2.2.2.1,HY.out.2.2.2.2.2⟩
    case measure=>simp [intOf];omega
  ·subst heq
   obtain ⟨L,hL⟩:∃ L,(Qy.flatP 5 (kids.map Qy.smp)).foldl (Qy.addP 5) []=L:=⟨_,rfl⟩
   have hLL:(Qy.flatP 5 ((kids.take i).map Qy.smp)).foldl (Qy.addP 5) []=L:=by rw [List.take_of_length_le (by have:=HM.out;omega),hL]
   have HFin:Hid (Qy.smp (Qy.kidsR 5 kids)=Qy.fin 5 L):=Lib.hid (by rw [HSM.out,hL])
   have HLS:Hid (L.length≤900000):=Lib.hid (by
    have h9:=acc_nodes 5 HV.out.1
    rw [hL] at h9
    have h8:=HV.out.2
    exact (small_acc (by omega)).1)
   rw [hLL] at hrow
   obtain ⟨A9,c9,hrve,hkids⟩:=hrow.kids
   subst hrve
   obtain ⟨q,hq⟩:∃ q,L.length=q:=⟨_,rfl⟩
   have HQL:=Lib.hid hq
   rw [hq] at hG
   have hqb:q≤900000:=by rw [← hq];exact HLS.out
   have z4:=hG.cell 0
   have HY:=Lib.hid (And.intro hB (And.intro hA (And.intro hQ (And.intro hG hkids))))
   clear hB hA hQ hG hrow hrv hkids hL hLL hq
   obtain ⟨⟨y0,y1,y2,y3,y4,y5,y6,y7,y8⟩,_⟩:=HY.out.2.1.all9
   obtain ⟨b1,hb1⟩:∃ b,L.any Qy.wholeB=b:=⟨_,rfl⟩
   have HC1:Hid (Calls Tryd.prog 74 #[.slice A9 q c9,.func (.func 69) #[] #[]] wr (RetB wr b1)):=Lib.hid (by
    have h9:=containsW (c:=c9) (p:=Qy.wholeB) (l:=L) (w:=wr) (by have:=HLS.out;omega) (fun R' hR' v' u hu hv'=>whole_any hv') HY.out.2.2.2.2
    rw [HQL.out,hb1] at h9
    exact h9)
   have HB1:=Lib.hid hb1
   clear hb1
   go_wp2_with fail
   refine HC1.out.mono ?_
   rintro e w2 ⟨rfl,k2⟩
   have HB2:=Lib.hid (Below.call HY.out.1 k2)
   have HQ2:=Lib.hid (HY.out.2.2.1.on k2)
   have HG2_:=Lib.hid (HY.out.2.2.2.1.on k2)
   have HA2:=Lib.hid (HY.out.2.1.on k2)
   have HK2:=Lib.hid (HY.out.2.2.2.2.on k2)
   clear k2 y0 y1 y2 y3 y4 y5 y6 y7 y8 z4 HC1
   obtain ⟨⟨y0,y1,y2,y3,y4,y5,y6,y7,y8⟩,_⟩:=HA2.out.all9
   have z4:=HG2_.out.cell 0
   cases b1
   rotate_left
   ·
    have HS2:Hid (Qy.smp (Qy.kidsR 5 kids)=Qy.wholeR):=Lib.hid (by rw [HFin.out];unfold Qy.fin;rw [if_neg (by omega),if_pos (.inl ⟨rfl,HB1.out⟩)])
    obtain ⟨⟨e0,e1,e2,e3,e4,e5,e6,e7,e8⟩,f0,f1,f2,f3,f4,f5,f6,f7,f8⟩:=(HQ2.out).all9
    go_wp2_with fail
    obtain ⟨hO9,hk9⟩:=(HQ2.out).put9 (x0:=.int .i64 0) (x1:=.string ⟨#[]⟩) (x2:=.int .i64 0) (x3:=.int .i64 0) (x4:=.int .i64 0) (x5:=.int .i64 0) (x6:=.int .i64 0) (x7:=.int .i64 0) (x8:=.slice none 0 0)
    clear e0 e1 e2 e3 e4 e5 e6 e7 e8 f0 f1 f2 f3 f4 f5 f6 f7 f8
    revert hO9 hk9
    generalize (((((((((w2.setCell _ _).setCell _ _).setCell _ _).setCell _ _).setCell _ _).setCell _ _).setCell _ _).setCell _ _).setCell _ _)=W9
    intro hO9 hk9
    obtain ⟨⟨q0,q1,q2,q3,q4,q5,q6,q7,q8⟩,_⟩:=hO9.all9
    refine bodyPost_ret (v:=.agg #[.int .i64 0,.string ⟨#[]⟩,.int .i64 0,.int .i64 0,.int .i64 0,.int .i64 0,.int .i64 0,.int .i64 0,.slice none 0 0]) (by simp [results,Tryd.results45,go_sem,q0,q1,q2,q3,q4,q5,q6,q7,q8]) rfl ?_
    exact ⟨_,rfl,Below.grown (HB2.out) hk9 (HB2.out).size (fun j hj=>by cases hj;exact HG2.out),[.int .i64 0,.string ⟨#[]⟩,.int .i64 0,.int .i64 0,.int .i64 0,.int .i64 0,.int .i64 0,.int .i64 0,.slice none 0 0],rfl,by rw [HS2.out];exact zcells_reg _ _⟩
   by_cases hq1:q=1
   ·subst hq1
    obtain ⟨x,hx⟩:∃ x,L[0]? = some x:=⟨_,List.getElem?_eq_getElem (by have:=HQL.out;omega)⟩
    have HS2:Hid (Qy.smp (Qy.kidsR 5 kids)=x):=Lib.hid (by
     rw [HFin.out];unfold Qy.fin;rw [if_neg (by omega),if_neg (by rw [HB1.out];simp),if_pos HQL.out]
     cases hL:L with
     | nil=>rw [hL] at hx;cases hx
     | cons a l=>rw [hL] at hx;simpa using hx)
    obtain ⟨gy,of2,d0,t1,d2,d3,d4,d5,d6,d7,B8,l8,c8,rfl,_,hgl,⟨a0,a1,a2,a3,a4,a5,a6,a7,a8⟩,hRx⟩:=HK2.out.lit hx
    simp only [Nat.zero_mul,Nat.add_zero] at a0 a1 a2 a3 a4 a5 a6 a7 a8
    have HRX:=Lib.hid hRx
    clear hRx hgl hx
    obtain ⟨⟨e0,e1,e2,e3,e4,e5,e6,e7,e8⟩,f0,f1,f2,f3,f4,f5,f6,f7,f8⟩:=(HQ2.out).all9
    go_wp2_with fail
    obtain ⟨hO9,hk9⟩:=(HQ2.out).put9 (x0:=.int .i64 d0) (x1:=.string t1) (x2:=.int .i64 d2) (x3:=.int .i64 d3) (x4:=.int .i64 d4) (x5:=.int .i64 d5) (x6:=.int .i64 d6) (x7:=.int .i64 d7) (x8:=.slice B8 l8 c8)
    clear e0 e1 e2 e3 e4 e5 e6 e7 e8 f0 f1 f2 f3 f4 f5 f6 f7 f8
    revert hO9 hk9
    generalize (((((((((w2.setCell _ _).setCell _ _).setCell _ _).setCell _ _).setCell _ _).setCell _ _).setCell _ _).setCell _ _).setCell _ _)=W9
    intro hO9 hk9
    obtain ⟨⟨q0,q1,q2,q3,q4,q5,q6,q7,q8⟩,_⟩:=hO9.all9
    refine bodyPost_ret (v:=.agg #[.int .i64 d0,.string t1,.int .i64 d2,.int .i64 d3,.int .i64 d4,.int .i64 d5,.int .i64 d6,.int .i64 d7,.slice B8 l8 c8]) (by simp [results,Tryd.results45,go_sem,q0,q1,q2,q3,q4,q5,q6,q7,q8]) rfl ?_
    exact ⟨_,rfl,Below.grown (HB2.out) hk9 (HB2.out).size (fun j hj=>by cases hj;exact HG2.out),[.int .i64 d0,.string t1,.int .i64 d2,.int .i64 d3,.int .i64 d4,.int .i64 d5,.int .i64 d6,.int .i64 d7,.slice B8 l8 c8],rfl,by rw [HS2.out];exact (RegAt.atg (HRX.out) hk9 HNn.out).wider fun g hg _=>HNw.out g hg⟩
   have hq1z:((q:Int)==1)=false:=by simp;omega
   have HS2:Hid (Qy.smp (Qy.kidsR 5 kids)=Qy.kidsR 5 L):=Lib.hid (by rw [HFin.out];unfold Qy.fin;rw [if_neg (by omega),if_neg (by rw [HB1.out];simp),if_neg (by rw [HQL.out];exact hq1)])
   obtain ⟨⟨e0,e1,e2,e3,e4,e5,e6,e7,e8⟩,f0,f1,f2,f3,f4,f5,f6,f7,f8⟩:=(HQ2.out).all9
   go_wp2_with fail
   obtain ⟨hO9,hk9⟩:=(HQ2.out).put9 (x0:=.int .i64 5) (x1:=.string ⟨#[]⟩) (x2:=.int .i64 0) (x3:=.int .i64 0) (x4:=.int .i64 0) (x5:=.int .i64 0) (x6:=.int .i64 0) (x7:=.int .i64 0) (x8:=.slice A9 q c9)
   clear e0 e1 e2 e3 e4 e5 e6 e7 e8 f0 f1 f2 f3 f4 f5 f6 f7 f8
   revert hO9 hk9
   generalize (((((((((w2.setCell _ _).setCell _ _).setCell _ _).setCell _ _).setCell _ _).setCell _ _).setCell _ _).setCell _ _).setCell _ _)=W9
   intro hO9 hk9
   obtain ⟨⟨q0,q1,q2,q3,q4,q5,q6,q7,q8⟩,_⟩:=hO9.all9
   refine bodyPost_ret (v:=.agg #[.int .i64 5,.string ⟨#[]⟩,.int .i64 0,.int .i64 0,.int .i64 0,.int .i64 0,.int .i64 0,.int .i64 0,.slice A9 q c9]) (by simp [results,Tryd.results45,go_sem,q0,q1,q2,q3,q4,q5,q6,q7,q8]) rfl ?_
   exact ⟨_,rfl,Below.grown (HB2.out) hk9 (HB2.out).size (fun j hj=>by cases hj;exact HG2.out),[.int .i64 5,.string ⟨#[]⟩,.int .i64 0,.int .i64 0,.int .i64 0,.int .i64 0,.int .i64 0,.int .i64 0,.slice A9 q c9],rfl,by rw [HS2.out];exact (RegAt.atg (kids_reg HK2.out HQL.out) hk9 HNn.out).wider fun g hg _=>HNw.out g hg⟩
set_option maxRecDepth 100000 in
theorem psimple_any:∀ n,n≤400000→SimIH n:=by
 intro n
 induction n with
 | zero=>intro _ R h;have:=Qy.nodes_pos R;omega
 | succ n ih=>
  intro hb R hn hv S cs w h
  rcases Qy.node_cases hv with ⟨h0,h1,_⟩ | ⟨x,rfl,hx⟩ | ⟨hk,e,hx⟩
  ·exact simple_leaf ⟨h0,h1⟩ S cs w h
  ·rw [Qy.nodes_kids,Qy.nodesL_one] at hn
   exact simple_not (ih (by omega)) (by omega) hx S cs w h
  ·have hn':Qy.nodesL R.kids≤n:=by rw [Qy.nodes_of_kids] at hn;omega
   rw [e] at h ⊢
   rcases hk with k | k
   ·rw [k] at h ⊢
    exact simple_kids4 (ih (by omega)) hn' (by omega) hx S cs w h
   ·rw [k] at h ⊢
    exact simple_kids5 (ih (by omega)) hn' (by omega) hx S cs w h
end Go.Proofs.YtmlpibdincfgbaaDoor
namespace Go.Proofs.YtmlpibdincfgbaaDoor
open Go.RowKit
set_option linter.unusedSimpArgs false
set_option linter.unusedVariables false
set_option maxRecDepth 100000 in
set_option maxHeartbeats 1600000 in
theorem pSimple_any (R:Qy.Reg) (hn:Qy.nodes R≤1000000) (v:Value) (w:World) (hv:IsReg w R v):Calls Tryd.prog 20 #[v] w fun e w'=>∃ v',e=.returned (.tuple #[v',.int .i64 (Qy.regE R)])∧Below w.heap.size w w'∧IsReg w' (if Qy.regE R=0 then Qy.smp R else Qy.wholeR) v':=by
 have hv0:=hv
 obtain ⟨cs,rfl,hR⟩:=hv
 obtain ⟨E,hE⟩:∃ E,Qy.regE R=E:=⟨_,rfl⟩
 have hsm:E=0→Qy.nodes R≤400000∧Qy.nodeE R=0:=fun e=>by
  rw [e] at hE
  unfold Qy.regE at hE
  split at hE
  ·cases hE
  ·exact ⟨by omega,hE⟩
 have HSI:Hid (E=0→∀ u,Below w.heap.size w u→Calls Tryd.prog 45 #[.agg cs.toArray] u (SimP (fun g=>g<w.heap.size) u R)):=Lib.hid fun e u k=>psimple_any _ (hsm e).1 R (Nat.le_refl _) (hsm e).2 _ _ u ((hR.wider fun g _ hl=>hl).on k)
 have HRG:=Lib.hid fun v u h=>region_any R hn v u h
 rw [hE] at HRG ⊢
 obtain ⟨s1,n2,n3,n4,n5,n6,n7,A,c,rfl,_⟩:=hR.litk
 obtain ⟨k,hkk⟩:∃ k,R.kind=k:=⟨_,rfl⟩
 obtain ⟨m,hm⟩:∃ m,R.kids.length=m:=⟨_,rfl⟩
 rw [hkk,hm] at HSI hv0 ⊢
 have HV:=Lib.hid hv0
 clear hR hkk hm hsm hE hn hv0
 go_enter Tryd.func20,Tryd.ntmps20
 go_upto_region 1 with fail
 refine wp_new2 fun W0 hA hQ hB=>?_
 obtain ⟨g2,hg2⟩:∃ g2,w.heap.size+1=g2:=⟨_,rfl⟩
 rw [hg2] at hQ ⊢
 have HG2:Hid (w.heap.size≤g2):=Lib.hid (by omega)
 have HB:=Lib.hid hB
 have HQ:=Lib.hid hQ
 have HA:=Lib.hid hA
 have HC:=Lib.hid (HRG.out _ _ (isReg_keep HV.out hB))
 obtain ⟨⟨y0,y1,y2,y3,y4,y5,y6,y7,y8⟩,_⟩:=hA.all9
 clear hA hQ hB HRG
 go_wp2_with fail
 refine HC.out.mono ?_
 rintro e w1 ⟨rfl,k1⟩
 have HB1:=Lib.hid (Below.call HB.out k1)
 have HQ1:=Lib.hid (HQ.out.on k1)
 have HA1:=Lib.hid (HA.out.on k1)
 clear k1 y0 y1 y2 y3 y4 y5 y6 y7 y8
 by_cases h0:E=0
 rotate_left
 ·
  have HE0:=Lib.hid h0
  have hez:(E==0)=false:=by simp [h0]
  obtain ⟨⟨e0,e1,e2,e3,e4,e5,e6,e7,e8⟩,f0,f1,f2,f3,f4,f5,f6,f7,f8⟩:=(HQ1.out).all9
  go_wp2_with fail
  obtain ⟨hO9,hk9⟩:=(HQ1.out).put9 (x0:=.int .i64 0) (x1:=.string ⟨#[]⟩) (x2:=.int .i64 0) (x3:=.int .i64 0) (x4:=.int .i64 0) (x5:=.int .i64 0) (x6:=.int .i64 0) (x7:=.int .i64 0) (x8:=.slice none 0 0)
  clear e0 e1 e2 e3 e4 e5 e6 e7 e8 f0 f1 f2 f3 f4 f5 f6 f7 f8
  revert hO9 hk9
  generalize (((((((((w1.setCell _ _).setCell _ _).setCell _ _).setCell _ _).setCell _ _).setCell _ _).setCell _ _).setCell _ _).setCell _ _)=W9
  intro hO9 hk9
  obtain ⟨⟨q0,q1,q2,q3,q4,q5,q6,q7,q8⟩,_⟩:=hO9.all9
  refine bodyPost_ret (v:=.tuple #[.agg #[.int .i64 0,.string ⟨#[]⟩,.int .i64 0,.int .i64 0,.int .i64 0,.int .i64 0,.int .i64 0,.int .i64 0,.slice none 0 0],.int .i64 E]) (by simp [results,Tryd.results20,go_sem,q0,q1,q2,q3,q4,q5,q6,q7,q8]) rfl ?_
  exact ⟨_,rfl,Below.grown (HB1.out) hk9 (HB1.out).size (fun j hj=>by cases hj;exact HG2.out),(zcells_reg W9 (fun _=>True)).isReg⟩
 subst h0
 have HC2:=Lib.hid (HSI.out rfl _ HB1.out)
 obtain ⟨⟨y0,y1,y2,y3,y4,y5,y6,y7,y8⟩,_⟩:=HA1.out.all9
 go_wp2_with fail
 refine HC2.out.mono ?_
 rintro e w2 ⟨v2,rfl,k2,cs2,rfl,hR2⟩
 have HQ2:=Lib.hid (HQ1.out.on k2)
 have HB2:=Lib.hid (Below.call HB1.out k2)
 obtain ⟨u1,m2,m3,m4,m5,m6,m7,A1,c1,rfl,_⟩:=hR2.litk
 obtain ⟨kk,hkk⟩:∃ k,(Qy.smp R).kind=k:=⟨_,rfl⟩
 obtain ⟨mm,hmm⟩:∃ m,(Qy.smp R).kids.length=m:=⟨_,rfl⟩
 rw [hkk,hmm] at hR2 ⊢
 have HR2:=Lib.hid hR2
 clear k2 hR2 hkk hmm y0 y1 y2 y3 y4 y5 y6 y7 y8 HC HC2 HSI
 obtain ⟨⟨e0,e1,e2,e3,e4,e5,e6,e7,e8⟩,f0,f1,f2,f3,f4,f5,f6,f7,f8⟩:=(HQ2.out).all9
 go_wp2_with fail
 obtain ⟨hO9,hk9⟩:=(HQ2.out).put9 (x0:=.int .i64 kk) (x1:=.string u1) (x2:=.int .i64 m2) (x3:=.int .i64 m3) (x4:=.int .i64 m4) (x5:=.int .i64 m5) (x6:=.int .i64 m6) (x7:=.int .i64 m7) (x8:=.slice A1 mm c1)
 clear e0 e1 e2 e3 e4 e5 e6 e7 e8 f0 f1 f2 f3 f4 f5 f6 f7 f8
 revert hO9 hk9
 generalize (((((((((w2.setCell _ _).setCell _ _).setCell _ _).setCell _ _).setCell _ _).setCell _ _).setCell _ _).setCell _ _).setCell _ _)=W9
 intro hO9 hk9
 obtain ⟨⟨q0,q1,q2,q3,q4,q5,q6,q7,q8⟩,_⟩:=hO9.all9
 refine bodyPost_ret (v:=.tuple #[.agg #[.int .i64 kk,.string u1,.int .i64 m2,.int .i64 m3,.int .i64 m4,.int .i64 m5,.int .i64 m6,.int .i64 m7,.slice A1 mm c1],.int .i64 0]) (by simp [results,Tryd.results20,go_sem,q0,q1,q2,q3,q4,q5,q6,q7,q8]) rfl ?_
 exact ⟨_,rfl,Below.grown (HB2.out) hk9 (HB2.out).size (fun j hj=>by cases hj;exact HG2.out),(HR2.out.atg hk9 (fun h=>by have h8:=HG2.out;have h9:=HQ1.out.lt;rcases h with h | h <;> omega)).isReg⟩
end Go.Proofs.YtmlpibdincfgbaaDoor
