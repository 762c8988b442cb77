/-
  Queries, plain: what is printed is read again.
-/
import Derived.Test.YtmlpibdincfgbaaGreatDoorQS1
namespace Qy
open Go
def Stop (r:Bs):Prop:=∀ d r',r=d :: r'→isW d=false
theorem Stop.nil:Stop []:=fun d r' h=>by cases h
theorem Stop.cons {d:UInt8} {r:Bs} (h:isW d=false):Stop (d :: r):=fun e r' h'=>by cases h';exact h
theorem more_W {c d:UInt8} (h:isW d=false):more c d=false:=by
 unfold more
 unfold isW at h
 simp only [Bool.or_eq_false_iff] at h
 split
 ·unfold isW;simp [h.1.1,h.1.2,h.2]
 split
 ·exact h.1.2
 ·rfl
theorem toks_word {c:UInt8} {w r:Bs} (i:Nat) (hc:c≠32) (hw:∀ d∈w,more c d=true) (hr:∀ d r',r=d :: r'→more c d=false):toks (c :: (w++r)) i=⟨c :: w,i⟩ :: toks r (i+1+w.length):=by
 obtain ⟨h1,h2⟩:=take_stop hw hr
 rw [toks,if_neg hc,h1,h2]
theorem toks_ne (s:Bs) (i:Nat):toks s i≠[]:=(toks_good s.length s i (Nat.le_refl _)).1.ne
theorem stp_toks (t:Tok) (s:Bs) (i:Nat):stp (t :: toks s i)=toks s i:=by
 have h:=toks_ne s i
 match hx:toks s i,h with
 | u :: r,_=>rfl
theorem toks_32 (s:Bs) (i:Nat):toks (32 :: s) i=toks s (i+1):=by rw [toks,if_pos rfl]
theorem hd_toks:∀ (s:Bs) (i j:Nat),hd (toks s i)=hd (toks s j):=by
 intro s
 induction s with
 | nil=>intro i j;rw [toks,toks];rfl
 | cons c s ih=>
  intro i j
  rw [toks,toks]
  split
  ·exact ih _ _
  ·rfl
def wordB:Bs→Bool
 | []=>false
 | c :: w=>!(c==32)&&w.all (more c)
theorem toks_kw (s:Bs) (h:wordB s=true) {r:Bs} (hr:Stop r) (i:Nat):toks (s++r) i=⟨s,i⟩ :: toks r (i+s.length):=by
 match s,h with
 | c :: w,h=>
  unfold wordB at h
  simp only [Bool.and_eq_true,Bool.not_eq_true',beq_eq_false_iff_ne,List.all_eq_true] at h
  rw [List.cons_append,toks_word i h.1 h.2 (fun d r' e=>more_W (hr d r' e)),List.length_cons,Nat.add_assoc,Nat.add_comm 1]
theorem toks_sign (c:UInt8) (h:(isW c||c==32)=false) (r:Bs) (i:Nat):toks (c :: r) i=⟨[c],i⟩ :: toks r (i+1):=by
 simp only [Bool.or_eq_false_iff,isW,beq_eq_false_iff_ne] at h
 have hm:more c=fun _=>false:=by
  unfold more
  simp [h.1.1.1,h.1.1.2,h.1.2]
 have:=toks_word (c:=c) (w:=[]) (r:=r) i h.2 (by simp) (fun d r' _=>by rw [hm])
 simpa using this
theorem need_kw (s:Bs) (h:wordB s=true) {r:Bs} (hr:Stop r) (i:Nat):need s (toks (s++r) i)=.ok () (toks r (i+s.length)):=by
 unfold need
 rw [toks_kw s h hr,stp_toks]
 exact if_pos rfl
theorem need_sign (c:UInt8) (h:(isW c||c==32)=false) (r:Bs) (i:Nat):need [c] (toks (c :: r) i)=.ok () (toks r (i+1)):=by
 unfold need
 rw [toks_sign c h,stp_toks]
 exact if_pos rfl
theorem dec_parts (u:Nat):digV (Lib.decDigits u)=u∧(∀ c∈Lib.decDigits u,isD c=true)∧∃ c w,Lib.decDigits u=c :: w∧(c=48→u=0):=by
 induction u using Nat.strongRecOn with
 | _ u ih=>
  have hd:∀ k,k<10→(UInt8.ofNat (48+k)).toNat=48+k:=fun k hk=>by
   rw [UInt8.toNat_ofNat']
   omega
  rw [Lib.decDigits]
  by_cases h:u<10
  ·rw [dif_pos h]
   refine ⟨?_,?_,_,_,rfl,fun e=>?_⟩
   ·show 0 * 10+((UInt8.ofNat (48+u)).toNat - 48)=u
    rw [hd u h];omega
   ·intro c hc
    rw [List.mem_singleton.1 hc]
    unfold isD
    rw [hd u h]
    simp;omega
   ·have:=congrArg UInt8.toNat e
    rw [hd u h] at this
    have h48:(48:UInt8).toNat=48:=rfl
    omega
  ·rw [dif_neg h]
   obtain ⟨h1,h2,c,w,h3,h4⟩:=ih (u / 10) (by omega)
   refine ⟨?_,?_,c,w++[UInt8.ofNat (48+u % 10)],by rw [h3];rfl,fun e=>by have:=h4 e;omega⟩
   ·rw [digV_append,h1]
    show u / 10 * 10 ^ 1+(0 * 10+((UInt8.ofNat (48+u % 10)).toNat - 48))=u
    rw [hd _ (by omega)];omega
   ·intro c hc
    rcases List.mem_append.1 hc with hc | hc
    ·exact h2 c hc
    ·rw [List.mem_singleton.1 hc]
     unfold isD
     rw [hd _ (by omega)]
     simp;omega
theorem more_dig {c d:UInt8} (h:isD c=true∨c=45) (k:isD d=true):more c d=true:=by
 unfold more
 rw [isL_not h]
 have e:(isD c||c==45)=true:=by rcases h with h | h <;> simp [h]
 simp [e,k]
theorem itoa_parts (n:Int) (h0:-1073741824≤n) (h1:n≤1073741824):wordB (Lib.itoa n)=true∧numOK (Lib.itoa n)=true∧numV (Lib.itoa n)=n:=by
 obtain ⟨d1,d2,c,w,d3,d4⟩:=dec_parts n.natAbs
 have hl:=decDigits_len 9 n.natAbs (by omega)
 have hlp:1≤(Lib.decDigits n.natAbs).length:=by rw [d3];simp
 have hc:=d2 c (by rw [d3];simp)
 unfold Lib.itoa
 by_cases hn:n<0
 ·rw [if_pos hn]
  have e:digs (45 :: Lib.decDigits n.natAbs)=Lib.decDigits n.natAbs:=rfl
  refine ⟨?_,?_,?_⟩
  ·unfold wordB
   simp only [Bool.and_eq_true,List.all_eq_true]
   exact ⟨rfl,fun d hd=>more_dig (.inr rfl) (d2 d hd)⟩
  ·unfold numOK
   rw [e]
   simp only [Bool.and_eq_true,decide_eq_true_eq]
   refine ⟨⟨⟨hlp,hl⟩,by rw [d3];exact hc⟩,?_⟩
   have:((Lib.decDigits n.natAbs).headD 0==48)=false:=by
    rw [d3,beq_eq_false_iff_ne]
    intro e
    have:=d4 e
    omega
   rw [this]
   rfl
  ·show -(digV (digs (45 :: Lib.decDigits n.natAbs)):Int)=n
   rw [e,d1];omega
 ·rw [if_neg hn,show n.toNat=n.natAbs by omega]
  have hc45:c≠45:=fun e=>by rw [e] at hc;revert hc;decide
  have e:digs (Lib.decDigits n.natAbs)=Lib.decDigits n.natAbs:=by
   rw [d3]
   unfold digs
   split
   ·rename_i r e
    injection e with e
    exact absurd e hc45
   ·rfl
  refine ⟨?_,?_,?_⟩
  ·rw [d3]
   unfold wordB
   simp only [Bool.and_eq_true,List.all_eq_true]
   refine ⟨?_,fun d hd=>more_dig (.inl hc) (d2 d (by rw [d3];simp [hd]))⟩
   have:c≠32:=fun e=>by rw [e] at hc;revert hc;decide
   simpa using this
  ·unfold numOK
   rw [e]
   simp only [Bool.and_eq_true,decide_eq_true_eq]
   refine ⟨⟨⟨hlp,hl⟩,by rw [d3];exact hc⟩,?_⟩
   by_cases e48:c=48
   ·have h0:=d4 e48
    rw [h0,show Lib.decDigits 0=[48] by rw [Lib.decDigits];rfl]
    rfl
   ·have:((Lib.decDigits n.natAbs).headD 0==48)=false:=by
     rw [d3,beq_eq_false_iff_ne]
     exact e48
    rw [this]
    rfl
  ·unfold numV
   rw [e,d1,if_neg (by rw [d3];exact hc45)];omega
theorem num_read {lo hi n:Int} (h:lo≤n∧n≤hi) (h0:-1073741824≤n) (h1:n≤1073741824) {r:Bs} (hr:Stop r) (i:Nat):∃ j,pNum lo hi (toks (Lib.itoa n++r) i)=.ok n (toks r j):=by
 obtain ⟨k1,k2,k3⟩:=itoa_parts n h0 h1
 refine ⟨i+(Lib.itoa n).length,?_⟩
 unfold pNum
 rw [toks_kw _ k1 hr,stp_toks]
 show (if numOK (Lib.itoa n)=true then (if lo≤numV (Lib.itoa n)∧numV (Lib.itoa n)≤hi then Res.ok (numV (Lib.itoa n)) _ else _) else _)=_
 rw [if_pos k2,k3,if_pos h]
theorem point_read {lx ly x y:Int} (hp:ptOK x y=true) (hx:lx≤x) (hy:ly≤y) {r:Bs} (hr:Stop r) (i:Nat):∃ j,pPoint lx ly (toks (coordsT x y++r) i)=.ok (x,y) (toks r j):=by
 unfold ptOK at hp
 simp only [Bool.and_eq_true,decide_eq_true_eq] at hp
 unfold coordsT
 rw [List.append_assoc,List.cons_append]
 obtain ⟨j1,e1⟩:=num_read (lo:=lx) (hi:=1073741824) (n:=x) ⟨hx,by omega⟩ (by omega) (by omega) (r:=44 :: (Lib.itoa y++r)) (Stop.cons rfl) i
 obtain ⟨j2,e2⟩:=num_read (lo:=ly) (hi:=1073741824) (n:=y) ⟨hy,by omega⟩ (by omega) (by omega) hr (j1+1)
 refine ⟨j2,?_⟩
 unfold pPoint
 rw [e1]
 show (need [44] _).on _=_
 rw [need_sign 44 rfl]
 show (pNum _ _ _).on _=_
 rw [e2]
 rfl
def opOf (k:Int):Bs:=if k=4 then wAnd else wOr
def tailT (op:Bs) (l:List Reg):Bs:=l.flatMap fun k=>32 :: (op++(32 :: text k true))
def ReadI (R:Reg):Prop:=∀ (f:Nat) (r:Bs) (i:Nat),3 * nodes R≤f→Stop r→∃ j,pItem f (toks (text R true++r) i)=.ok R (toks r j)
theorem tail_stop {op:Bs} {l:List Reg} {r:Bs} (hr:Stop r):Stop (tailT op l++r):=by
 cases l with
 | nil=>exact hr
 | cons k l=>exact Stop.cons rfl
theorem join_read {op:Bs} (ho:op=wAnd∨op=wOr):∀ (l:List Reg) (acc:List Reg) (f:Nat) (r:Bs) (i:Nat),(∀ k∈l,ReadI k)→3 * nodesL l+1≤f→Stop r→hd (toks r 0)≠op→
 ∃ j,pJoin f op acc (toks (tailT op l++r) i)=.ok (kidsR (if op=wOr then 5 else 4) (acc++l)) (toks r j):=by
 intro l
 induction l with
 | nil=>
  intro acc f r i _ hf hr hne
  obtain ⟨f,rfl⟩:∃ g,f=g+1:=⟨f - 1,by omega⟩
  refine ⟨i,?_⟩
  show pJoin (f+1) op acc (toks r i)=_
  rw [pJoin,if_neg (by rw [hd_toks r i 0];exact hne),List.append_nil]
 | cons k l ih=>
  intro acc f r i hk hf hr hne
  rw [nodesL] at hf
  have hp:=nodes_pos k
  obtain ⟨f,rfl⟩:∃ g,f=g+1:=⟨f - 1,by omega⟩
  have hw:wordB op=true:=by rcases ho with rfl | rfl <;> rfl
  have e:tailT op (k :: l)++r=32 :: (op++(32 :: (text k true++(tailT op l++r)))):=by
   unfold tailT
   simp [List.append_assoc]
  rw [e,toks_32,toks_kw op hw (Stop.cons rfl),toks_32,pJoin,stp_toks]
  rw [if_pos (show hd (_ :: _)=op from rfl)]
  obtain ⟨j1,e1⟩:=hk k (by simp) f (tailT op l++r) (i+1+op.length+1) (by omega) (tail_stop hr)
  rw [e1]
  obtain ⟨j2,e2⟩:=ih (acc++[k]) f r j1 (fun x hx=>hk x (by simp [hx])) (by omega) hr hne
  refine ⟨j2,?_⟩
  show pJoin f op (acc++[k]) _=_
  rw [e2,List.append_assoc]
  rfl
def Begins (t:Bs):Prop:=∃ c w,t=c :: w∧(isL c=true∨c=40)
theorem Begins.append {t:Bs} (h:Begins t) (r:Bs):Begins (t++r):=by
 obtain ⟨c,w,rfl,h⟩:=h
 exact ⟨c,w++r,rfl,h⟩
theorem begins_hd {t:Bs} (h:Begins t) (i:Nat):hd (toks t i)≠[41]:=by
 obtain ⟨c,w,rfl,h⟩:=h
 have hc:c≠32:=fun e=>by subst e;rcases h with h | h <;> revert h <;> decide
 rw [toks,if_neg hc]
 intro e
 have e2:c :: w.takeWhile (more c)=[41]:=e
 injection e2 with e3 _
 subst e3
 rcases h with h | h <;> revert h <;> decide
theorem node_parts {k:Int} {nm:Bs} {ax ay b0 b1 b2 b3:Int} {kids:List Reg} (h:nodeE (.mk k nm ax ay b0 b1 b2 b3 kids)=0) :
 (0≤k∧k≤6)∧(k<4→kids=[])∧(k=6→kids.length=1)∧(k≠1→nm=[])∧(k≠2→ax=0∧ay=0)∧(k≠3→b0=0∧b1=0∧b2=0∧b3=0)∧(k=1→nameOK nm=true)∧ptOK ax ay=true∧boxOK b0 b1 b2 b3=true∧∀ r∈kids,nodeE r=0:=by
 rw [nodeE] at h
 split at h
 ·cases h
 rename_i h1
 split at h
 ·cases h
 rename_i h2
 split at h
 ·cases h
 rename_i h3
 split at h
 ·cases h
 rename_i h4
 have g1:¬ k<0:=fun e=>h1 (.inl e)
 have g2:¬ 6<k:=fun e=>h1 (.inr (.inl e))
 refine ⟨⟨by omega,by omega⟩,fun e=>?_,fun e=>?_,fun e=>?_,fun e=>?_,fun e=>?_,fun e=>?_,?_,?_,nodesE_of h⟩
 ·exact Classical.byContradiction fun c=>h1 (.inr (.inr (.inl ⟨e,c⟩)))
 ·exact Classical.byContradiction fun c=>h1 (.inr (.inr (.inr ⟨e,c⟩)))
 ·exact Classical.byContradiction fun c=>h2 (.inl ⟨e,c⟩)
 ·exact Classical.byContradiction fun c=>h2 (.inr (.inl ⟨e,c⟩))
 ·exact Classical.byContradiction fun c=>h2 (.inr (.inr ⟨e,c⟩))
 ·cases hn:nameOK nm
  ·exact absurd ⟨e,hn⟩ h3
  ·rfl
 ·cases e:ptOK ax ay
  ·exact absurd (.inl e) h4
  ·rfl
 ·cases e:boxOK b0 b1 b2 b3
  ·exact absurd (.inr e) h4
  ·rfl
theorem text_begins:∀ (n:Nat) (R:Reg) (b:Bool),nodes R≤n→nodeE R=0→Begins (text R b):=by
 intro n
 induction n with
 | zero=>intro R b h _;have:=nodes_pos R;omega
 | succ n ih=>
  intro R b h hv
  obtain ⟨k,nm,ax,ay,b0,b1,b2,b3,kids⟩:=R
  obtain ⟨p1,p2,p3,_,_,_,_,_,_,p10⟩:=node_parts hv
  rw [nodes] at h
  rw [text]
  split
  ·exact ⟨_,_,rfl,.inl rfl⟩
  split
  ·exact ⟨_,_,rfl,.inl rfl⟩
  split
  ·exact ⟨_,_,rfl,.inl rfl⟩
  split
  ·exact ⟨_,_,rfl,.inl rfl⟩
  split
  ·exact ⟨_,_,rfl,.inl rfl⟩
  split
  ·rename_i hlen
   split
   ·exact ⟨_,_,rfl,.inr rfl⟩
   ·match kids,p10,h,hlen with
    | k0 :: l,p10,h,_=>
     rw [texts,join]
     rw [nodesL] at h
     exact (ih k0 true (by omega) (p10 k0 (by simp))).append _
    | [],_,_,hlen=>simp at hlen
  ·split <;> exact ⟨_,_,rfl,.inl rfl⟩
theorem tail_eq (op:Bs) (m:List Reg):((texts m true).flatMap fun u=>(32 :: (op++[32]))++u)=tailT op m:=by
 induction m with
 | nil=>rw [texts];rfl
 | cons a m ih=>
  rw [texts,List.flatMap_cons,ih]
  unfold tailT
  rw [List.flatMap_cons]
  simp [List.append_assoc]
theorem tail_hd {op:Bs} (ho:wordB op=true) (k:Reg) (l:List Reg) (r:Bs) (j:Nat):hd (toks (tailT op (k :: l)++r) j)=op:=by
 have e:tailT op (k :: l)++r=32 :: (op++(32 :: (text k true++(tailT op l++r)))):=by
  unfold tailT
  simp [List.append_assoc]
 rw [e,toks_32,toks_kw op ho (Stop.cons rfl)]
 rfl
theorem joined_read {k:Int} (hk:k=4∨k=5) {kids:List Reg} (h2:1<kids.length) (hI:∀ x∈kids,ReadI x) (f:Nat) (r:Bs) (i:Nat) (hf:3 * nodesL kids+1≤f) (hr:Stop r) (hn1:hd (toks r 0)≠wAnd) (hn2:hd (toks r 0)≠wOr) :
 ∃ j,pReg f (toks (join (32 :: (opOf k++[32])) (texts kids true)++r) i)=.ok (kidsR k kids) (toks r j):=by
 match kids,h2,hI,hf with
 | k0 :: k1 :: l,_,hI,hf=>
  have hp:=nodes_pos k0
  have hp1:=nodes_pos k1
  rw [nodesL] at hf
  have hL:1≤nodesL (k1 :: l):=by rw [nodesL];omega
  obtain ⟨f,rfl⟩:∃ g,f=g+1:=⟨f - 1,by omega⟩
  have ho:opOf k=wAnd∨opOf k=wOr:=by unfold opOf;split <;> simp
  have hw:wordB (opOf k)=true:=by rcases ho with h | h <;> rw [h] <;> rfl
  have e:join (32 :: (opOf k++[32])) (texts (k0 :: k1 :: l) true)++r=text k0 true++(tailT (opOf k) (k1 :: l)++r):=by
   rw [texts,join,tail_eq,List.append_assoc]
  rw [e,pReg]
  obtain ⟨j1,e1⟩:=hI k0 (by simp) f (tailT (opOf k) (k1 :: l)++r) i (by omega) (tail_stop hr)
  rw [e1]
  have hh:=tail_hd hw k1 l r j1
  obtain ⟨j2,e2⟩:=join_read ho (k1 :: l) [k0] f r j1 (fun x hx=>hI x (by simp at hx;simp [hx])) (by omega) hr (by rcases ho with h | h <;> rw [h] <;> assumption)
  refine ⟨j2,?_⟩
  show (if hd (toks (tailT (opOf k) (k1 :: l)++r) j1)=wAnd∨hd (toks (tailT (opOf k) (k1 :: l)++r) j1)=wOr then pJoin f (hd (toks (tailT (opOf k) (k1 :: l)++r) j1)) [k0] (toks (tailT (opOf k) (k1 :: l)++r) j1) else _)=_
  rw [hh,if_pos ho,e2]
  rcases hk with rfl | rfl
  ·rw [if_neg (by decide)];rfl
  ·rw [if_pos (by decide)];rfl
def ReadR (R:Reg):Prop:=∀ (f:Nat) (r:Bs) (i:Nat),3 * nodes R+1≤f→Stop r→hd (toks r 0)≠wAnd→hd (toks r 0)≠wOr→∃ j,pReg f (toks (text R false++r) i)=.ok R (toks r j)
theorem reg_of_item {R:Reg} (hI:ReadI R) (hT:text R false=text R true):ReadR R:=by
 intro f r i hf hr hn1 hn2
 obtain ⟨f,rfl⟩:∃ g,f=g+1:=⟨f - 1,by omega⟩
 obtain ⟨j,e⟩:=hI f r i (by omega) hr
 refine ⟨j,?_⟩
 rw [hT,pReg,e]
 show (if hd (toks r j)=wAnd∨hd (toks r j)=wOr then _ else _)=_
 rw [if_neg (by rw [hd_toks r j 0];exact fun h=>h.elim hn1 hn2)]
theorem item_whole (f:Nat) (L:List Tok) (h:hd L=[119,104,111,108,101]):pItem (f+1) L=.ok (kidsR 0 []) (stp L):=by rw [pItem,if_pos h]
theorem item_named (f:Nat) (L:List Tok) (h:hd L=[110,97,109,101,100]) (hL:isL ((hd (stp L)).headD 0)=true) (hn:nameOK (hd (stp L))=true):pItem (f+1) L=.ok (.mk 1 (hd (stp L)) 0 0 0 0 0 0 []) (stp (stp L)):=by
 rw [pItem,h,if_neg (by decide),if_pos rfl,if_neg (by rw [hL];simp),if_neg (by rw [hn];simp)]
theorem item_at (f:Nat) (L:List Tok) (h:hd L=[97,116]):pItem (f+1) L=(pPoint (-1073741824) (-1073741824) (stp L)).on fun p l=>.ok (.mk 2 [] p.1 p.2 0 0 0 0 []) l:=by
 rw [pItem,h,if_neg (by decide),if_neg (by decide),if_pos rfl]
theorem item_within (f:Nat) (L:List Tok) (h:hd L=[119,105,116,104,105,110]):pItem (f+1) L=(pPoint (-1073741824) (-1073741824) (stp L)).on fun p l=>(need [116,111] l).on fun _ l=>(pPoint p.1 p.2 l).on fun q l=>.ok (.mk 3 [] 0 0 p.1 p.2 q.1 q.2 []) l:=by
 rw [pItem,h,if_neg (by decide),if_neg (by decide),if_neg (by decide),if_pos rfl]
theorem item_not (f:Nat) (L:List Tok) (h:hd L=[110,111,116]):pItem (f+1) L=(pItem f (stp L)).on fun r l=>.ok (kidsR 6 [r]) l:=by
 rw [pItem,h,if_neg (by decide),if_neg (by decide),if_neg (by decide),if_neg (by decide),if_pos rfl]
theorem item_list (f:Nat) (L:List Tok) {k:Int} (hk:k=4∨k=5) (h:hd L=if k=4 then [97,108,108] else [97,110,121]):pItem (f+1) L=(pList f (stp L)).on fun ks l=>.ok (kidsR k ks) l:=by
 rcases hk with rfl | rfl
 ·rw [if_pos rfl] at h
  rw [pItem,h,if_neg (by decide),if_neg (by decide),if_neg (by decide),if_neg (by decide),if_neg (by decide),if_pos rfl]
 ·rw [if_neg (by decide)] at h
  rw [pItem,h,if_neg (by decide),if_neg (by decide),if_neg (by decide),if_neg (by decide),if_neg (by decide),if_neg (by decide),if_pos rfl]
theorem item_paren (f:Nat) (L:List Tok) (h:hd L=[40]):pItem (f+1) L=(need [40] L).on fun _ l=>(pReg f l).on fun r l=>(need [41] l).on fun _ l=>.ok r l:=by
 rw [pItem,h,if_neg (by decide),if_neg (by decide),if_neg (by decide),if_neg (by decide),if_neg (by decide),if_neg (by decide),if_neg (by decide)]
theorem sepOf (k:Int):(if k=4 then [32,97,110,100,32] else [32,111,114,32]:Bs)=32 :: (opOf k++[32]):=by
 unfold opOf
 split <;> rfl
theorem app3 (c:UInt8) (a t r:Bs):(a++(c :: t))++r=a++(c :: (t++r)):=by simp
theorem hd_41 (r:Bs):hd (toks (41 :: r) 0)≠wAnd∧hd (toks (41 :: r) 0)≠wOr:=by
 rw [toks_sign 41 rfl]
 exact ⟨by show ([41]:Bs)≠wAnd;decide,by show ([41]:Bs)≠wOr;decide⟩
set_option maxRecDepth 4000 in
theorem reads:∀ (n:Nat) (R:Reg),nodes R≤n→nodeE R=0→ReadI R∧ReadR R:=by
 intro n
 induction n with
 | zero=>intro R h _;have:=nodes_pos R;omega
 | succ n ih=>
  intro R h hv
  obtain ⟨k,nm,ax,ay,b0,b1,b2,b3,kids⟩:=R
  obtain ⟨p1,p2,p3,p4,p5,p6,p7,p8,p9,p10⟩:=node_parts hv
  rw [nodes] at h
  have hkn:∀ x∈kids,nodes x≤n:=fun x hx=>by
   have:=nodes_kid (k:=k) (nm:=nm) (ax:=ax) (ay:=ay) (b0:=b0) (b1:=b1) (b2:=b2) (b3:=b3) hx
   rw [nodes] at this
   omega
  have hkI:∀ x∈kids,ReadI x:=fun x hx=>(ih x (hkn x hx) (p10 x hx)).1
  have leaf:∀ {t:Bs},(∀ b,text (.mk k nm ax ay b0 b1 b2 b3 kids) b=t)→(∀ (f:Nat) (r:Bs) (i:Nat),3 * nodes (.mk k nm ax ay b0 b1 b2 b3 kids)≤f+1→Stop r→∃ j,pItem (f+1) (toks (t++r) i)=.ok (.mk k nm ax ay b0 b1 b2 b3 kids) (toks r j))→ReadI (.mk k nm ax ay b0 b1 b2 b3 kids)∧ReadR (.mk k nm ax ay b0 b1 b2 b3 kids):=by
   intro t ht hp
   have hI:ReadI (.mk k nm ax ay b0 b1 b2 b3 kids):=by
    intro f r i hf hr
    obtain ⟨f,rfl⟩:∃ g,f=g+1:=⟨f - 1,by rw [nodes] at hf;omega⟩
    rw [ht]
    exact hp f r i hf hr
   exact ⟨hI,reg_of_item hI (by rw [ht,ht])⟩
  rcases (by omega:k=0∨k=1∨k=2∨k=3∨k=6∨k=4∨k=5) with rfl | rfl | rfl | rfl | rfl | hk
  ·obtain rfl:=p2 (by omega)
   obtain rfl:=p4 (by omega)
   obtain ⟨rfl,rfl⟩:=p5 (by omega)
   obtain ⟨rfl,rfl,rfl,rfl⟩:=p6 (by omega)
   refine leaf (t:=[119,104,111,108,101]) (fun b=>by rw [text,if_pos rfl]) fun f r i _ hr=>⟨i+5,?_⟩
   rw [toks_kw _ rfl hr,item_whole _ _ rfl,stp_toks]
   rfl
  ·obtain rfl:=p2 (by omega)
   obtain ⟨rfl,rfl⟩:=p5 (by omega)
   obtain ⟨rfl,rfl,rfl,rfl⟩:=p6 (by omega)
   have hn:=p7 rfl
   have hn2:=hn
   unfold nameOK at hn2
   simp only [Bool.and_eq_true,decide_eq_true_eq,List.all_eq_true] at hn2
   refine leaf (t:=[110,97,109,101,100]++(32 :: nm)) (fun b=>by rw [text,if_neg (by decide),if_pos rfl];rfl) fun f r i _ hr=>⟨i+6+nm.length,?_⟩
   have hw:wordB nm=true:=by
    match nm,hn2 with
    | c :: w,hn2=>
     have hc:isL c=true:=hn2.1.2
     unfold wordB
     simp only [Bool.and_eq_true,List.all_eq_true]
     have:c≠32:=fun e=>by rw [e] at hc;revert hc;decide
     refine ⟨by simpa using this,fun d hd=>?_⟩
     unfold more
     rw [if_pos hc]
     exact hn2.2 d (by simp [hd])
    | [],hn2=>simp at hn2
   have e0:stp (toks ([110,97,109,101,100]++(32 :: nm)++r) i)=⟨nm,i+6⟩ :: toks r (i+6+nm.length):=by
    rw [app3,toks_kw _ rfl (Stop.cons rfl),stp_toks,toks_32,toks_kw nm hw hr]
    rfl
   have hh:hd (toks ([110,97,109,101,100]++(32 :: nm)++r) i)=[110,97,109,101,100]:=by
    rw [app3,toks_kw _ rfl (Stop.cons rfl)]
    rfl
   rw [item_named _ _ hh (by rw [e0];exact hn2.1.2) (by rw [e0];exact hn),e0,stp_toks]
   rfl
  ·obtain rfl:=p2 (by omega)
   obtain rfl:=p4 (by omega)
   obtain ⟨rfl,rfl,rfl,rfl⟩:=p6 (by omega)
   have hq:=p8
   unfold ptOK at hq
   simp only [Bool.and_eq_true,decide_eq_true_eq] at hq
   refine leaf (t:=[97,116]++(32 :: coordsT ax ay)) (fun b=>by rw [text,if_neg (by decide),if_neg (by decide),if_pos rfl];rfl) fun f r i _ hr=>?_
   obtain ⟨j,e⟩:=point_read (lx:=-1073741824) (ly:=-1073741824) p8 (by omega) (by omega) hr (i+2+1)
   refine ⟨j,?_⟩
   rw [app3,toks_kw _ rfl (Stop.cons rfl),item_at _ _ rfl,stp_toks,toks_32]
   show (pPoint _ _ (toks _ (i+2+1))).on _=_
   rw [e]
   rfl
  ·obtain rfl:=p2 (by omega)
   obtain rfl:=p4 (by omega)
   obtain ⟨rfl,rfl⟩:=p5 (by omega)
   have hb:=p9
   unfold boxOK at hb
   simp only [Bool.and_eq_true,decide_eq_true_eq] at hb
   have hq:=hb.1.1.1
   unfold ptOK at hq
   simp only [Bool.and_eq_true,decide_eq_true_eq] at hq
   refine leaf (t:=[119,105,116,104,105,110]++(32 :: (coordsT b0 b1++(32 :: ([116,111]++(32 :: coordsT b2 b3)))))) (fun b=>by rw [text,if_neg (by decide),if_neg (by decide),if_neg (by decide),if_pos rfl];rfl) fun f r i _ hr=>?_
   obtain ⟨j1,e1⟩:=point_read (lx:=-1073741824) (ly:=-1073741824) hb.1.1.1 (by omega) (by omega) (r:=32 :: ([116,111]++(32 :: (coordsT b2 b3++r)))) (Stop.cons rfl) (i+6+1)
   obtain ⟨j2,e2⟩:=point_read (lx:=b0) (ly:=b1) hb.1.1.2 hb.1.2 hb.2 hr (j1+1+2+1)
   refine ⟨j2,?_⟩
   rw [app3,toks_kw _ rfl (Stop.cons rfl),item_within _ _ rfl,stp_toks,toks_32]
   rw [show (coordsT b0 b1++(32 :: ([116,111]++(32 :: coordsT b2 b3))))++r=coordsT b0 b1++(32 :: ([116,111]++(32 :: (coordsT b2 b3++r)))) by simp]
   show (pPoint _ _ (toks _ (i+6+1))).on _=_
   rw [e1]
   show (need [116,111] _).on _=_
   rw [toks_32,need_kw _ rfl (Stop.cons rfl)]
   show (pPoint b0 b1 _).on _=_
   rw [toks_32]
   show (pPoint b0 b1 (toks _ (j1+1+2+1))).on _=_
   rw [e2]
   rfl
  ·obtain ⟨x,rfl⟩:=List.length_eq_one_iff.1 (p3 rfl)
   obtain rfl:=p4 (by omega)
   obtain ⟨rfl,rfl⟩:=p5 (by omega)
   obtain ⟨rfl,rfl,rfl,rfl⟩:=p6 (by omega)
   refine leaf (t:=[110,111,116]++(32 :: text x true)) (fun b=>by rw [text,if_neg (by decide),if_neg (by decide),if_neg (by decide),if_neg (by decide),if_pos rfl,texts];rfl) fun f r i hf hr=>?_
   rw [nodes,nodesL,nodesL] at hf
   obtain ⟨j,e⟩:=hkI x (by simp) f r (i+3+1) (by omega) hr
   refine ⟨j,?_⟩
   rw [app3,toks_kw _ rfl (Stop.cons rfl),item_not _ _ rfl,stp_toks,toks_32]
   show (pItem f (toks _ (i+3+1))).on _=_
   rw [e]
   rfl
  ·have hk1:k≠0∧k≠1∧k≠2∧k≠3∧k≠6:=by omega
   obtain rfl:=p4 (by omega)
   obtain ⟨rfl,rfl⟩:=p5 (by omega)
   obtain ⟨rfl,rfl,rfl,rfl⟩:=p6 (by omega)
   by_cases h2:1<kids.length
   ·have ht:∀ b,text (.mk k [] 0 0 0 0 0 0 kids) b=if b=true then 40 :: (join (32 :: (opOf k++[32])) (texts kids true)++[41]) else join (32 :: (opOf k++[32])) (texts kids true):=fun b=>by
     rw [text,if_neg hk1.1,if_neg hk1.2.1,if_neg hk1.2.2.1,if_neg hk1.2.2.2.1,if_neg hk1.2.2.2.2,if_pos h2,sepOf]
    refine ⟨fun f r i hf hr=>?_,fun f r i hf hr hn1 hn2=>?_⟩
    ·rw [nodes] at hf
     obtain ⟨f,rfl⟩:∃ g,f=g+1:=⟨f - 1,by omega⟩
     obtain ⟨j,e⟩:=joined_read hk h2 hkI f (41 :: r) (i+1) (by omega) (Stop.cons rfl) (hd_41 r).1 (hd_41 r).2
     refine ⟨j+1,?_⟩
     rw [ht,if_pos rfl,List.cons_append,List.append_assoc,item_paren _ _ (by rw [toks_sign 40 rfl];rfl),need_sign 40 rfl]
     show (pReg f (toks (join _ _++(41 :: r)) (i+1))).on _=_
     rw [e]
     show (need [41] _).on _=_
     rw [need_sign 41 rfl]
     rfl
    ·rw [nodes] at hf
     rw [ht,if_neg (by decide)]
     exact joined_read hk h2 hkI f r i (by omega) hr hn1 hn2
   ·refine leaf (t:=(if k=4 then [97,108,108] else [97,110,121])++(40 :: ((texts kids false).headD []++[41]))) (fun b=>?_) fun f r i hf hr=>?_
    ·rw [text,if_neg hk1.1,if_neg hk1.2.1,if_neg hk1.2.2.1,if_neg hk1.2.2.2.1,if_neg hk1.2.2.2.2,if_neg h2]
     split <;> rfl
    ·rw [nodes] at hf
     have hw:wordB (if k=4 then [97,108,108] else [97,110,121])=true:=by split <;> rfl
     rw [app3,toks_kw _ hw (Stop.cons rfl),item_list _ _ hk rfl,stp_toks]
     obtain ⟨f,rfl⟩:∃ g,f=g+1:=⟨f - 1,by omega⟩
     have e0:40 :: (((texts kids false).headD []++[41])++r)=40 :: ((texts kids false).headD []++(41 :: r)):=by simp
     rw [pList,e0,need_sign 40 rfl]
     generalize i+(if k=4 then [97,108,108] else [97,110,121]:Bs).length+1=m
     match kids,h2,hkn,p10,hf with
     | [],_,_,_,_=>
      refine ⟨m+1,?_⟩
      rw [texts]
      show ((if hd (toks (41 :: r) m)=[41] then Res.ok [] (stp (toks (41 :: r) m)) else _).on _)=_
      rw [toks_sign 41 rfl,if_pos (show hd (_ :: _)=[41] from rfl),stp_toks]
      rfl
     | [x],_,hkn,p10,hf=>
      rw [nodesL,nodesL] at hf
      have hpx:=nodes_pos x
      obtain ⟨j,e⟩:=(ih x (hkn x (by simp)) (p10 x (by simp))).2 f (41 :: r) m (by omega) (Stop.cons rfl) (hd_41 r).1 (hd_41 r).2
      refine ⟨j+1,?_⟩
      rw [texts]
      have hb:=text_begins n x false (hkn x (by simp)) (p10 x (by simp))
      show ((if hd (toks (text x false++(41 :: r)) m)=[41] then Res.ok [] (stp (toks (text x false++(41 :: r)) m)) else (pReg f (toks (text x false++(41 :: r)) m)).on fun r l=>pMore f [r] l).on _)=_
      rw [if_neg (begins_hd (hb.append _) m),e]
      obtain ⟨f,rfl⟩:∃ g,f=g+1:=⟨f - 1,by omega⟩
      show ((pMore (f+1) [x] (toks (41 :: r) j)).on _)=_
      rw [pMore,if_neg (by rw [toks_sign 41 rfl];show ¬ ([41]:Bs)=[44];decide),need_sign 41 rfl]
      rfl
     | _ :: _ :: _,h2,_,_,_=>simp at h2
end Qy
