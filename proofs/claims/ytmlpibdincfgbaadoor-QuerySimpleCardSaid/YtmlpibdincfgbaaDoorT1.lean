/-
  Plain arithmetic of magnitudes (base 2^32), the long division, and decimal texts. No program in it.
-/
import Derived.Lib.ItoaNum
import Derived.WalkKit
import Derived.WalkSpells
import Derived.WalkLawsBesides
import Derived.Lib.Hide
import Derived.BigQuiet
import Derived.Deep.QuietTactic
import Derived.Handy
import Derived.Laws.MakeOwn
import Derived.Laws.CopyOwn
import Derived.Deep.RegionHeld3
import Derived.Deep.DeepCutAuto
import Derived.Outline
import Derived.Test.YtmlpibdincfgbaaDoorProg
import Derived.Lib.AtoiAll
namespace Mag
def val:List Nat→Nat
 | []=>0
 | x :: l=>x+4294967296 * val l
def Ws (l:List Nat):Prop:=∀ x∈l,x<4294967296
theorem val_cons (x:Nat) (l:List Nat):val (x :: l)=x+4294967296 * val l:=rfl
theorem Ws.nil:Ws []:=by intro x hx;simp at hx
theorem Ws.cons {x:Nat} {l:List Nat} (h:x<4294967296) (hl:Ws l):Ws (x :: l):=by
 intro y hy;simp at hy;rcases hy with rfl | hy
 ·exact h
 ·exact hl y hy
theorem Ws.head {x:Nat} {l:List Nat} (h:Ws (x :: l)):x<4294967296:=h x (by simp)
theorem Ws.tail {x:Nat} {l:List Nat} (h:Ws (x :: l)):Ws l:=fun y hy=>h y (by simp [hy])
theorem Ws.append {a b:List Nat} (ha:Ws a) (hb:Ws b):Ws (a++b):=by
 intro x hx;simp at hx;exact hx.elim (ha x) (hb x)
theorem Ws.left {a b:List Nat} (h:Ws (a++b)):Ws a:=fun x hx=>h x (by simp [hx])
theorem Ws.right {a b:List Nat} (h:Ws (a++b)):Ws b:=fun x hx=>h x (by simp [hx])
theorem Ws.take {a:List Nat} (h:Ws a) (n:Nat):Ws (a.take n):=fun x hx=>h x (List.mem_of_mem_take hx)
theorem Ws.drop {a:List Nat} (h:Ws a) (n:Nat):Ws (a.drop n):=fun x hx=>h x (List.mem_of_mem_drop hx)
theorem Ws.get {a:List Nat} (h:Ws a) {i:Nat} (hi:i<a.length):a[i]<4294967296:=h _ (List.getElem_mem hi)
theorem Ws.getD {a:List Nat} (h:Ws a) (i:Nat):a.getD i 0<4294967296:=by
 by_cases hi:i<a.length
 ·rw [List.getD_eq_getElem?_getD,List.getElem?_eq_getElem hi];exact h.get hi
 ·rw [List.getD_eq_getElem?_getD,List.getElem?_eq_none (by omega)];simp
theorem Ws.replicate (n:Nat):Ws (List.replicate n 0):=by
 intro x hx;rw [List.eq_of_mem_replicate hx];decide
theorem val_append (a b:List Nat):val (a++b)=val a+4294967296 ^ a.length * val b:=by
 induction a with
 | nil=>simp [val]
 | cons x l ih=>simp only [List.cons_append,val,ih,List.length_cons,Nat.pow_succ];grind
theorem val_snoc (a:List Nat) (x:Nat):val (a++[x])=val a+4294967296 ^ a.length * x:=by
 rw [val_append];simp [val]
theorem val_lt {l:List Nat} (h:Ws l):val l<4294967296 ^ l.length:=by
 induction l with
 | nil=>simp [val]
 | cons x l ih=>
  have h1:=ih h.tail
  have h2:=h.head
  simp only [val,List.length_cons,Nat.pow_succ]
  generalize 4294967296 ^ l.length=P at *
  omega
theorem val_take_succ (l:List Nat) (i:Nat):val (l.take (i+1))=val (l.take i)+4294967296 ^ i * l.getD i 0:=by
 by_cases hi:i<l.length
 ·rw [List.take_succ_eq_append_getElem hi,val_snoc,List.length_take,Nat.min_eq_left (by omega),List.getD_eq_getElem?_getD,List.getElem?_eq_getElem hi];rfl
 ·rw [List.take_of_length_le (by omega),List.take_of_length_le (by omega),List.getD_eq_getElem?_getD,List.getElem?_eq_none (by omega)];simp
theorem pow_pos (k:Nat):0<4294967296 ^ k:=Nat.pow_pos (by decide)
theorem pow_mono {a b:Nat} (h:a≤b):4294967296 ^ a≤4294967296 ^ b:=Nat.pow_le_pow_right (by decide) h
def Nz (l:List Nat):Prop:=l.getLast? ≠ some 0
theorem Nz.nil:Nz []:=by simp [Nz]
theorem Nz.ge {l:List Nat} (h:Nz l) (hn:l≠[]):4294967296 ^ (l.length - 1)≤val l:=by
 rcases List.eq_nil_or_concat l with rfl | ⟨k,x,rfl⟩
 ·exact absurd rfl hn
 ·rw [List.concat_eq_append] at *
  simp only [Nz,List.getLast?_append,List.getLast?_singleton,Option.some_or,ne_eq,Option.some.injEq] at h
  rw [val_snoc]
  simp only [List.length_append,List.length_singleton,Nat.add_sub_cancel]
  have:4294967296 ^ k.length * 1≤4294967296 ^ k.length * x:=Nat.mul_le_mul_left _ (by omega)
  omega
theorem Nz.pos {l:List Nat} (h:Nz l) (hn:l≠[]):0<val l:=Nat.lt_of_lt_of_le (pow_pos _) (h.ge hn)
theorem lt_of_length {a b:List Nat} (ha:Ws a) (hb:Nz b) (h:a.length<b.length):val a<val b:=by
 have h1:=val_lt ha
 have h2:=hb.ge (by intro e;subst e;simp at h)
 have h3:=pow_mono (a:=a.length) (b:=b.length - 1) (by omega)
 omega
end Mag
namespace Mag
theorem Ws.set {l:List Nat} (h:Ws l) (i:Nat) {x:Nat} (hx:x<4294967296):Ws (l.set i x):=by
 intro y hy
 rcases List.mem_or_eq_of_mem_set hy with h1 | rfl
 ·exact h y h1
 ·exact hx
theorem sum_step {a b ds:List Nat} {i c:Nat} (ha:Ws a) (hb:Ws b) (hd:ds.length=i) (hc:c≤1) (h:val ds+c * 4294967296 ^ i=val (a.take i)+val (b.take i)) :
 (c+(a.getD i 0+b.getD i 0)) / 4294967296≤1∧
 val (ds++[(c+(a.getD i 0+b.getD i 0)) % 4294967296])+(c+(a.getD i 0+b.getD i 0)) / 4294967296 * 4294967296 ^ (i+1)=val (a.take (i+1))+val (b.take (i+1)):=by
 have h1:=ha.getD i
 have h2:=hb.getD i
 refine ⟨by omega,?_⟩
 rw [val_take_succ,val_take_succ,val_snoc,hd,Nat.pow_succ]
 generalize a.getD i 0=x at *
 generalize b.getD i 0=y at *
 generalize 4294967296 ^ i=P at *
 have e:(c+(x+y))=4294967296 * ((c+(x+y)) / 4294967296)+(c+(x+y)) % 4294967296:=by omega
 generalize (c+(x+y)) / 4294967296=q at *
 generalize (c+(x+y)) % 4294967296=r at *
 have e2:P * c+P * x+P * y=P * (4294967296 * q)+P * r:=by
  rw [← Nat.mul_add,← Nat.mul_add,← Nat.mul_add,← e];congr 1;omega
 have e3:q * (P * 4294967296)=P * (4294967296 * q):=by grind
 rw [e3]
 rw [Nat.mul_comm c P] at h
 omega
theorem sub_step {a b ds:List Nat} {i c:Nat} (hd:ds.length=i) (h:val ds+val (b.take i)=val (a.take i)+c * 4294967296 ^ i) {c' d:Nat}
 (e:d+(c+b.getD i 0)=a.getD i 0+c' * 4294967296):val (ds++[d])+val (b.take (i+1))=val (a.take (i+1))+c' * 4294967296 ^ (i+1):=by
 rw [val_take_succ,val_take_succ,val_snoc,hd,Nat.pow_succ]
 generalize a.getD i 0=x at *
 generalize b.getD i 0=y at *
 generalize 4294967296 ^ i=P at *
 have e2:P * d+(P * c+P * y)=P * x+P * (c' * 4294967296):=by
  rw [← Nat.mul_add,← Nat.mul_add,← Nat.mul_add,e]
 have e3:c' * (P * 4294967296)=P * (c' * 4294967296):=by grind
 rw [e3]
 rw [Nat.mul_comm c P] at h
 omega
theorem sub_end {a b ds:List Nat} {c:Nat} (hl:b.length≤a.length) (hd:ds.length=a.length) (hw:Ws ds) (h:val ds+val (b.take a.length)=val (a.take a.length)+c * 4294967296 ^ a.length) (hge:val b≤val a) :
 val ds=val a - val b:=by
 rw [List.take_of_length_le hl,List.take_of_length_le (Nat.le_refl _)] at h
 have h1:=val_lt hw
 rw [hd] at h1
 generalize 4294967296 ^ a.length=P at *
 have:c=0:=by
  rcases Nat.eq_zero_or_pos c with h0 | h0
  ·exact h0
  ·have:1 * P≤c * P:=Nat.mul_le_mul_right _ h0
   omega
 subst this
 omega
theorem short_step {x T q r w:Nat} (h:T=q * w+r):x+4294967296 * T=((r * 4294967296+x) / w+4294967296 * q) * w+(r * 4294967296+x) % w:=by
 have e:=Nat.div_add_mod (r * 4294967296+x) w
 generalize (r * 4294967296+x) / w=d at *
 generalize (r * 4294967296+x) % w=s at *
 subst h
 grind
end Mag
namespace Mag
theorem est_end {digit top next num rest u2 V U R:Nat} (hn:digit * top+rest=num) (hU:(num * 4294967296+u2) * R≤U) (hV:V<(top * 4294967296+next+1) * R) (hVR:4294967296 * R≤V) (hd:digit<4294967296)
 (h:digit * next≤rest * 4294967296+u2):digit * V<U+V:=by
 have h1:digit * V≤digit * ((top * 4294967296+next+1) * R):=Nat.mul_le_mul_left _ (by omega)
 have e1:digit * ((top * 4294967296+next+1) * R)=(digit * (top * 4294967296+next)) * R+digit * R:=by grind
 have h2:digit * (top * 4294967296+next)≤num * 4294967296+u2:=by
  have:digit * (top * 4294967296+next)=digit * top * 4294967296+digit * next:=by grind
  rw [this]
  have:num * 4294967296=digit * top * 4294967296+rest * 4294967296:=by rw [← hn];grind
  omega
 have h3:(digit * (top * 4294967296+next)) * R≤(num * 4294967296+u2) * R:=Nat.mul_le_mul_right _ h2
 rcases Nat.eq_zero_or_pos R with h0 | h0
 ·subst h0
  simp at hV
 ·have h4:(digit+1) * R≤4294967296 * R:=Nat.mul_le_mul_right _ (by omega)
  rw [Nat.add_mul] at h4
  omega
theorem take_step {u v ds:List Nat} {i c w:Nat} {q:Nat} (hd:ds.length=i) (h:val ds+q * val (v.take i)=val (u.take i)+(c+w) * 4294967296 ^ i) {c' w' d:Nat}
 (e:d+c+w+q * v.getD i 0=u.getD i 0+(c'+w') * 4294967296):val (ds++[d])+q * val (v.take (i+1))=val (u.take (i+1))+(c'+w') * 4294967296 ^ (i+1):=by
 rw [val_take_succ,val_take_succ,val_snoc,hd,Nat.pow_succ]
 generalize u.getD i 0=x at *
 generalize v.getD i 0=y at *
 generalize 4294967296 ^ i=P at *
 have e2:P * d+P * c+P * w+P * (q * y)=P * x+P * ((c'+w') * 4294967296):=by
  rw [← Nat.mul_add,← Nat.mul_add,← Nat.mul_add,← Nat.mul_add,e]
 have e3:(c'+w') * (P * 4294967296)=P * ((c'+w') * 4294967296):=by grind
 have e4:(c+w) * P=P * c+P * w:=by grind
 have e5:q * (val (v.take i)+P * y)=q * val (v.take i)+P * (q * y):=by grind
 rw [e3,e5]
 rw [e4] at h
 omega
end Mag
namespace Mag
theorem val_drop_cons {l:List Nat} {j:Nat} (h:j<l.length):val (l.drop j)=l.getD j 0+4294967296 * val (l.drop (j+1)):=by
 rw [List.drop_eq_getElem_cons h,val_cons,List.getD_eq_getElem?_getD,List.getElem?_eq_getElem h];rfl
theorem val_split (l:List Nat) (j:Nat) (h:j≤l.length):val l=val (l.take j)+4294967296 ^ j * val (l.drop j):=by
 conv=>lhs;rw [← List.take_append_drop j l]
 rw [val_append,List.length_take,Nat.min_eq_left h]
theorem val_zero_drop {l:List Nat} {n:Nat} (hn:n≤l.length) (h:val l<4294967296 ^ n):val (l.drop n)=0:=by
 have h1:=val_split l n hn
 rcases Nat.eq_zero_or_pos (val (l.drop n)) with h0 | h0
 ·exact h0
 ·have:4294967296 ^ n * 1≤4294967296 ^ n * val (l.drop n):=Nat.mul_le_mul_left _ h0
  omega
theorem getD_drop' (l:List Nat) (j i:Nat):(l.drop j).getD i 0=l.getD (j+i) 0:=by
 rw [List.getD_eq_getElem?_getD,List.getD_eq_getElem?_getD,List.getElem?_drop]
theorem window {u v:List Nat} {j n:Nat} (hu:Ws u) (hv:Ws v) (hvn:v.length=n) (hj:j+n+1≤u.length) (hlt:val (u.drop (j+1))<val v) :
 val (u.drop j)=val ((u.drop j).take (n+1))∧val ((u.drop j).take (n+1))<4294967296 * val v∧val (u.drop (j+n+1))=0:=by
 have h1:=val_lt hv
 rw [hvn] at h1
 have h2:=val_zero_drop (l:=u.drop (j+1)) (n:=n) (by rw [List.length_drop];omega) (by omega)
 rw [List.drop_drop] at h2
 have e:val (u.drop (j+n+1))=0:=by rw [← h2];congr 2;omega
 have h3:=val_split (u.drop j) (n+1) (by rw [List.length_drop];omega)
 rw [List.drop_drop,show j+(n+1)=j+n+1 by omega,e,Nat.mul_zero,Nat.add_zero] at h3
 have h4:=val_drop_cons (l:=u) (j:=j) (by omega)
 have h5:=hu.getD j
 refine ⟨h3,?_,e⟩
 rw [← h3,h4]
 generalize val (u.drop (j+1))=x at *
 generalize val v=y at *
 generalize u.getD j 0=z at *
 clear h1 h2 h3 h4
 omega
theorem digit_put {A V q:Nat} {out u u':List Nat} {j n:Nat} (hj:j+n+1≤u.length) (hjo:j<out.length)
 (hd:A=val (out.drop (j+1)) * 4294967296 ^ (j+1) * V+val u) (hU':val ((u'.drop j).take (n+1))+q * V=val ((u.drop j).take (n+1)))
 (hz:val (u.drop (j+n+1))=0) (hl:u'.length=u.length) (ht:u'.take j=u.take j) (hdr:u'.drop (j+n+1)=u.drop (j+n+1)) :
 A=val ((out.set j q).drop j) * 4294967296 ^ j * V+val u'∧val (u'.drop j)=val ((u'.drop j).take (n+1)):=by
 have e1:=val_split u j (by omega)
 have e2:=val_split u' j (by omega)
 have e3:=val_split (u.drop j) (n+1) (by rw [List.length_drop];omega)
 have e4:=val_split (u'.drop j) (n+1) (by rw [List.length_drop];omega)
 rw [List.drop_drop,show j+(n+1)=j+n+1 by omega,hz,Nat.mul_zero,Nat.add_zero] at e3
 rw [List.drop_drop,show j+(n+1)=j+n+1 by omega,hdr,hz,Nat.mul_zero,Nat.add_zero] at e4
 rw [ht] at e2
 have e5:val ((out.set j q).drop j)=q+4294967296 * val (out.drop (j+1)):=by
  rw [val_drop_cons (by simpa using hjo),List.drop_set_of_lt (by omega)]
  rw [List.getD_eq_getElem?_getD,List.getElem?_set_self (by simpa using hjo)];rfl
 refine ⟨?_,e4⟩
 rw [e5,hd,e1,e2,Nat.pow_succ]
 have e6:val (u.drop j)=val (u'.drop j)+q * V:=by rw [e3,e4,hU']
 rw [e6]
 generalize val (out.drop (j+1))=o
 generalize 4294967296 ^ j=P
 generalize val (u'.drop j)=x
 generalize val (u.take j)=t
 grind
theorem unshift_step {u ds:List Nat} {i D E d z:Nat} (hd:ds.length=i) (hDE:D * E=4294967296) (h:val ds * D+z=val (u.take i)+u.getD i 0 % D * 4294967296 ^ i)
 (e:d=u.getD i 0 / D+u.getD (i+1) 0 % D * E):val (ds++[d]) * D+z=val (u.take (i+1))+u.getD (i+1) 0 % D * 4294967296 ^ (i+1):=by
 rw [val_snoc,val_take_succ,hd,Nat.pow_succ]
 generalize u.getD i 0=x at *
 generalize u.getD (i+1) 0 % D=y at *
 have ex:=Nat.div_add_mod x D
 generalize x / D=p at *
 generalize x % D=r at *
 generalize 4294967296 ^ i=P at *
 subst e
 have e1:P * (p+y * E) * D=P * (D * p)+y * (P * (D * E)):=by grind
 rw [Nat.add_mul,e1,hDE]
 have e2:P * x=P * (D * p)+P * r:=by rw [← Nat.mul_add,ex]
 rw [e2,Nat.mul_comm P r]
 omega
end Mag
namespace Mag
end Mag
namespace DecM
open Go.Lib
def padD:Nat→Nat→List UInt8
 | 0,_=>[]
 | k+1,n=>padD k (n / 10)++[UInt8.ofNat (48+n % 10)]
theorem padD_length (k n:Nat):(padD k n).length=k:=by
 induction k generalizing n with
 | zero=>rfl
 | succ k ih=>simp [padD,ih]
theorem dec_small {n:Nat} (h:n<10):decDigits n=[UInt8.ofNat (48+n)]:=by rw [decDigits,dif_pos h]
theorem dec_big {n:Nat} (h:10≤n):decDigits n=decDigits (n / 10)++[UInt8.ofNat (48+n % 10)]:=by rw [decDigits,dif_neg (by omega)]
theorem dec_glue (k:Nat):∀ (q r:Nat),0<q→r<10 ^ k→decDigits (q * 10 ^ k+r)=decDigits q++padD k r:=by
 induction k with
 | zero=>intro q r _ hr;simp at hr;simp [hr,padD]
 | succ k ih=>
  intro q r hq hr
  have e1:q * 10 ^ (k+1)=q * 10 ^ k * 10:=by rw [Nat.pow_succ,Nat.mul_assoc]
  have hp:0<10 ^ k:=Nat.pow_pos (by decide)
  have h1:1 * 1≤q * 10 ^ k:=Nat.mul_le_mul hq hp
  rw [Nat.pow_succ] at hr
  rw [e1,dec_big (by omega),show (q * 10 ^ k * 10+r) / 10=q * 10 ^ k+r / 10 by omega,ih q (r / 10) hq (by omega),show (q * 10 ^ k * 10+r) % 10=r % 10 by omega,padD,List.append_assoc]
theorem padD_zero (k:Nat):padD k 0=List.replicate k 48:=by
 induction k with
 | zero=>rfl
 | succ k ih=>simp only [padD,Nat.zero_div,ih];rw [List.replicate_succ'];rfl
theorem padD_dec (k:Nat):∀ (n:Nat),0<k→n<10 ^ k→padD k n=List.replicate (k - (decDigits n).length) 48++decDigits n:=by
 induction k with
 | zero=>intro n h;omega
 | succ k ih=>
  intro n _ hn
  rw [Nat.pow_succ] at hn
  by_cases h10:n<10
  ·rw [dec_small h10,padD,show n / 10=0 by omega,padD_zero,Nat.mod_eq_of_lt h10];simp
  ·have hk:0<k:=by
    rcases Nat.eq_zero_or_pos k with h0 | h0
    ·subst h0;simp at hn;omega
    ·exact h0
   rw [dec_big (by omega),padD,ih (n / 10) hk (by omega),List.append_assoc,List.length_append,List.length_singleton]
   congr 2;omega
theorem dec_length_le {k n:Nat} (hk:0<k) (h:n<10 ^ k):(decDigits n).length≤k:=by
 have h1:=padD_dec k n hk h
 have h2:=congrArg List.length h1
 rw [padD_length] at h2
 simp at h2;omega
def digV (l:List UInt8):Nat:=l.foldl (fun a c=>a * 10+(c.toNat - 48)) 0
def isDig (c:UInt8):Bool:=48≤c.toNat&&c.toNat≤57
theorem foldl_dig (l:List UInt8) (a:Nat):l.foldl (fun a c=>a * 10+(c.toNat - 48)) a=a * 10 ^ l.length+digV l:=by
 induction l generalizing a with
 | nil=>simp [digV]
 | cons c l ih=>
  simp only [List.foldl_cons,digV,List.length_cons]
  rw [ih,ih (0 * 10+(c.toNat - 48))]
  simp only [Nat.pow_succ,Nat.zero_mul,Nat.zero_add]
  grind
theorem digV_append (a b:List UInt8):digV (a++b)=digV a * 10 ^ b.length+digV b:=by
 conv=>lhs;unfold digV
 rw [List.foldl_append,foldl_dig]
 rfl
theorem digV_cons (c:UInt8) (a:List UInt8):digV (c :: a)=(c.toNat - 48) * 10 ^ a.length+digV a:=by
 have:=digV_append [c] a
 simpa [digV] using this
theorem digV_lt {l:List UInt8} (h:∀ c∈l,isDig c=true):digV l<10 ^ l.length:=by
 induction l with
 | nil=>simp [digV]
 | cons c l ih=>
  rw [digV_cons,List.length_cons,Nat.pow_succ]
  have h1:=ih fun x hx=>h x (by simp [hx])
  have h2:=h c (by simp)
  simp [isDig] at h2
  have h3:(c.toNat - 48) * 10 ^ l.length≤9 * 10 ^ l.length:=Nat.mul_le_mul_right _ (by omega)
  omega
end DecM
namespace Mag
end Mag
namespace Mag
end Mag
namespace Mag
theorem set_mid (ds:List Nat) (k m:Nat) (hk:ds.length=k) (hm:0<m) (x:Nat):(ds++List.replicate m 0).set k x=(ds++[x])++List.replicate (m - 1) 0:=by
 obtain ⟨m',rfl⟩:∃ m',m=m'+1:=⟨m - 1,by omega⟩
 rw [List.set_append_right _ _ (by omega),show k - ds.length=0 by omega,List.replicate_succ,List.set_cons_zero]
 simp
theorem getD_lt {l:List Nat} {k:Nat} (h:k<l.length):l.getD k 0=l[k]:=by
 rw [List.getD_eq_getElem?_getD,List.getElem?_eq_getElem h];rfl
theorem getD_ge {l:List Nat} {k:Nat} (h:l.length≤k):l.getD k 0=0:=by
 rw [List.getD_eq_getElem?_getD,List.getElem?_eq_none h];rfl
end Mag
/-
 (second part)
-/
namespace Mag
end Mag
namespace Mag
structure Est (W V num ue tp nx R q:Nat):Prop where
 w1:(num * 4294967296+ue) * R≤W
 w2:W<(num * 4294967296+ue+1) * R
 v1:(tp * 4294967296+nx) * R≤V
 v2:V<(tp * 4294967296+nx+1) * R
 v3:4294967296 * R≤V
 n1:num<tp * 4294967296+4294967296
 x1:nx<4294967296
 q1:q * V≤W
 q2:q<4294967296
 p0:0<tp
structure Srch (num tp q d r:Nat):Prop where
 eq:d * tp+r=num
 le:q≤d
theorem Srch.fin {W V num ue tp nx R q d r:Nat} (h:Est W V num ue tp nx R q) (hs:Srch num tp q d r) (hd:d<4294967296) (hle:d * nx≤r * 4294967296+ue):d<4294967296∧q≤d∧d * V<W+V:=
 ⟨hd,hs.le,est_end hs.eq h.w1 h.v2 h.v3 hd hle⟩
end Mag
namespace Mag
theorem Est.start {W V num ue tp nx R q:Nat} (h:Est W V num ue tp nx R q) (hue:ue<4294967296):q≤num / tp:=by
 rw [Nat.le_div_iff_mul_le h.p0]
 have h1:q * ((tp * 4294967296+nx) * R)≤q * V:=Nat.mul_le_mul_left _ h.v1
 have h2:q * ((tp * 4294967296+nx) * R)=(q * (tp * 4294967296+nx)) * R:=(Nat.mul_assoc _ _ _).symm
 have h3:=h.w2
 have h4:=h.q1
 have h5:(q * (tp * 4294967296+nx)) * R<(num * 4294967296+ue+1) * R:=by omega
 have h6:=Nat.lt_of_mul_lt_mul_right h5
 have h7:q * (tp * 4294967296+nx)=q * tp * 4294967296+q * nx:=by grind
 omega
theorem Srch.start {W V num ue tp nx R q:Nat} (h:Est W V num ue tp nx R q) (hue:ue<4294967296):Srch num tp q (num / tp) (num % tp):=
 ⟨by rw [Nat.mul_comm];exact Nat.div_add_mod _ _,h.start hue⟩
end Mag
namespace Mag
theorem unshift_word {u0 u1 D E:Nat} (hDE:D * E=4294967296) (h0:u0<4294967296):(u1 * 4294967296+u0) / D % 4294967296=u0 / D+u1 % D * E∧u0 / D+u1 % D * E<4294967296:=by
 have hD:0<D:=by
  rcases Nat.eq_zero_or_pos D with h | h
  ·subst h;simp at hDE
  ·exact h
 have e1:u1 * 4294967296+u0=u0+u1 * E * D:=by rw [← hDE];grind
 rw [e1,Nat.add_mul_div_right _ _ hD]
 have h1:u0 / D<E:=by rw [Nat.div_lt_iff_lt_mul hD,Nat.mul_comm,hDE];exact h0
 have h2:=Nat.div_add_mod u1 D
 have h3:=Nat.mod_lt u1 hD
 generalize u1 / D=p at *
 generalize u1 % D=r at *
 generalize u0 / D=z at *
 have h4:z+r * E<4294967296:=by
  have:(r+1) * E≤D * E:=Nat.mul_le_mul_right _ h3
  rw [hDE,Nat.add_mul,Nat.one_mul] at this
  omega
 refine ⟨?_,h4⟩
 have e2:z+u1 * E=z+r * E+4294967296 * p:=by rw [← h2,← hDE];grind
 rw [e2,Nat.add_mul_mod_self_left,Nat.mod_eq_of_lt h4]
end Mag
/-
 (second part)
-/
namespace Dig
def val:List Nat→Nat
 | []=>0
 | x :: l=>x+10000 * val l
def Ws (l:List Nat):Prop:=∀ x∈l,x<10000
theorem val_cons (x:Nat) (l:List Nat):val (x :: l)=x+10000 * val l:=rfl
theorem Ws.nil:Ws []:=by intro x hx;simp at hx
theorem Ws.cons {x:Nat} {l:List Nat} (h:x<10000) (hl:Ws l):Ws (x :: l):=by
 intro y hy;simp at hy;rcases hy with rfl | hy
 ·exact h
 ·exact hl y hy
theorem Ws.head {x:Nat} {l:List Nat} (h:Ws (x :: l)):x<10000:=h x (by simp)
theorem Ws.tail {x:Nat} {l:List Nat} (h:Ws (x :: l)):Ws l:=fun y hy=>h y (by simp [hy])
theorem Ws.append {a b:List Nat} (ha:Ws a) (hb:Ws b):Ws (a++b):=by
 intro x hx;simp at hx;exact hx.elim (ha x) (hb x)
theorem Ws.left {a b:List Nat} (h:Ws (a++b)):Ws a:=fun x hx=>h x (by simp [hx])
theorem Ws.right {a b:List Nat} (h:Ws (a++b)):Ws b:=fun x hx=>h x (by simp [hx])
theorem Ws.take {a:List Nat} (h:Ws a) (n:Nat):Ws (a.take n):=fun x hx=>h x (List.mem_of_mem_take hx)
theorem Ws.drop {a:List Nat} (h:Ws a) (n:Nat):Ws (a.drop n):=fun x hx=>h x (List.mem_of_mem_drop hx)
theorem Ws.get {a:List Nat} (h:Ws a) {i:Nat} (hi:i<a.length):a[i]<10000:=h _ (List.getElem_mem hi)
theorem Ws.getD {a:List Nat} (h:Ws a) (i:Nat):a.getD i 0<10000:=by
 by_cases hi:i<a.length
 ·rw [List.getD_eq_getElem?_getD,List.getElem?_eq_getElem hi];exact h.get hi
 ·rw [List.getD_eq_getElem?_getD,List.getElem?_eq_none (by omega)];simp
theorem Ws.replicate (n:Nat):Ws (List.replicate n 0):=by
 intro x hx;rw [List.eq_of_mem_replicate hx];decide
theorem val_append (a b:List Nat):val (a++b)=val a+10000 ^ a.length * val b:=by
 induction a with
 | nil=>simp [val]
 | cons x l ih=>simp only [List.cons_append,val,ih,List.length_cons,Nat.pow_succ];grind
theorem val_snoc (a:List Nat) (x:Nat):val (a++[x])=val a+10000 ^ a.length * x:=by
 rw [val_append];simp [val]
theorem val_lt {l:List Nat} (h:Ws l):val l<10000 ^ l.length:=by
 induction l with
 | nil=>simp [val]
 | cons x l ih=>
  have h1:=ih h.tail
  have h2:=h.head
  simp only [val,List.length_cons,Nat.pow_succ]
  generalize 10000 ^ l.length=P at *
  omega
theorem val_take_succ (l:List Nat) (i:Nat):val (l.take (i+1))=val (l.take i)+10000 ^ i * l.getD i 0:=by
 by_cases hi:i<l.length
 ·rw [List.take_succ_eq_append_getElem hi,val_snoc,List.length_take,Nat.min_eq_left (by omega),List.getD_eq_getElem?_getD,List.getElem?_eq_getElem hi];rfl
 ·rw [List.take_of_length_le (by omega),List.take_of_length_le (by omega),List.getD_eq_getElem?_getD,List.getElem?_eq_none (by omega)];simp
theorem pow_pos (k:Nat):0<10000 ^ k:=Nat.pow_pos (by decide)
theorem pow_mono {a b:Nat} (h:a≤b):10000 ^ a≤10000 ^ b:=Nat.pow_le_pow_right (by decide) h
def Nz (l:List Nat):Prop:=l.getLast? ≠ some 0
theorem Nz.nil:Nz []:=by simp [Nz]
theorem Nz.ge {l:List Nat} (h:Nz l) (hn:l≠[]):10000 ^ (l.length - 1)≤val l:=by
 rcases List.eq_nil_or_concat l with rfl | ⟨k,x,rfl⟩
 ·exact absurd rfl hn
 ·rw [List.concat_eq_append] at *
  simp only [Nz,List.getLast?_append,List.getLast?_singleton,Option.some_or,ne_eq,Option.some.injEq] at h
  rw [val_snoc]
  simp only [List.length_append,List.length_singleton,Nat.add_sub_cancel]
  have:10000 ^ k.length * 1≤10000 ^ k.length * x:=Nat.mul_le_mul_left _ (by omega)
  omega
theorem Nz.pos {l:List Nat} (h:Nz l) (hn:l≠[]):0<val l:=Nat.lt_of_lt_of_le (pow_pos _) (h.ge hn)
theorem lt_of_length {a b:List Nat} (ha:Ws a) (hb:Nz b) (h:a.length<b.length):val a<val b:=by
 have h1:=val_lt ha
 have h2:=hb.ge (by intro e;subst e;simp at h)
 have h3:=pow_mono (a:=a.length) (b:=b.length - 1) (by omega)
 omega
end Dig
namespace Dig
theorem Ws.set {l:List Nat} (h:Ws l) (i:Nat) {x:Nat} (hx:x<10000):Ws (l.set i x):=by
 intro y hy
 rcases List.mem_or_eq_of_mem_set hy with h1 | rfl
 ·exact h y h1
 ·exact hx
theorem sum_step {a b ds:List Nat} {i c:Nat} (ha:Ws a) (hb:Ws b) (hd:ds.length=i) (hc:c≤1) (h:val ds+c * 10000 ^ i=val (a.take i)+val (b.take i)) :
 (c+(a.getD i 0+b.getD i 0)) / 10000≤1∧
 val (ds++[(c+(a.getD i 0+b.getD i 0)) % 10000])+(c+(a.getD i 0+b.getD i 0)) / 10000 * 10000 ^ (i+1)=val (a.take (i+1))+val (b.take (i+1)):=by
 have h1:=ha.getD i
 have h2:=hb.getD i
 refine ⟨by omega,?_⟩
 rw [val_take_succ,val_take_succ,val_snoc,hd,Nat.pow_succ]
 generalize a.getD i 0=x at *
 generalize b.getD i 0=y at *
 generalize 10000 ^ i=P at *
 have e:(c+(x+y))=10000 * ((c+(x+y)) / 10000)+(c+(x+y)) % 10000:=by omega
 generalize (c+(x+y)) / 10000=q at *
 generalize (c+(x+y)) % 10000=r at *
 have e2:P * c+P * x+P * y=P * (10000 * q)+P * r:=by
  rw [← Nat.mul_add,← Nat.mul_add,← Nat.mul_add,← e];congr 1;omega
 have e3:q * (P * 10000)=P * (10000 * q):=by grind
 rw [e3]
 rw [Nat.mul_comm c P] at h
 omega
theorem sub_step {a b ds:List Nat} {i c:Nat} (hd:ds.length=i) (h:val ds+val (b.take i)=val (a.take i)+c * 10000 ^ i) {c' d:Nat}
 (e:d+(c+b.getD i 0)=a.getD i 0+c' * 10000):val (ds++[d])+val (b.take (i+1))=val (a.take (i+1))+c' * 10000 ^ (i+1):=by
 rw [val_take_succ,val_take_succ,val_snoc,hd,Nat.pow_succ]
 generalize a.getD i 0=x at *
 generalize b.getD i 0=y at *
 generalize 10000 ^ i=P at *
 have e2:P * d+(P * c+P * y)=P * x+P * (c' * 10000):=by
  rw [← Nat.mul_add,← Nat.mul_add,← Nat.mul_add,e]
 have e3:c' * (P * 10000)=P * (c' * 10000):=by grind
 rw [e3]
 rw [Nat.mul_comm c P] at h
 omega
theorem sub_end {a b ds:List Nat} {c:Nat} (hl:b.length≤a.length) (hd:ds.length=a.length) (hw:Ws ds) (h:val ds+val (b.take a.length)=val (a.take a.length)+c * 10000 ^ a.length) (hge:val b≤val a) :
 val ds=val a - val b:=by
 rw [List.take_of_length_le hl,List.take_of_length_le (Nat.le_refl _)] at h
 have h1:=val_lt hw
 rw [hd] at h1
 generalize 10000 ^ a.length=P at *
 have:c=0:=by
  rcases Nat.eq_zero_or_pos c with h0 | h0
  ·exact h0
  ·have:1 * P≤c * P:=Nat.mul_le_mul_right _ h0
   omega
 subst this
 omega
theorem val_drop_cons {l:List Nat} {j:Nat} (h:j<l.length):val (l.drop j)=l.getD j 0+10000 * val (l.drop (j+1)):=by
 rw [List.drop_eq_getElem_cons h,val_cons,List.getD_eq_getElem?_getD,List.getElem?_eq_getElem h];rfl
theorem val_split (l:List Nat) (j:Nat) (h:j≤l.length):val l=val (l.take j)+10000 ^ j * val (l.drop j):=by
 conv=>lhs;rw [← List.take_append_drop j l]
 rw [val_append,List.length_take,Nat.min_eq_left h]
theorem val_zero_drop {l:List Nat} {n:Nat} (hn:n≤l.length) (h:val l<10000 ^ n):val (l.drop n)=0:=by
 have h1:=val_split l n hn
 rcases Nat.eq_zero_or_pos (val (l.drop n)) with h0 | h0
 ·exact h0
 ·have:10000 ^ n * 1≤10000 ^ n * val (l.drop n):=Nat.mul_le_mul_left _ h0
  omega
theorem getD_drop' (l:List Nat) (j i:Nat):(l.drop j).getD i 0=l.getD (j+i) 0:=by
 rw [List.getD_eq_getElem?_getD,List.getD_eq_getElem?_getD,List.getElem?_drop]
end Dig
namespace Dig
end Dig
namespace Dig
theorem set_mid (ds:List Nat) (k m:Nat) (hk:ds.length=k) (hm:0<m) (x:Nat):(ds++List.replicate m 0).set k x=(ds++[x])++List.replicate (m - 1) 0:=by
 obtain ⟨m',rfl⟩:∃ m',m=m'+1:=⟨m - 1,by omega⟩
 rw [List.set_append_right _ _ (by omega),show k - ds.length=0 by omega,List.replicate_succ,List.set_cons_zero]
 simp
theorem getD_lt {l:List Nat} {k:Nat} (h:k<l.length):l.getD k 0=l[k]:=by
 rw [List.getD_eq_getElem?_getD,List.getElem?_eq_getElem h];rfl
theorem getD_ge {l:List Nat} {k:Nat} (h:l.length≤k):l.getD k 0=0:=by
 rw [List.getD_eq_getElem?_getD,List.getElem?_eq_none h];rfl
end Dig
/-
 (second part)
-/
namespace Go.Proofs.YtmlpibdincfgbaaDoor
open Go.RowKit
def w32 (x:Nat):Value:=.int .u32 (x:Int)
def i64 (x:Int):Value:=.int .i64 x
def Sl (w:World) (B:Nat) (A:Option Addr) (xs:List Value):Prop:=
 xs≠[]→∃ g off,A=some ⟨g,off,none⟩∧g<B∧∀ i x,xs[i]? = some x→w.cell? ⟨g,off+i,none⟩=some x
section
variable {w w':World} {B B':Nat} {A:Option Addr} {xs:List Value}
theorem Sl.nil_:Sl w B A []:=fun h=>absurd rfl h
theorem Sl.keep (h:Sl w B A xs) (hk:∀ p:Addr,p.block<B→w'.cell? p=w.cell? p):Sl w' B A xs:=fun hn=>by
 obtain ⟨g,off,rfl,hg,hc⟩:=h hn
 exact ⟨g,off,rfl,hg,fun i x hx=>(hk _ hg).trans (hc i x hx)⟩
theorem Sl.more (h:Sl w B A xs) (hB:B≤B'):Sl w B' A xs:=fun hn=>by
 obtain ⟨g,off,rfl,hg,hc⟩:=h hn
 exact ⟨g,off,rfl,by omega,hc⟩
theorem Sl.below (h:Sl w B A xs) (hb:Below B w w'):Sl w' B A xs:=h.keep fun _ hp=>hb.cell hp
theorem Sl.on (h:Sl w w.heap.size A xs) (hb:Below w.heap.size w w'):Sl w' w'.heap.size A xs:=(h.below hb).more hb.size
theorem Sl.alloc (h:Sl w B A xs) (hB:B≤w.heap.size) (o:Obj):Sl (w.alloc o) B A xs:=h.keep fun p hp=>World.cell?_alloc_lt w o p (by omega)
theorem Sl.set_ (h:Sl w B A xs) {p:Addr} (hB:B≤p.block) (u:Value):Sl (w.setCell p u) B A xs:=
 h.keep fun q hq=>World.cell?_setCell_other w p q u (fun e=>by subst e;omega)
theorem Sl.drew (h:Sl w B A xs):Sl w.drew B A xs:=h
theorem Sl.take (h:Sl w B A xs) (k:Nat):Sl w B A (xs.take k):=fun hn=>by
 have hx:xs≠[]:=by intro e;subst e;simp at hn
 obtain ⟨g,off,rfl,hg,hc⟩:=h hx
 refine ⟨g,off,rfl,hg,fun i x hi=>hc i x ?_⟩
 rw [List.getElem?_take] at hi
 split at hi
 ·exact hi
 ·cases hi
theorem Sl.at_ (h:Sl w B A xs) {i:Nat} {x:Value} (hx:xs[i]? = some x):∃ g off,A=some ⟨g,off,none⟩∧g<B∧w.cell? ⟨g,off+i,none⟩=some x:=by
 obtain ⟨g,off,rfl,hg,hc⟩:=h (by intro e;subst e;simp at hx)
 exact ⟨g,off,rfl,hg,hc i x hx⟩
end
theorem Sl.drewN {w:World} {B:Nat} {A:Option Addr} {xs:List Value} (h:Sl w B A xs) (n:Nat):Sl (w.drewN n) B A xs:=h
theorem mid_cell {ds:List Nat} {k m:Nat} (hk:ds.length=k) (hm:0<m):((ds++List.replicate m 0).map w32)[k]? = some (w32 0):=by
 obtain ⟨m',rfl⟩:∃ m',m=m'+1:=⟨m - 1,by omega⟩
 rw [List.getElem?_map,List.getElem?_append_right (by omega),hk,Nat.sub_self]
 simp [List.replicate_succ]
theorem mid_set {ds:List Nat} {k m:Nat} (hk:ds.length=k) (hm:0<m) (x:Nat):((ds++List.replicate m 0).map w32).set k (w32 x)=((ds++[x])++List.replicate (m - 1) 0).map w32:=by
 rw [← Mag.set_mid ds k m hk hm x,List.map_set]
theorem mid_set2 {ds a:List Nat} {k:Nat} (hk:ds.length=k) (hka:k<a.length) (x:Nat):((ds++a.drop k).map w32).set k (w32 x)=((ds++[x])++a.drop (k+1)).map w32:=by
 rw [← List.map_set,List.set_append_right _ _ (by omega),hk,Nat.sub_self,List.drop_eq_getElem_cons hka,List.set_cons_zero]
 simp
def Own (w:World) (g:Nat) (t:TypeId) (xs:List Value):Prop:=w.heap[g]? = some (.cells xs.toArray t (0,0))
section
variable {w w':World} {g:Nat} {t:TypeId} {xs:List Value}
theorem Own.lt (h:Own w g t xs):g<w.heap.size:=by
 unfold Own at h
 rcases Nat.lt_or_ge g w.heap.size with h1 | h1
 ·exact h1
 ·rw [Array.getElem?_eq_none h1] at h;cases h
theorem Own.cell (h:Own w g t xs) (i:Nat):w.cell? ⟨g,i,none⟩=xs[i]?:=by
 unfold Own at h
 simp [World.cell?,h]
theorem Own.frozen (h:Own w g t xs) (i:Nat):w.frozen? ⟨g,i,none⟩=false:=by
 unfold Own at h
 simp [World.frozen?,h]
theorem Own.new (w:World) (t:TypeId) (xs:List Value):Own (w.alloc (.cells xs.toArray t)) w.heap.size t xs:=heap_alloc_new w _
theorem Own.alloc (h:Own w g t xs) (o:Obj):Own (w.alloc o) g t xs:=(Below.heap_alloc w o g h.lt).trans h
theorem Own.drewN (h:Own w g t xs) (n:Nat):Own (w.drewN n) g t xs:=h
theorem Own.set_ (h:Own w g t xs) (i:Nat) (u:Value):Own (w.setCell ⟨g,i,none⟩ u) g t (xs.set i u):=by
 unfold Own at h ⊢
 simp [World.setCell,Array.getElem?_modify,h]
theorem Own.far (h:Own w g t xs) {p:Addr} (hp:g≠p.block) (u:Value):Own (w.setCell p u) g t xs:=(Below.heap_setCell w p u g hp).trans h
theorem Own.below {B:Nat} (h:Own w g t xs) (hb:Below B w w') (hg:g<B):Own w' g t xs:=(hb.block g hg).trans h
theorem Own.on (h:Own w g t xs) (hb:Below w.heap.size w w'):Own w' g t xs:=h.below hb h.lt
theorem Own.grown {row:Option Nat} (h:Own w g t xs) (hb:w.grownBy w' row) (hg:some g≠row):Own w' g t xs:=(hb.block g h.lt hg).trans h
theorem Own.sl (h:Own w g t xs) {B:Nat} (hB:g<B):Sl w B (some ⟨g,0,none⟩) xs:=fun _=>⟨g,0,rfl,hB,fun i x hx=>by rw [Nat.zero_add,h.cell,hx]⟩
end
theorem below_grown {B:Nat} {a w w':World} {g:Nat} (h:Below B a w) (hg:w.grownBy w' (some g)) (hB:B≤g) (hs:B≤w.heap.size):Below B a w':=
 ⟨hg.os.trans h.os,hg.tape.trans h.tape,hg.output.trans h.output,Nat.le_trans h.size hg.size,fun k hk=>(hg.block k (by omega) (fun e=>by injection e;omega)).trans (h.block k hk)⟩
theorem grown_set (w:World) (g i:Nat) (u:Value):w.grownBy (w.setCell ⟨g,i,none⟩ u) (some g):=
 ⟨rfl,rfl,rfl,by simp [World.setCell],fun k _ hne=>Below.heap_setCell w ⟨g,i,none⟩ u k (fun e=>hne (by rw [e]))⟩
theorem grown_trans' {a b c:World} {row:Option Nat} (h:a.grownBy b row) (k:b.grownBy c row):a.grownBy c row:=
 ⟨k.os.trans h.os,k.tape.trans h.tape,k.output.trans h.output,Nat.le_trans h.size k.size,fun i hi hne=>(k.block i (Nat.lt_of_lt_of_le hi h.size) hne).trans (h.block i hi hne)⟩
end Go.Proofs.YtmlpibdincfgbaaDoor
/-
 (second part)
-/
namespace Go.Proofs.YtmlpibdincfgbaaDoor
open Go.RowKit
section
variable {w:World} {g:Nat} {t:TypeId} {x y z u:Value} {l:List Value}
theorem Own.c0 (h:Own w g t (x :: l)):w.cell? ⟨g,0,none⟩=some x:=h.cell 0
theorem Own.c1 (h:Own w g t (x :: y :: l)):w.cell? ⟨g,1,none⟩=some y:=h.cell 1
theorem Own.c2 (h:Own w g t (x :: y :: z :: l)):w.cell? ⟨g,2,none⟩=some z:=h.cell 2
theorem Own.c3 (h:Own w g t (x :: y :: z :: u :: l)):w.cell? ⟨g,3,none⟩=some u:=h.cell 3
end
theorem Below.call {w W w':World} (h:Below w.heap.size w W) (hb:Below W.heap.size W w'):Below w.heap.size w w':=h.trans (hb.mono h.size)
end Go.Proofs.YtmlpibdincfgbaaDoor
/-
 (second part)
-/
namespace Go.Proofs.YtmlpibdincfgbaaDoor
open Go.RowKit Mag
theorem bcell {W w1:World} (hb:Below W.heap.size W w1):(∀ b o,b<W.heap.size→w1.cell? ⟨b,o,none⟩=W.cell? ⟨b,o,none⟩)∧(∀ b o,b<W.heap.size→w1.frozen? ⟨b,o,none⟩=W.frozen? ⟨b,o,none⟩):=
 ⟨fun b o h=>hb.cell (p:=⟨b,o,none⟩) h,fun b o h=>hb.frozen (p:=⟨b,o,none⟩) h⟩
def topW:Nat:=512
def top:Nat:=4294967296 ^ topW
structure MagIs (w:World) (A:Option Addr) (l:List Nat) (c:Nat):Prop where
 sl:Sl w w.heap.size A (l.map w32)
 ws:Ws l
 nz:Nz l
 cap:l.length≤c
 mx:c≤maxLen
theorem MagIs.on {w w':World} {A:Option Addr} {l:List Nat} {c:Nat} (h:MagIs w A l c) (hb:Below w.heap.size w w'):MagIs w' A l c:=⟨h.sl.on hb,h.ws,h.nz,h.cap,h.mx⟩
def sgn (neg:Bool) (m:Nat):Int:=if neg then -(m:Int) else (m:Int)
end Go.Proofs.YtmlpibdincfgbaaDoor
/-
 (second part)
-/
namespace Go.Proofs.YtmlpibdincfgbaaDoor
open Go.RowKit Mag
def cmpI (x y:Int):Int:=if x<y then -1 else if y<x then 1 else 0
theorem cmpI_lt {x y:Int} (h:x<y):cmpI x y=-1:=by unfold cmpI;rw [if_pos h]
theorem cmpI_gt {x y:Int} (h:y<x):cmpI x y=1:=by unfold cmpI;rw [if_neg (by omega),if_pos h]
theorem cmpI_eq {x y:Int} (h:x=y):cmpI x y=0:=by unfold cmpI;rw [if_neg (by omega),if_neg (by omega)]
theorem isNaN_int (x:Int) (w:World):Calls Tryd.prog 107 #[.int .i64 x] w fun e w'=>e=.returned (.bool false)∧w=w':=by
 go_enter Tryd.func107,Tryd.ntmps107
 go_wp2
 go_ret
 simp
theorem cmp_int (x y:Int) (w:World):Calls Tryd.prog 98 #[.int .i64 x,.int .i64 y] w fun e w'=>e=.returned (.int .i64 (cmpI x y))∧w=w':=by
 rcases Int.lt_trichotomy x y with h | h | h
 ·go_enter Tryd.func98,Tryd.ntmps98
  go_wp2_with (go_at_call 107;refine (isNaN_int _ _).mono ?_;rintro e w' ⟨rfl,rfl⟩)
  go_ret
  exact ⟨by rw [cmpI_lt h];rfl,rfl⟩
 ·subst h
  go_enter Tryd.func98,Tryd.ntmps98
  go_wp2_with (go_at_call 107;refine (isNaN_int _ _).mono ?_;rintro e w' ⟨rfl,rfl⟩)
  go_ret
  exact ⟨by rw [cmpI_eq rfl];rfl,rfl⟩
 ·go_enter Tryd.func98,Tryd.ntmps98
  go_wp2_with (go_at_call 107;refine (isNaN_int _ _).mono ?_;rintro e w' ⟨rfl,rfl⟩)
  go_ret
  exact ⟨by rw [cmpI_gt h];rfl,rfl⟩
def RetInt (w:World) (z:Int) (e:Ending) (w':World):Prop:=e=.returned (.int .i64 z)∧Below w.heap.size w w'
theorem below_drewN' {B:Nat} {a w:World} (h:Below B a w) (n:Nat):Below B a (w.drewN n):=⟨h.os,h.tape,h.output,h.size,h.block⟩
theorem MagIs.alloc {w:World} {A:Option Addr} {l:List Nat} {c:Nat} (h:MagIs w A l c) (o:Obj):MagIs (w.alloc o) A l c:=
 h.on ((Below.refl _ _).alloc (Nat.le_refl _) _)
end Go.Proofs.YtmlpibdincfgbaaDoor
/-
 (second part)
-/
namespace Txt
open Go.Lib DecM
def neg (l:List UInt8):Bool:=l.head? == some 45
def digs (l:List UInt8):List UInt8:=if neg l then l.tail else l
def bad (l:List UInt8):Bool:=(digs l).isEmpty||((digs l).head? == some 48&&(neg l||decide (1<(digs l).length)))||!(digs l).all isDig
def sg (b:Bool) (m:Nat):Int:=if b then -(m:Int) else (m:Int)
def num (T:Nat) (l:List UInt8):Int × Int:=
 if 5000<l.length then (0,4)
 else if bad l then (0,2)
 else if T≤digV (digs l) then (0,4)
 else (sg (neg l) (digV (digs l)),0)
theorem itoa_len {z:Int} {k:Nat} (hk:0<k) (h:z.natAbs<10 ^ k):(itoa z).length≤k+1:=by
 have h1:=dec_length_le hk h
 unfold itoa
 split
 ·simp;omega
 ·rw [show z.toNat=z.natAbs by omega];omega
theorem parse_digits:∀ (l:List UInt8) (acc:Nat),(∀ c∈l,isDig c=true)→acc * 10 ^ l.length+10 ^ l.length≤10 ^ 18→parseUint10 acc l=.ok (acc * 10 ^ l.length+digV l)
 | [],acc,_,_=>by simp [parseUint10,digV]
 | c :: l,acc,h,hb=>by
  have hc:=h c (by simp)
  simp only [isDig,Bool.and_eq_true,decide_eq_true_eq] at hc
  rw [List.length_cons,Nat.pow_succ] at hb
  have hp:0<10 ^ l.length:=Nat.pow_pos (by decide)
  have h1:(acc * 10+10) * 10 ^ l.length≤10 ^ 18:=by
   have:(acc * 10+10) * 10 ^ l.length=acc * (10 ^ l.length * 10)+10 ^ l.length * 10:=by grind
   omega
  have h2:(acc * 10+10) * 1≤10 ^ 18:=Nat.le_trans (Nat.mul_le_mul_left _ hp) h1
  rw [parseUint10,if_pos hc,if_neg (by omega),if_neg (by omega)]
  have h3:(acc * 10+(c.toNat - 48)) * 10 ^ l.length+10 ^ l.length≤10 ^ 18:=by
   have:(acc * 10+(c.toNat - 48)) * 10 ^ l.length+10 ^ l.length=(acc * 10+(c.toNat - 48)+1) * 10 ^ l.length:=by grind
   rw [this]
   exact Nat.le_trans (Nat.mul_le_mul_right _ (by omega)) h1
  rw [parse_digits l _ (fun x hx=>h x (by simp [hx])) h3,digV_cons,List.length_cons,Nat.pow_succ]
  congr 1
  grind
end Txt
/-
 (second part)
-/
namespace Go.Proofs.YtmlpibdincfgbaaDoor
open Go.RowKit
theorem str_size {s:ByteArray} {l:List UInt8} (h:s.data.toList=l):s.size=l.length:=by
 subst h
 rw [Array.length_toList];rfl
theorem str_cat (a b:ByteArray):(a++b).data.toList=a.data.toList++b.data.toList:=by
 simp
end Go.Proofs.YtmlpibdincfgbaaDoor
