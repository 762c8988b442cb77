/-
  Queries, plain: two texts are read (the document's examples).
  Queries, plain: the texts of regions and queries; which queries are valid.
  Queries, plain: what the generator of regions can make: its size, its text's length.
  Queries, plain: what is parsed is small and valid.
  Queries, plain: texts with further spaces, token by token.
  Contracts of the reference model of chapter 05: Good, GoodBox (cut out of R6).
  Chapter 38's law: regions from one package to the other.
  Chapter 38's law: queries from one package to the other; the reference's Same, SameInts, SameQuery.
  Chapter 38's law: the two examples.
  Chapter 38's reference: the generator of regions: its state, its next number; the points of the grid.
  Chapter 38's reference: the generator makes a region.
-/
import Derived.Test.YtmlpibdincfgbaaDoorK4
import Derived.KernelRfl
import Derived.Test.YtmlpibdincfgbaaDoorL34
import Derived.Lib.ItoaNum
import Derived.Test.YtmlpibdincfgbaaDoorK18
import Derived.Test.YtmlpibdincfgbaaDoorM4
import Derived.Test.YtmlpibdincfgbaaDoorK21
import Derived.Test.YtmlpibdincfgbaaDoorA4
import Derived.Deep.Cut
import Derived.Deep.DeepCutAuto
namespace Qy
open Go
def toksF:Nat→Bs→Nat→List Tok
 | 0,_,i=>[⟨[],i⟩]
 | _+1,[],i=>[⟨[],i⟩]
 | f+1,c :: s,i=>if c=32 then toksF f s (i+1) else ⟨c :: s.takeWhile (more c),i⟩ :: toksF f (s.dropWhile (more c)) (i+1+(s.takeWhile (more c)).length)
theorem toks_fuel:∀ (f:Nat) (s:Bs) (i:Nat),s.length≤f→toks s i=toksF f s i:=by
 intro f
 induction f with
 | zero=>
  intro s i h
  obtain rfl:s=[]:=List.eq_nil_of_length_eq_zero (by omega)
  rw [toks]
  rfl
 | succ f ih=>
  intro s i h
  match s,h with
  | [],_=>rw [toks];rfl
  | c :: s,h=>
   simp only [List.length_cons] at h
   rw [toks,toksF]
   split
   ·exact ih s (i+1) (by omega)
   ·have hd:=drop_le (more c) s
    rw [ih _ _ (by omega)]
def parseT (n:Nat) (l:List Tok):Qry × Nat × Int:=
 match pQuery FU l with
 | .bad x e=>(Qry.none,x,e)
 | .ok q _=>if 256<nodes q.reg∨16<nest q.reg then (Qry.none,n,4) else (q,0,0)
theorem parse_eq (s:Bs) (f:Nat) (h:s.length≤f) (hf:f≤4096):parse s=parseT s.length (toksF f s 0):=by
 unfold parse
 rw [if_neg (by omega),toks_fuel f s 0 h]
 rfl
def text1:Bs:=[99,111,117,110,116,32,51,32,111,102,32,110,97,109,101,100,32,97,97,32,97,110,100,32,110,111,116,32,97,116,32,53,44,45,55,32,105,110,32,99,111,97,108,105,116,105,111,110,32,50,44,49,32,111,110,32,49,48,48,32,97,116,32,48]
def text2:Bs:=[99,111,117,110,116,32,51,32,111,102,32,97,97]
theorem read1:parse text1=(⟨3,kidsR 4 [.mk 1 [97,97] 0 0 0 0 0 0 [],kidsR 6 [.mk 2 [] 5 (-7) 0 0 0 0 []]],1,[2,1],100,0⟩,0,0):=by
 rw [parse_eq text1 100 (by decide) (by decide)]
 kernel_rfl
theorem read2:parse text2=(Qry.none,11,2):=by
 rw [parse_eq text2 100 (by decide) (by decide)]
 kernel_rfl
end Qy
namespace Qy
open Go
def coordsT (x y:Int):Bs:=Lib.itoa x++(44 :: Lib.itoa y)
def join (w:Bs):List Bs→Bs
 | []=>[]
 | t :: l=>t++l.flatMap fun u=>w++u
mutual
def text:Reg→Bool→Bs
 | .mk k nm ax ay b0 b1 b2 b3 kids,item=>
  if k=0 then [119,104,111,108,101]
  else if k=1 then [110,97,109,101,100,32]++nm
  else if k=2 then [97,116,32]++coordsT ax ay
  else if k=3 then [119,105,116,104,105,110,32]++(coordsT b0 b1++([32,116,111,32]++coordsT b2 b3))
  else if k=6 then [110,111,116,32]++(texts kids true).headD []
  else if 1<kids.length then (if item=true then 40 :: (join (if k=4 then [32,97,110,100,32] else [32,111,114,32]) (texts kids true)++[41]) else join (if k=4 then [32,97,110,100,32] else [32,111,114,32]) (texts kids true))
  else (if k=4 then [97,108,108,40] else [97,110,121,40])++((texts kids false).headD []++[41])
def texts:List Reg→Bool→List Bs
 | [],_=>[]
 | r :: l,b=>text r b :: texts l b
end
theorem texts_append (l m:List Reg) (b:Bool):texts (l++m) b=texts l b++texts m b:=by
 induction l with
 | nil=>rw [texts];rfl
 | cons r l ih=>rw [List.cons_append,texts,texts,ih];rfl
theorem decDigits_len:∀ (k u:Nat),u<10 ^ (k+1)→(Lib.decDigits u).length≤k+1:=by
 intro k
 induction k with
 | zero=>
  intro u h
  rw [Lib.decDigits,dif_pos (by omega)]
  simp
 | succ k ih=>
  intro u h
  rw [Lib.decDigits]
  split
  ·simp
  ·have:=ih (u / 10) (by rw [Nat.pow_succ] at h;omega)
   simp only [List.length_append,List.length_cons,List.length_nil]
   omega
theorem itoa_len (n:Int) (h:-1073741824≤n) (h2:n≤1073741824):(Lib.itoa n).length≤11:=by
 unfold Lib.itoa
 split
 ·have:=decDigits_len 9 n.natAbs (by omega)
  simp only [List.length_cons]
  omega
 ·have:=decDigits_len 9 n.toNat (by omega)
  omega
theorem coords_len {x y:Int} (h:ptOK x y=true):(coordsT x y).length≤23:=by
 unfold ptOK at h
 simp only [Bool.and_eq_true,decide_eq_true_eq] at h
 have h1:=itoa_len x (by omega) (by omega)
 have h2:=itoa_len y (by omega) (by omega)
 unfold coordsT
 simp only [List.length_append,List.length_cons]
 omega
theorem join_len (w:Bs) (hw:w.length≤5):∀ (l:List Bs) (n:Nat),(l.map fun t=>t.length+5).sum≤n→(join w l).length≤n:=by
 intro l n h
 cases l with
 | nil=>simp [join]
 | cons t l=>
  rw [join,List.length_append]
  simp only [List.map_cons,List.sum_cons] at h
  suffices (l.flatMap fun u=>w++u).length≤(l.map fun t=>t.length+5).sum by omega
  clear h
  induction l with
  | nil=>simp
  | cons u l ih=>
   simp only [List.flatMap_cons,List.length_append,List.map_cons,List.sum_cons]
   omega
end Qy
namespace Qy
def MadeP (d x:Nat) (R:Reg) (y:Nat):Prop:=
 (x<y∧(60≤x→y≤x+5)∧(x<60→y≤60+16 * d))∧nodeE R=0∧nest R≤d∧nodes R≤y - x∧∀ b,(text R b).length+5≤14 * (y - x)
def KidsP (d x i:Nat) (l:List Reg) (y:Nat):Prop:=
 l.length=i∧x+2≤y∧y≤61+16 * (d - 1)+5 * i∧(∀ r∈l,nodeE r=0)∧nestL l≤d - 1∧nodesL l≤y - (x+2)∧∀ b,((texts l b).map fun t=>t.length+5).sum≤14 * (y - (x+2))
theorem KidsP.start (d x:Nat) (hx:x≤59):KidsP d x 0 [] (x+2):=
 ⟨rfl,Nat.le_refl _,by omega,by simp,by rw [nestL];omega,by rw [nodesL];omega,fun b=>by rw [texts];simp⟩
theorem KidsP.step {d x i y z:Nat} {l:List Reg} {R:Reg} (h:KidsP d x i l y) (k:MadeP (d - 1) y R z):KidsP d x (i+1) (l++[R]) z:=by
 obtain ⟨h1,h2,h3,h4,h5,h6,h7⟩:=h
 obtain ⟨⟨k0,k1,k2⟩,k3,k4,k5,k6⟩:=k
 refine ⟨by simp [h1],by omega,?_,all_snoc h4 k3,?_,?_,fun b=>?_⟩
 ·rcases Nat.lt_or_ge y 60 with e | e
  ·have:=k2 e;omega
  ·have:=k1 e;omega
 ·rw [nestL_append]
  have:nestL [R]=nest R:=by rw [nestL,nestL];omega
  omega
 ·rw [nodesL_append,nodesL_one]
  omega
 ·have:=h7 b
  have:=k6 b
  rw [texts_append,List.map_append,List.sum_append]
  have:((texts [R] b).map fun t=>t.length+5).sum=(text R b).length+5:=by rw [texts,texts];simp
  omega
theorem KidsP.head {d x i y:Nat} {l:List Reg} (h:KidsP d x i l y) (b:Bool):((texts l b).headD []).length≤14 * (y - (x+2)):=by
 have:=h.2.2.2.2.2.2 b
 cases hx:texts l b with
 | nil=>simp
 | cons t r=>
  rw [hx] at this
  simp only [List.map_cons,List.sum_cons] at this
  simp only [List.headD_cons]
  omega
theorem KidsP.done {d x i y:Nat} {l:List Reg} (h:KidsP d x i l y) (hi:i≤3) (hx:x≤59) (hd:2≤d) {k:Int} (hk:k=4∨k=5):MadeP d x (kidsR k l) y:=by
 have hh:=h.head
 obtain ⟨h1,h2,h3,h4,h5,h6,h7⟩:=h
 refine ⟨⟨by omega,fun e=>by omega,fun e=>by omega⟩,nodeE_kids hk h4,?_,?_,fun b=>?_⟩
 ·unfold kidsR;rw [nest];omega
 ·rw [nodes_kidsR];omega
 ·have hj:=fun w hw=>join_len w hw (texts l true) _ (h7 true)
  have h0:=hh false
  unfold kidsR
  rw [text,if_neg (by omega),if_neg (by omega),if_neg (by omega),if_neg (by omega),if_neg (by omega)]
  split
  ·split
   ·have:=hj (if k=4 then [32,97,110,100,32] else [32,111,114,32]) (by split <;> simp)
    simp only [List.length_cons,List.length_append,List.length_nil]
    omega
   ·have:=hj (if k=4 then [32,97,110,100,32] else [32,111,114,32]) (by split <;> simp)
    omega
  ·have:(if k=4 then [97,108,108,40] else [97,110,121,40]:Bs).length=4:=by split <;> rfl
   simp only [List.length_append,List.length_cons,List.length_nil]
   omega
theorem MadeP.not_ {d x y:Nat} {R:Reg} (h:MadeP (d - 1) (x+1) R y) (hx:x≤59) (hd:2≤d):MadeP d x (kidsR 6 [R]) y:=by
 obtain ⟨⟨k0,k1,k2⟩,k3,k4,k5,k6⟩:=h
 refine ⟨⟨by omega,fun e=>by omega,fun e=>?_⟩,nodeE_not k3,?_,?_,fun b=>?_⟩
 ·rcases Nat.lt_or_ge (x+1) 60 with e | e
  ·have:=k2 e;omega
  ·have:=k1 e;omega
 ·unfold kidsR
  rw [nest,nestL,nestL]
  omega
 ·rw [nodes_kidsR,nodesL_one];omega
 ·have:=k6 true
  unfold kidsR
  rw [text,if_neg (by omega),if_neg (by omega),if_neg (by omega),if_neg (by omega),if_pos rfl,texts]
  simp only [List.headD_cons,List.length_append,List.length_cons,List.length_nil]
  omega
theorem MadeP.leaf {d x c m:Nat} {k:Int} {nm:Bs} {ax ay b0 b1 b2 b3:Int} (hd:1≤d) (hc:1≤c∧c≤2) (hm:m≤3) (hv:nodeE (.mk k nm ax ay b0 b1 b2 b3 [])=0)
 (ht:∀ b,(text (.mk k nm ax ay b0 b1 b2 b3 []) b).length+5≤14 * (1+m)):MadeP d x (.mk k nm ax ay b0 b1 b2 b3 []) (x+c+m):=by
 refine ⟨⟨by omega,fun e=>by omega,fun e=>by omega⟩,hv,?_,?_,fun b=>?_⟩
 ·rw [nest,nestL];omega
 ·rw [nodes,nodesL];omega
 ·have:=ht b
  omega
theorem MadeP.mono {d e x y:Nat} {R:Reg} (h:MadeP d x R y) (k:d≤e):MadeP e x R y:=by
 obtain ⟨⟨h0,h1,h2⟩,h3,h4,h5,h6⟩:=h
 exact ⟨⟨h0,h1,fun e=>by have:=h2 e;omega⟩,h3,by omega,h5,h6⟩
theorem made_whole {d x c:Nat} (hd:1≤d) (hc:1≤c∧c≤2):MadeP d x (.mk 0 [] 0 0 0 0 0 0 []) (x+c):=by
 have z0:ptOK 0 0=true:=by decide
 have z1:boxOK 0 0 0 0=true:=by decide
 have:=MadeP.leaf (x:=x) (m:=0) (k:=0) (nm:=[]) (ax:=0) (ay:=0) (b0:=0) (b1:=0) (b2:=0) (b3:=0) hd hc (by omega)
  (nodeE_leaf ⟨by omega,by omega⟩ (fun _=>rfl) (fun _=>⟨rfl,rfl⟩) (fun _=>⟨rfl,rfl,rfl,rfl⟩) (fun h=>by cases h) z0 z1) (fun b=>by rw [text];simp)
 simpa using this
theorem made_named {d x c:Nat} {nm:Bs} (hd:1≤d) (hc:1≤c∧c≤2) (hn:nameOK nm=true):MadeP d x (.mk 1 nm 0 0 0 0 0 0 []) (x+c+1):=by
 have z0:ptOK 0 0=true:=by decide
 have z1:boxOK 0 0 0 0=true:=by decide
 refine MadeP.leaf hd hc (by omega) (nodeE_leaf ⟨by omega,by omega⟩ (fun h=>absurd rfl h) (fun _=>⟨rfl,rfl⟩) (fun _=>⟨rfl,rfl,rfl,rfl⟩) (fun _=>hn) z0 z1) (fun b=>?_)
 unfold nameOK at hn
 simp only [Bool.and_eq_true,decide_eq_true_eq] at hn
 rw [text,if_neg (by omega),if_pos rfl]
 simp only [List.length_append,List.length_cons,List.length_nil]
 omega
theorem made_at {d x c:Nat} {ax ay:Int} (hd:1≤d) (hc:1≤c∧c≤2) (hp:ptOK ax ay=true):MadeP d x (.mk 2 [] ax ay 0 0 0 0 []) (x+c+2):=by
 have z1:boxOK 0 0 0 0=true:=by decide
 refine MadeP.leaf hd hc (by omega) (nodeE_leaf ⟨by omega,by omega⟩ (fun _=>rfl) (fun h=>absurd rfl h) (fun _=>⟨rfl,rfl,rfl,rfl⟩) (fun h=>by cases h) hp z1) (fun b=>?_)
 have:=coords_len hp
 rw [text,if_neg (by omega),if_neg (by omega),if_pos rfl]
 simp only [List.length_append,List.length_cons,List.length_nil]
 omega
theorem itoa_len3 (n:Int) (h:0≤n) (h2:n≤999):(Go.Lib.itoa n).length≤3:=by
 unfold Go.Lib.itoa
 rw [if_neg (by omega)]
 have:=decDigits_len 2 n.toNat (by omega)
 omega
theorem made_within {d x c:Nat} {a b e f:Int} (hd:1≤d) (hc:1≤c∧c≤2) (ha:0≤a∧a≤99) (hb:0≤b∧b≤99) (he:a≤e∧e≤199) (hf:b≤f∧f≤199):MadeP d x (.mk 3 [] 0 0 a b e f []) (x+c+3):=by
 have z0:ptOK 0 0=true:=by decide
 have z1:boxOK a b e f=true:=by
  unfold boxOK ptOK
  simp only [Bool.and_eq_true,decide_eq_true_eq]
  omega
 refine MadeP.leaf hd hc (by omega) (nodeE_leaf ⟨by omega,by omega⟩ (fun _=>rfl) (fun _=>⟨rfl,rfl⟩) (fun h=>absurd rfl h) (fun h=>by cases h) z0 z1) (fun b'=>?_)
 have h1:=itoa_len3 a (by omega) (by omega)
 have h2:=itoa_len3 b (by omega) (by omega)
 have h3:=itoa_len3 e (by omega) (by omega)
 have h4:=itoa_len3 f (by omega) (by omega)
 rw [text,if_neg (by omega),if_neg (by omega),if_neg (by omega),if_pos rfl]
 unfold coordsT
 simp only [List.length_append,List.length_cons,List.length_nil]
 omega
theorem MadeP.good {d y:Nat} {R:Reg} (h:MadeP d 0 R y) (hd:d≤6):regE R=0∧nodes R≤256:=by
 obtain ⟨⟨h0,h1,h2⟩,h3,h4,h5,h6⟩:=h
 have:=h2 (by omega)
 refine ⟨?_,by omega⟩
 unfold regE
 rw [if_neg (by omega),h3]
end Qy
namespace Qy
end Qy
namespace Qy
end Qy
namespace Go.Proofs.YtmlpibdincfgbaaDoor
open Go.RowKit Mag
end Go.Proofs.YtmlpibdincfgbaaDoor
namespace Go.Proofs.YtmlpibdincfgbaaDoor
open Go.RowKit
set_option linter.unusedSimpArgs false
set_option linter.unusedVariables false
theorem below_put {a w w':World} {g:Nat} (h:Below a.heap.size a w) (k:At1 g w w') (hg:a.heap.size≤g):Below a.heap.size a w':=Below.grown h k h.size fun j hj=>by cases hj;exact hg
structure JG (T1 T2:TypeId) (g1 g2 g3:Nat) (c1 c2 c3:List Value) (N:Nat→Prop) (w wi:World) (v:Value) (acc:List Qy.Reg) (D:Nat→Prop) (wz:World):Prop where
 bl:Below w.heap.size w wz
 sz:wi.heap.size≤wz.heap.size
 o1:Own wz g1 T1 c1
 o2:Own wz g2 T2 c2
 o3:Own wz g3 T2 c3
 row:¬ D 9→KRow T2 N wz v acc
section
variable {T1 T2:TypeId} {g1 g2 g3:Nat} {c1 c2 c3:List Value} {N:Nat→Prop} {w wi:World} {v:Value} {acc:List Qy.Reg} {D:Nat→Prop} {wz wy:World} {i:Nat}
theorem JG.on (h:JG T1 T2 g1 g2 g3 c1 c2 c3 N w wi v acc D wz) (k:Below wz.heap.size wz wy) (_:i≠9):JG T1 T2 g1 g2 g3 c1 c2 c3 N w wi v acc (fun k=>D k∨k=i) wy:=
 ⟨Below.call h.bl k,Nat.le_trans h.sz k.size,h.o1.on k,h.o2.on k,h.o3.on k,fun hn=>(h.row fun hd=>hn (.inl hd)).on k⟩
theorem JG.pure (h:JG T1 T2 g1 g2 g3 c1 c2 c3 N w wi v acc D wz) (h9:i≠9):JG T1 T2 g1 g2 g3 c1 c2 c3 N w wi v acc (fun k=>D k∨k=i) wz:=h.on (Below.refl _ _) h9
theorem JG.push (h:JG T1 T2 g1 g2 g3 c1 c2 c3 N w wi v acc D wz) (k:wz.grownBy wy v.ownBlock) (hv:∀ g,v.ownBlock=some g→w.heap.size≤g∧g≠g1∧g≠g2∧g≠g3) :
 JG T1 T2 g1 g2 g3 c1 c2 c3 N w wi v acc (fun k=>D k∨k=9) wy:=
 ⟨Below.grown h.bl k h.bl.size fun g hg=>(hv g hg).1,Nat.le_trans h.sz k.size,h.o1.grown k (fun e=>(hv _ e.symm).2.1 rfl),h.o2.grown k (fun e=>(hv _ e.symm).2.2.1 rfl),h.o3.grown k (fun e=>(hv _ e.symm).2.2.2 rfl),fun hn=>absurd (.inr rfl) hn⟩
end
def sReg5T (T:TypeId) (N:Nat→Prop) (acc:List Qy.Reg) (RI:Qy.Res Qy.Reg):SpecE:=sE fun v w=>∃ x:Value,v=x∧∃ R l3 A c,x=.slice A (acc.length+1) c∧RI=.ok R l3∧KRow T N w x (acc++[R])
theorem UpD11 {a0 a1 a2 a3 a4 a5 a6 b0:Value} {s3 s4 s5:SpecE} {D:Nat→Prop} {w w':World} (u3:D 7→∀ x,s3.p x w→s3.p x w') (u4:D 8→∀ x,s4.p x w→s4.p x w') (u5:D 9→∀ x,s5.p x w→s5.p x w') :
 UpD [Spec.eq a0,Spec.eq a1,Spec.eq a2,Spec.eq a3,Spec.eq a4,Spec.eq a5,Spec.eq a6,s3,s4,s5,Spec.eq b0] D w w':=by
 intro k s hD hs
 match k,hD,hs with
 | 0,_,hs=>cases hs;exact fun _ h=>h
 | 1,_,hs=>cases hs;exact fun _ h=>h
 | 2,_,hs=>cases hs;exact fun _ h=>h
 | 3,_,hs=>cases hs;exact fun _ h=>h
 | 4,_,hs=>cases hs;exact fun _ h=>h
 | 5,_,hs=>cases hs;exact fun _ h=>h
 | 6,_,hs=>cases hs;exact fun _ h=>h
 | 7,hD,hs=>cases hs;exact u3 hD
 | 8,hD,hs=>cases hs;exact u4 hD
 | 9,hD,hs=>cases hs;exact u5 hD
 | 10,_,hs=>cases hs;exact fun _ h=>h
 | k+11,_,hs=>cases hs
def z9:List Value:=[.int .i64 0,.string ⟨#[]⟩,.int .i64 0,.int .i64 0,.int .i64 0,.int .i64 0,.int .i64 0,.int .i64 0,.slice none 0 0]
set_option maxRecDepth 100000 in
set_option maxHeartbeats 3200000 in
theorem plainRegion_any:∀ (n:Nat) (R:Qy.Reg),Qy.nodes R≤n→n≤1000000→∀ (v:Value) (w:World),IsReg w R v→
 Calls Tryd.prog 22 #[v] w fun e w'=>∃ v',e=.returned v'∧Below w.heap.size w w'∧regV w R v' w':=by
 intro n
 induction n with
 | zero=>intro R h;have:=Qy.nodes_pos R;omega
 | succ n ih=>
  intro R hn hN v w hv
  obtain ⟨cs,rfl,hR⟩:=hv
  obtain ⟨k,nm,ax,ay,b0,b1,b2,b3,kids⟩:=R
  rw [RegAt] at hR
  obtain ⟨A,c,rfl,hK⟩:=hR
  have HIH:Hid (∀ R∈kids,∀ (v:Value) (w:World),IsReg w R v→Calls Tryd.prog 22 #[v] w fun e w'=>∃ v',e=.returned v'∧Below w.heap.size w w'∧regV w R v' w'):=Lib.hid fun R hR=>ih R (by have:=Qy.nodes_kid (k:=k) (nm:=nm) (ax:=ax) (ay:=ay) (b0:=b0) (b1:=b1) (b2:=b2) (b3:=b3) hR;omega) (by omega)
  have hnn:Qy.nodesL kids≤n:=by rw [Qy.nodes] at hn;omega
  have hml:=Qy.len_nodesL kids
  obtain ⟨m,hm⟩:∃ m,kids.length=m:=⟨_,rfl⟩
  have HM:=Lib.hid hm
  rw [hm] at hml ⊢
  have hmb:m≤1000000:=by omega
  have HK:=Lib.hid hK
  clear hm ih hn hnn hml hN hK
  go_enter Tryd.func22,Tryd.ntmps22
  go_upto_region 1 with fail
  refine wp_new2 fun W0 hA hQ hB=>?_
  obtain ⟨g2,hg2⟩:∃ g2,w.heap.size+1=g2:=⟨_,rfl⟩
  rw [hg2] at hQ ⊢
  have hgl:=hQ.lt
  obtain ⟨⟨y0,y1,y2,y3,y4,y5,y6,y7,y8⟩,_⟩:=hA.all9
  go_upto_region 2 with fail
  clear y0 y1 y2 y3 y4 y5 y6 y7 y8
  refine wp_new1 fun W1 hG kn=>?_
  obtain ⟨g3,hg3⟩:∃ g3,W0.heap.size=g3:=⟨_,rfl⟩
  rw [hg3] at hG ⊢
  have g13:w.heap.size<g3:=by omega
  have g23:g2<g3:=by omega
  have hg12:w.heap.size<g2:=by omega
  obtain ⟨N,hN⟩:∃ N:Nat→Prop,N=fun g=>g3<g:=⟨_,rfl⟩
  have HN:Hid (∀ g,N g↔g3<g):=Lib.hid fun g=>by rw [hN]
  have HS:=Lib.hid (And.intro (Below.call hB kn) (And.intro (hA.on kn) (And.intro (hQ.on kn) (And.intro hG (KRow.nil (T:=42) N W1)))))
  clear hB kn hA hQ hG hgl hg2 hg3 hN
  go_wp2_with fail
  go_loopw [4] (fun s4 wr=>∃ (i:Nat) (A3:Option Addr) (c3:Nat),i≤m∧s4=.int .i64 (i:Int)∧Below w.heap.size w wr∧Own wr w.heap.size 32 [.int .i64 k,.string (bs nm),.int .i64 ax,.int .i64 ay,.int .i64 b0,.int .i64 b1,.int .i64 b2,.int .i64 b3,.slice A m c]∧Own wr g2 42 [.int .i64 0,.string ⟨#[]⟩,.int .i64 0,.int .i64 0,.int .i64 0,.int .i64 0,.int .i64 0,.int .i64 0,.slice none 0 0]∧Own wr g3 42 [.int .i64 k,.string (bs nm),.int .i64 ax,.int .i64 ay,.int .i64 b0,.int .i64 b1,.int .i64 b2,.int .i64 b3,.slice A3 i c3]∧KRow 42 N wr (.slice A3 i c3) (kids.take i)) (fun s4 _=>m - (intOf s4).toNat)
  case atStart=>exact ⟨0,none,0,by omega,rfl,HS.out.1,HS.out.2.1,HS.out.2.2.1,HS.out.2.2.2.1,by simpa using HS.out.2.2.2.2⟩
  case round=>
   obtain ⟨i,A3,c3,hi,rfl,hB,hA,hQ,hG,hrow⟩:=hrel
   clear HS
   rcases Nat.lt_or_eq_of_le hi with hlt | heq
   ·have i0:(0:Int)≤(i:Int):=by omega
    have i1:(i:Int)<(m:Int):=by omega
    obtain ⟨Ri,hRi⟩:∃ R,kids[i]? = some R:=⟨_,List.getElem?_eq_getElem (by have:=HM.out;omega)⟩
    have hKr:=KidsAt.keep (S':=fun _=>True) hB.size (fun g hg hl=>⟨trivial,hB.block g hl⟩) A 0 kids HK.out
    obtain ⟨gk,off,n0,s1,n2,n3,n4,n5,n6,n7,A8,l8,c8,rfl,_,hgl,hE,hR⟩:=HK.out.lit hRi
    have HE:Hid (∀ wz,Below w.heap.size w wz→(wz.cell? ⟨gk,off+i * 9,none⟩=some (.int .i64 n0)∧wz.cell? ⟨gk,off+i * 9+1,none⟩=some (.string s1)∧wz.cell? ⟨gk,off+i * 9+2,none⟩=some (.int .i64 n2)∧wz.cell? ⟨gk,off+i * 9+3,none⟩=some (.int .i64 n3)∧wz.cell? ⟨gk,off+i * 9+4,none⟩=some (.int .i64 n4)∧wz.cell? ⟨gk,off+i * 9+5,none⟩=some (.int .i64 n5)∧wz.cell? ⟨gk,off+i * 9+6,none⟩=some (.int .i64 n6)∧wz.cell? ⟨gk,off+i * 9+7,none⟩=some (.int .i64 n7)∧wz.cell? ⟨gk,off+i * 9+8,none⟩=some (.slice A8 l8 c8))):=Lib.hid fun wz kz=>by
     have e:∀ o,wz.cell? ⟨gk,o,none⟩=w.cell? ⟨gk,o,none⟩:=fun o=>World.cell?_of_block (a:=⟨gk,o,none⟩) (kz.block gk hgl)
     rw [e,e,e,e,e,e,e,e,e]
     exact hE
    have HREG:Hid (∀ wz,Below w.heap.size w wz→IsReg wz Ri (.agg #[.int .i64 n0,.string s1,.int .i64 n2,.int .i64 n3,.int .i64 n4,.int .i64 n5,.int .i64 n6,.int .i64 n7,.slice A8 l8 c8])):=Lib.hid fun wz kz=>(hR.on kz).isReg
    have HC:=Lib.hid (HIH.out Ri (List.mem_of_getElem? hRi))
    obtain ⟨acc,hacc⟩:∃ acc,kids.take i=acc:=⟨_,rfl⟩
    have hal:acc.length=i:=by rw [← hacc,List.length_take];have:=HM.out;omega
    have HT:Hid (kids.take (i+1)=acc++[Ri]):=Lib.hid (by rw [List.take_add_one,hRi,← hacc];rfl)
    have HAL:=Lib.hid hal
    rw [hacc] at hrow
    rw [show (Value.slice A3 i c3)=.slice A3 acc.length c3 by rw [hal]] at hG hrow
    have hvx:=hrow.own
    have c8_:wr.cell? ⟨w.heap.size,8,none⟩=some (.slice (some ⟨gk,off,none⟩) m c):=hA.cell 8
    have hvi:∀ g,(Value.slice A3 acc.length c3).ownBlock=some g→g<wr.heap.size:=fun g e=>(hvx g e).2
    have hvn:∀ g,(Value.slice A3 acc.length c3).ownBlock=some g→w.heap.size≤g∧g≠w.heap.size∧g≠g2∧g≠g3:=fun g e=>by have:=(HN.out g).1 (hvx g e).1;omega
    have hgr:=hG.lt
    have hN5:∀ g,New wr g→N g:=fun g hg=>(HN.out g).2 (Nat.lt_of_lt_of_le hgr hg)
    have hn1:acc.length+1≤1000000:=by omega
    have kd:=Below.drew (Below.refl wr.heap.size wr)
    have hJ0:JG 32 42 w.heap.size g2 g3 [.int .i64 k,.string (bs nm),.int .i64 ax,.int .i64 ay,.int .i64 b0,.int .i64 b1,.int .i64 b2,.int .i64 b3,.slice (some ⟨gk,off,none⟩) m c] [.int .i64 0,.string ⟨#[]⟩,.int .i64 0,.int .i64 0,.int .i64 0,.int .i64 0,.int .i64 0,.int .i64 0,.slice none 0 0] [.int .i64 k,.string (bs nm),.int .i64 ax,.int .i64 ay,.int .i64 b0,.int .i64 b1,.int .i64 b2,.int .i64 b3,.slice A3 acc.length c3] N w wr (.slice A3 acc.length c3) acc (fun _=>False) wr.drew:=⟨Below.call hB kd,Nat.le_refl _,hA.on kd,hQ.on kd,hG.on kd,fun _=>hrow.on kd⟩
    clear hB hA hQ hG hrow hE hR hRi hacc hKr hvx kd hal
    go_upto_region 5 with fail
    clear c8_
    refine wp_region_suffixK (JG 32 42 w.heap.size g2 g3 [.int .i64 k,.string (bs nm),.int .i64 ax,.int .i64 ay,.int .i64 b0,.int .i64 b1,.int .i64 b2,.int .i64 b3,.slice (some ⟨gk,off,none⟩) m c] [.int .i64 0,.string ⟨#[]⟩,.int .i64 0,.int .i64 0,.int .i64 0,.int .i64 0,.int .i64 0,.int .i64 0,.slice none 0 0] [.int .i64 k,.string (bs nm),.int .i64 ax,.int .i64 ay,.int .i64 b0,.int .i64 b1,.int .i64 b2,.int .i64 b3,.slice A3 acc.length c3] N w wr (.slice A3 acc.length c3) acc) 11 [Spec.eq (.pointer (some ⟨g3,8,none⟩)),Spec.eq (.slice A3 acc.length c3),Spec.eq (.pointer (some ⟨w.heap.size,8,none⟩)),Spec.eq (.slice (some ⟨gk,off,none⟩) m c),Spec.eq (.int .i64 (i:Int)),Spec.eq (.pointer (some ⟨gk,off+i * 9,none⟩)),Spec.eq (.agg #[.int .i64 n0,.string s1,.int .i64 n2,.int .i64 n3,.int .i64 n4,.int .i64 n5,.int .i64 n6,.int .i64 n7,.slice A8 l8 c8]),sReg3 wr (.ok Ri []),sReg4 wr (.ok Ri []),sReg5T 42 N acc (.ok Ri []),Spec.eq (.pointer (some ⟨g3,8,none⟩))]
     (by kernel_rfl) (by kernel_rfl) rfl (by kernel_rfl) (by kernel_rfl) hJ0 ?_ ?_
    ·
     refine RegStepsK.cons ?_ ?_
     ·intro DD az wz hcl hnd hC hdf hF hD K hK;replace hdf:=Lib.hid hdf
      have q3:az.tmps[3]? = some (.pointer (some ⟨g3,0,none⟩)):=hF 3 rfl
      clear hF hD
      refine want_none rfl ?_
      go_simp
      exact hK _ _ (hC.pure (by decide)) UpD.refl rfl
     refine RegStepsK.cons ?_ ?_
     ·intro DD az wz hcl hnd hC hdf hF hD K hK;replace hdf:=Lib.hid hdf
      obtain ⟨_,q21,rfl⟩:=dep hD 0 rfl rfl rfl rfl
      have z8:wz.cell? ⟨g3,8,none⟩=some (.slice A3 acc.length c3):=hC.o3.cell 8
      clear hF hD
      refine want_none rfl ?_
      go_simp
      exact hK _ _ (hC.pure (by decide)) UpD.refl rfl
     refine RegStepsK.cons ?_ ?_
     ·intro DD az wz hcl hnd hC hdf hF hD K hK;replace hdf:=Lib.hid hdf
      have q1:az.tmps[1]? = some (.pointer (some ⟨w.heap.size,0,none⟩)):=hF 1 rfl
      clear hF hD
      refine want_none rfl ?_
      go_simp
      exact hK _ _ (hC.pure (by decide)) UpD.refl rfl
     refine RegStepsK.cons ?_ ?_
     ·intro DD az wz hcl hnd hC hdf hF hD K hK;replace hdf:=Lib.hid hdf
      obtain ⟨_,q23,rfl⟩:=dep hD 2 rfl rfl rfl rfl
      have z8:wz.cell? ⟨w.heap.size,8,none⟩=some (.slice (some ⟨gk,off,none⟩) m c):=hC.o1.cell 8
      clear hF hD
      refine want_none rfl ?_
      go_simp
      exact hK _ _ (hC.pure (by decide)) UpD.refl rfl
     refine RegStepsK.cons ?_ ?_
     ·intro DD az wz hcl hnd hC hdf hF hD K hK;replace hdf:=Lib.hid hdf
      have q4:az.tmps[4]? = some (.int .i64 (i:Int)):=hF 4 rfl
      clear hF hD
      refine want_none rfl ?_
      go_simp
      exact hK _ _ (hC.pure (by decide)) UpD.refl rfl
     refine RegStepsK.cons ?_ ?_
     ·intro DD az wz hcl hnd hC hdf hF hD K hK;replace hdf:=Lib.hid hdf
      obtain ⟨_,q24,rfl⟩:=dep hD 3 rfl rfl rfl rfl
      obtain ⟨_,q25,rfl⟩:=dep hD 4 rfl rfl rfl rfl
      clear hF hD
      refine want_none rfl ?_
      go_simp
      exact hK _ _ (hC.pure (by decide)) UpD.refl rfl
     refine RegStepsK.cons ?_ ?_
     ·intro DD az wz hcl hnd hC hdf hF hD K hK;replace hdf:=Lib.hid hdf
      obtain ⟨_,q26,rfl⟩:=dep hD 5 rfl rfl rfl rfl
      obtain ⟨e0,e1,e2,e3,e4,e5,e6,e7,e8⟩:=HE.out wz hC.bl
      clear hF hD
      refine want_none rfl ?_
      go_simp
      exact hK _ _ (hC.pure (by decide)) UpD.refl rfl
     refine RegStepsK.cons ?_ ?_
     ·intro DD az wz hcl hnd hC hdf hF hD K hK;replace hdf:=Lib.hid hdf
      obtain ⟨_,q27,rfl⟩:=dep hD 6 rfl rfl rfl rfl
      have HJ:=Lib.hid hC
      have HND:=Lib.hid hnd
      have HCL:=Lib.hid hcl
      have hir:=HREG.out wz hC.bl
      clear hF hD hC hcl hnd
      refine want_none rfl ?_
      go_simp
      refine (HC.out _ wz hir).mono ?_
      rintro e wy ⟨u,rfl,kb,hu⟩
      clear hir
      obtain ⟨cs,rfl,_⟩:=id hu
      exact hK _ _ (HJ.out.on kb (by decide)) (UpD11 (fun h=>absurd h HND.out) (fun h=>absurd (HCL.out 8 _ rfl h 7 rfl) HND.out) (fun h=>absurd (HCL.out 8 _ rfl (HCL.out 9 _ rfl h 8 rfl) 7 rfl) HND.out)) ⟨cs,rfl,Ri,[],rfl,hu.old HJ.out.sz⟩
     refine RegStepsK.cons ?_ ?_
     ·intro DD az wz hcl hnd hC hdf hF hD K hK;replace hdf:=Lib.hid hdf
      obtain ⟨_,q28,x28,rfl,hx28⟩:=dep hD 7 rfl rfl rfl rfl
      obtain ⟨R3_,l3,hri,hu⟩:=hx28
      obtain ⟨y0,y1,y2,y3,y4,y5,y6,y7,y8,hcs,one9,hR9,_⟩:=hu.open_
      rw [hcs] at q28
      have kn:=below_new wz (.cells #[y0,y1,y2,y3,y4,y5,y6,y7,y8] 42)
      have HP:=Lib.hid (hC.on kn (i:=8) (by decide))
      have HKN:=Lib.hid kn
      have HCL:=Lib.hid hcl
      have HND:=Lib.hid hnd
      have HO:=Lib.hid (own_news (Own.new wz 42 [y0,y1,y2,y3,y4,y5,y6,y7,y8]))
      have HR9:=Lib.hid (RegAt.keep kn.size (fun g hg hl=>⟨hg,kn.block g hl⟩) _ _ hR9)
      have HSZ:=Lib.hid hC.sz
      clear hF hD hC hcl hnd hu hR9 kn hcs
      refine want_none rfl ?_
      go_simp
      exact hK _ _ HP.out (UpD11 (fun _ _ hx=>sReg3_on hx HKN.out) (fun h=>absurd h HND.out) (fun h=>absurd (HCL.out 9 _ rfl h 8 rfl) HND.out)) ⟨wz.heap.size,rfl,HSZ.out,by simp,R3_,l3,y0,y1,y2,y3,y4,y5,y6,y7,y8,hri,one9,HO.out,HR9.out⟩
     refine RegStepsK.cons ?_ ?_
     ·intro DD az wz hcl hnd hC hdf hF hD K hK;replace hdf:=Lib.hid hdf
      obtain ⟨_,q22,rfl⟩:=dep hD 1 rfl rfl rfl rfl
      obtain ⟨_,q29,x29,rfl,hx29⟩:=dep hD 8 rfl rfl rfl rfl
      obtain ⟨hs1,hs2,R3_,l3,y0,y1,y2,y3,y4,y5,y6,y7,y8,hri,one9,ho9,hR9⟩:=hx29
      clear hF hD
      refine want_none rfl ?_
      obtain ⟨css,p1,p2,p4,p3⟩:=hC.row hnd
      obtain ⟨i0_,hi_,hz0,hz1,hz2⟩:=info_parts reg_infoF
      refine oper_pushO _ _ _ 40 rfl 42 i0_ (.agg #[.int .i64 0,.string ⟨#[]⟩,.int .i64 0,.int .i64 0,.int .i64 0,.int .i64 0,.int .i64 0,.int .i64 0,.slice none 0 0]) 9 96 Tryd.underlying40 hi_ hz0 hz1 hz2 rfl (by decide) 0 _ _ _ (by simp [Act.eval,q22]) p2 ⟨x29,0,none⟩ 1 [y0,y1,y2,y3,y4,y5,y6,y7,y8] (by simp [Act.eval,q29]) rfl ho9 one9 (by unfold maxLen;omega) (by omega) (Nat.zero_le _) ?_
      intro v' w' hrow3 hgrow hv'
      have hrow4:=KRow.push p1 p4 p3 rfl hR9 hN5 (Nat.le_of_lt (Nat.lt_of_le_of_lt hs1 hs2)) hvi hrow3 hgrow hv'
      obtain ⟨A',c',hA'⟩:=hrow4.slice
      exact hK _ _ (hC.push hgrow hvn) (UpD11 (fun _ _ hx=>sReg3_row hx hgrow hvi) (fun _ _ hx=>sReg4_row hx hgrow hvi) (fun h=>absurd h hnd)) ⟨v',rfl,R3_,l3,A',c',by simpa using hA',hri,hrow4⟩
     refine RegStepsK.cons ?_ ?_
     ·intro DD az wz hcl hnd hC hdf hF hD K hK;replace hdf:=Lib.hid hdf
      have q3:az.tmps[3]? = some (.pointer (some ⟨g3,0,none⟩)):=hF 3 rfl
      clear hF hD
      refine want_none rfl ?_
      go_simp
      exact hK _ _ (hC.pure (by decide)) UpD.refl rfl
     exact RegStepsK.nil
    intro w7 hJ7
    rintro _ rfl _ rfl _ rfl _ rfl _ rfl _ rfl _ rfl _ ⟨y28,rfl,_⟩ _ ⟨y29,rfl,_⟩ _ ⟨y30,rfl,hy30⟩ _ rfl
    simp only [List.take,FinOK,Act.put,List.setIfInBounds_toArray,List.set_cons_zero,List.set_cons_succ]
    simp only [List.drop,TailOK]
    obtain ⟨R7,l7,A7,c7,hv7,hri7,hrow7⟩:=hy30
    subst hv7
    obtain rfl:Ri=R7:=by cases hri7;rfl
    have q8:=hJ7.o3.cell 8
    have q9:=hJ7.o3.frozen 8
    have hk:=At1.set_ (r:=g3) w7 (p:=⟨g3,8,none⟩) rfl (.slice A7 (acc.length+1) c7)
    have hN3:¬ N g3:=fun h=>Nat.lt_irrefl _ ((HN.out g3).1 h)
    have HS:=Lib.hid (And.intro (below_put hJ7.bl hk (Nat.le_of_lt g13)) (And.intro (hJ7.o1.at1 hk (Nat.ne_of_lt g13)) (And.intro (hJ7.o2.at1 hk (Nat.ne_of_lt g23)) (And.intro (hJ7.o3.set_ 8 (.slice A7 (acc.length+1) c7)) (hrow7.at1 hk hN3)))))
    clear hJ7 hk hrow7 hri7 hJ0
    intro K hK
    refine want_none rfl ?_
    go_simp
    refine hK _ _ ?_
    clear hK K
    go_wp2_with fail
    go_roundw
    case rel=>
     have e1:=HAL.out
     exact ⟨i+1,A7,c7,by omega,by go_num,HS.out.1,HS.out.2.1,HS.out.2.2.1,by rw [← e1];exact HS.out.2.2.2.1,by rw [HT.out,← e1];exact HS.out.2.2.2.2⟩
    case measure=>simp [intOf];omega
   ·have h1:kids.take i=kids:=List.take_of_length_le (by have:=HM.out;omega)
    rw [h1] at hrow
    subst heq
    have c8_:wr.cell? ⟨w.heap.size,8,none⟩=some (.slice A i c):=hA.cell 8
    obtain ⟨⟨y0,y1,y2,y3,y4,y5,y6,y7,y8⟩,_⟩:=hG.all9
    obtain ⟨⟨z0,z1,z2,z3,z4,z5,z6,z7,z8⟩,f0,f1,f2,f3,f4,f5,f6,f7,f8⟩:=hQ.all9
    have HF:=Lib.hid (And.intro hQ (And.intro hB hrow))
    clear h1 hA hQ hG hB hrow
    go_wp2_with fail
    obtain ⟨hO,hk⟩:=HF.out.1.put9 (x0:=.int .i64 k) (x1:=.string (bs nm)) (x2:=.int .i64 ax) (x3:=.int .i64 ay) (x4:=.int .i64 b0) (x5:=.int .i64 b1) (x6:=.int .i64 b2) (x7:=.int .i64 b3) (x8:=.slice A3 i c3)
    clear y0 y1 y2 y3 y4 y5 y6 y7 y8 z0 z1 z2 z3 z4 z5 z6 z7 z8 f0 f1 f2 f3 f4 f5 f6 f7 f8 c8_
    revert hO hk
    generalize (((((((((wr.setCell _ _).setCell _ _).setCell _ _).setCell _ _).setCell _ _).setCell _ _).setCell _ _).setCell _ _).setCell _ _)=W9
    intro hO hk
    obtain ⟨⟨q0,q1,q2,q3,q4,q5,q6,q7,q8⟩,_⟩:=hO.all9
    refine bodyPost_ret (v:=.agg #[.int .i64 k,.string (bs nm),.int .i64 ax,.int .i64 ay,.int .i64 b0,.int .i64 b1,.int .i64 b2,.int .i64 b3,.slice A3 i c3]) (by simp [results,Tryd.results22,go_sem,q0,q1,q2,q3,q4,q5,q6,q7,q8]) rfl ?_
    have hN2:¬ N g2:=fun h=>by have:=(HN.out g2).1 h;omega
    obtain ⟨A',c',hA',hkids⟩:=((HF.out.2.2.at1 hk hN2).listV (w0:=w) (fun g hg=>by have:=(HN.out g).1 hg;show w.heap.size≤g;omega))
    have hm9:=HM.out
    refine ⟨_,rfl,below_put HF.out.2.1 hk (Nat.le_of_lt hg12),⟨_,rfl,?_⟩⟩
    rw [RegAt]
    rw [hm9] at hA'
    cases hA'
    exact ⟨_,_,by rw [hm9],hkids⟩
set_option maxRecDepth 100000 in
set_option maxHeartbeats 3200000 in
theorem ownRegion_any:∀ (n:Nat) (R:Qy.Reg),Qy.nodes R≤n→n≤1000000→∀ (v:Value) (w:World),IsReg w R v→
 Calls Tryd.prog 21 #[v] w fun e w'=>∃ v',e=.returned v'∧Below w.heap.size w w'∧regV w R v' w':=by
 intro n
 induction n with
 | zero=>intro R h;have:=Qy.nodes_pos R;omega
 | succ n ih=>
  intro R hn hN v w hv
  obtain ⟨cs,rfl,hR⟩:=hv
  obtain ⟨k,nm,ax,ay,b0,b1,b2,b3,kids⟩:=R
  rw [RegAt] at hR
  obtain ⟨A,c,rfl,hK⟩:=hR
  have HIH:Hid (∀ R∈kids,∀ (v:Value) (w:World),IsReg w R v→Calls Tryd.prog 21 #[v] w fun e w'=>∃ v',e=.returned v'∧Below w.heap.size w w'∧regV w R v' w'):=Lib.hid fun R hR=>ih R (by have:=Qy.nodes_kid (k:=k) (nm:=nm) (ax:=ax) (ay:=ay) (b0:=b0) (b1:=b1) (b2:=b2) (b3:=b3) hR;omega) (by omega)
  have hnn:Qy.nodesL kids≤n:=by rw [Qy.nodes] at hn;omega
  have hml:=Qy.len_nodesL kids
  obtain ⟨m,hm⟩:∃ m,kids.length=m:=⟨_,rfl⟩
  have HM:=Lib.hid hm
  rw [hm] at hml ⊢
  have hmb:m≤1000000:=by omega
  have HK:=Lib.hid hK
  clear hm ih hn hnn hml hN hK
  go_enter Tryd.func21,Tryd.ntmps21
  go_upto_region 1 with fail
  refine wp_new2 fun W0 hA hQ hB=>?_
  obtain ⟨g2,hg2⟩:∃ g2,w.heap.size+1=g2:=⟨_,rfl⟩
  rw [hg2] at hQ ⊢
  have hgl:=hQ.lt
  obtain ⟨⟨y0,y1,y2,y3,y4,y5,y6,y7,y8⟩,_⟩:=hA.all9
  go_upto_region 2 with fail
  clear y0 y1 y2 y3 y4 y5 y6 y7 y8
  refine wp_new1 fun W1 hG kn=>?_
  obtain ⟨g3,hg3⟩:∃ g3,W0.heap.size=g3:=⟨_,rfl⟩
  rw [hg3] at hG ⊢
  have g13:w.heap.size<g3:=by omega
  have g23:g2<g3:=by omega
  have hg12:w.heap.size<g2:=by omega
  obtain ⟨N,hN⟩:∃ N:Nat→Prop,N=fun g=>g3<g:=⟨_,rfl⟩
  have HN:Hid (∀ g,N g↔g3<g):=Lib.hid fun g=>by rw [hN]
  have HS:=Lib.hid (And.intro (Below.call hB kn) (And.intro (hA.on kn) (And.intro (hQ.on kn) (And.intro hG (KRow.nil (T:=32) N W1)))))
  clear hB kn hA hQ hG hgl hg2 hg3 hN
  go_wp2_with fail
  go_loopw [4] (fun s4 wr=>∃ (i:Nat) (A3:Option Addr) (c3:Nat),i≤m∧s4=.int .i64 (i:Int)∧Below w.heap.size w wr∧Own wr w.heap.size 42 [.int .i64 k,.string (bs nm),.int .i64 ax,.int .i64 ay,.int .i64 b0,.int .i64 b1,.int .i64 b2,.int .i64 b3,.slice A m c]∧Own wr g2 32 [.int .i64 0,.string ⟨#[]⟩,.int .i64 0,.int .i64 0,.int .i64 0,.int .i64 0,.int .i64 0,.int .i64 0,.slice none 0 0]∧Own wr g3 32 [.int .i64 k,.string (bs nm),.int .i64 ax,.int .i64 ay,.int .i64 b0,.int .i64 b1,.int .i64 b2,.int .i64 b3,.slice A3 i c3]∧KRow 32 N wr (.slice A3 i c3) (kids.take i)) (fun s4 _=>m - (intOf s4).toNat)
  case atStart=>exact ⟨0,none,0,by omega,rfl,HS.out.1,HS.out.2.1,HS.out.2.2.1,HS.out.2.2.2.1,by simpa using HS.out.2.2.2.2⟩
  case round=>
   obtain ⟨i,A3,c3,hi,rfl,hB,hA,hQ,hG,hrow⟩:=hrel
   clear HS
   rcases Nat.lt_or_eq_of_le hi with hlt | heq
   ·have i0:(0:Int)≤(i:Int):=by omega
    have i1:(i:Int)<(m:Int):=by omega
    obtain ⟨Ri,hRi⟩:∃ R,kids[i]? = some R:=⟨_,List.getElem?_eq_getElem (by have:=HM.out;omega)⟩
    have hKr:=KidsAt.keep (S':=fun _=>True) hB.size (fun g hg hl=>⟨trivial,hB.block g hl⟩) A 0 kids HK.out
    obtain ⟨gk,off,n0,s1,n2,n3,n4,n5,n6,n7,A8,l8,c8,rfl,_,hgl,hE,hR⟩:=HK.out.lit hRi
    have HE:Hid (∀ wz,Below w.heap.size w wz→(wz.cell? ⟨gk,off+i * 9,none⟩=some (.int .i64 n0)∧wz.cell? ⟨gk,off+i * 9+1,none⟩=some (.string s1)∧wz.cell? ⟨gk,off+i * 9+2,none⟩=some (.int .i64 n2)∧wz.cell? ⟨gk,off+i * 9+3,none⟩=some (.int .i64 n3)∧wz.cell? ⟨gk,off+i * 9+4,none⟩=some (.int .i64 n4)∧wz.cell? ⟨gk,off+i * 9+5,none⟩=some (.int .i64 n5)∧wz.cell? ⟨gk,off+i * 9+6,none⟩=some (.int .i64 n6)∧wz.cell? ⟨gk,off+i * 9+7,none⟩=some (.int .i64 n7)∧wz.cell? ⟨gk,off+i * 9+8,none⟩=some (.slice A8 l8 c8))):=Lib.hid fun wz kz=>by
     have e:∀ o,wz.cell? ⟨gk,o,none⟩=w.cell? ⟨gk,o,none⟩:=fun o=>World.cell?_of_block (a:=⟨gk,o,none⟩) (kz.block gk hgl)
     rw [e,e,e,e,e,e,e,e,e]
     exact hE
    have HREG:Hid (∀ wz,Below w.heap.size w wz→IsReg wz Ri (.agg #[.int .i64 n0,.string s1,.int .i64 n2,.int .i64 n3,.int .i64 n4,.int .i64 n5,.int .i64 n6,.int .i64 n7,.slice A8 l8 c8])):=Lib.hid fun wz kz=>(hR.on kz).isReg
    have HC:=Lib.hid (HIH.out Ri (List.mem_of_getElem? hRi))
    obtain ⟨acc,hacc⟩:∃ acc,kids.take i=acc:=⟨_,rfl⟩
    have hal:acc.length=i:=by rw [← hacc,List.length_take];have:=HM.out;omega
    have HT:Hid (kids.take (i+1)=acc++[Ri]):=Lib.hid (by rw [List.take_add_one,hRi,← hacc];rfl)
    have HAL:=Lib.hid hal
    rw [hacc] at hrow
    rw [show (Value.slice A3 i c3)=.slice A3 acc.length c3 by rw [hal]] at hG hrow
    have hvx:=hrow.own
    have c8_:wr.cell? ⟨w.heap.size,8,none⟩=some (.slice (some ⟨gk,off,none⟩) m c):=hA.cell 8
    have hvi:∀ g,(Value.slice A3 acc.length c3).ownBlock=some g→g<wr.heap.size:=fun g e=>(hvx g e).2
    have hvn:∀ g,(Value.slice A3 acc.length c3).ownBlock=some g→w.heap.size≤g∧g≠w.heap.size∧g≠g2∧g≠g3:=fun g e=>by have:=(HN.out g).1 (hvx g e).1;omega
    have hgr:=hG.lt
    have hN5:∀ g,New wr g→N g:=fun g hg=>(HN.out g).2 (Nat.lt_of_lt_of_le hgr hg)
    have hn1:acc.length+1≤1000000:=by omega
    have kd:=Below.drew (Below.refl wr.heap.size wr)
    have hJ0:JG 42 32 w.heap.size g2 g3 [.int .i64 k,.string (bs nm),.int .i64 ax,.int .i64 ay,.int .i64 b0,.int .i64 b1,.int .i64 b2,.int .i64 b3,.slice (some ⟨gk,off,none⟩) m c] [.int .i64 0,.string ⟨#[]⟩,.int .i64 0,.int .i64 0,.int .i64 0,.int .i64 0,.int .i64 0,.int .i64 0,.slice none 0 0] [.int .i64 k,.string (bs nm),.int .i64 ax,.int .i64 ay,.int .i64 b0,.int .i64 b1,.int .i64 b2,.int .i64 b3,.slice A3 acc.length c3] N w wr (.slice A3 acc.length c3) acc (fun _=>False) wr.drew:=⟨Below.call hB kd,Nat.le_refl _,hA.on kd,hQ.on kd,hG.on kd,fun _=>hrow.on kd⟩
    clear hB hA hQ hG hrow hE hR hRi hacc hKr hvx kd hal
    go_upto_region 5 with fail
    clear c8_
    refine wp_region_suffixK (JG 42 32 w.heap.size g2 g3 [.int .i64 k,.string (bs nm),.int .i64 ax,.int .i64 ay,.int .i64 b0,.int .i64 b1,.int .i64 b2,.int .i64 b3,.slice (some ⟨gk,off,none⟩) m c] [.int .i64 0,.string ⟨#[]⟩,.int .i64 0,.int .i64 0,.int .i64 0,.int .i64 0,.int .i64 0,.int .i64 0,.slice none 0 0] [.int .i64 k,.string (bs nm),.int .i64 ax,.int .i64 ay,.int .i64 b0,.int .i64 b1,.int .i64 b2,.int .i64 b3,.slice A3 acc.length c3] N w wr (.slice A3 acc.length c3) acc) 11 [Spec.eq (.pointer (some ⟨g3,8,none⟩)),Spec.eq (.slice A3 acc.length c3),Spec.eq (.pointer (some ⟨w.heap.size,8,none⟩)),Spec.eq (.slice (some ⟨gk,off,none⟩) m c),Spec.eq (.int .i64 (i:Int)),Spec.eq (.pointer (some ⟨gk,off+i * 9,none⟩)),Spec.eq (.agg #[.int .i64 n0,.string s1,.int .i64 n2,.int .i64 n3,.int .i64 n4,.int .i64 n5,.int .i64 n6,.int .i64 n7,.slice A8 l8 c8]),sReg3 wr (.ok Ri []),sReg4 wr (.ok Ri []),sReg5T 32 N acc (.ok Ri []),Spec.eq (.pointer (some ⟨g3,8,none⟩))]
     (by kernel_rfl) (by kernel_rfl) rfl (by kernel_rfl) (by kernel_rfl) hJ0 ?_ ?_
    ·
     refine RegStepsK.cons ?_ ?_
     ·intro DD az wz hcl hnd hC hdf hF hD K hK;replace hdf:=Lib.hid hdf
      have q3:az.tmps[3]? = some (.pointer (some ⟨g3,0,none⟩)):=hF 3 rfl
      clear hF hD
      refine want_none rfl ?_
      go_simp
      exact hK _ _ (hC.pure (by decide)) UpD.refl rfl
     refine RegStepsK.cons ?_ ?_
     ·intro DD az wz hcl hnd hC hdf hF hD K hK;replace hdf:=Lib.hid hdf
      obtain ⟨_,q21,rfl⟩:=dep hD 0 rfl rfl rfl rfl
      have z8:wz.cell? ⟨g3,8,none⟩=some (.slice A3 acc.length c3):=hC.o3.cell 8
      clear hF hD
      refine want_none rfl ?_
      go_simp
      exact hK _ _ (hC.pure (by decide)) UpD.refl rfl
     refine RegStepsK.cons ?_ ?_
     ·intro DD az wz hcl hnd hC hdf hF hD K hK;replace hdf:=Lib.hid hdf
      have q1:az.tmps[1]? = some (.pointer (some ⟨w.heap.size,0,none⟩)):=hF 1 rfl
      clear hF hD
      refine want_none rfl ?_
      go_simp
      exact hK _ _ (hC.pure (by decide)) UpD.refl rfl
     refine RegStepsK.cons ?_ ?_
     ·intro DD az wz hcl hnd hC hdf hF hD K hK;replace hdf:=Lib.hid hdf
      obtain ⟨_,q23,rfl⟩:=dep hD 2 rfl rfl rfl rfl
      have z8:wz.cell? ⟨w.heap.size,8,none⟩=some (.slice (some ⟨gk,off,none⟩) m c):=hC.o1.cell 8
      clear hF hD
      refine want_none rfl ?_
      go_simp
      exact hK _ _ (hC.pure (by decide)) UpD.refl rfl
     refine RegStepsK.cons ?_ ?_
     ·intro DD az wz hcl hnd hC hdf hF hD K hK;replace hdf:=Lib.hid hdf
      have q4:az.tmps[4]? = some (.int .i64 (i:Int)):=hF 4 rfl
      clear hF hD
      refine want_none rfl ?_
      go_simp
      exact hK _ _ (hC.pure (by decide)) UpD.refl rfl
     refine RegStepsK.cons ?_ ?_
     ·intro DD az wz hcl hnd hC hdf hF hD K hK;replace hdf:=Lib.hid hdf
      obtain ⟨_,q24,rfl⟩:=dep hD 3 rfl rfl rfl rfl
      obtain ⟨_,q25,rfl⟩:=dep hD 4 rfl rfl rfl rfl
      clear hF hD
      refine want_none rfl ?_
      go_simp
      exact hK _ _ (hC.pure (by decide)) UpD.refl rfl
     refine RegStepsK.cons ?_ ?_
     ·intro DD az wz hcl hnd hC hdf hF hD K hK;replace hdf:=Lib.hid hdf
      obtain ⟨_,q26,rfl⟩:=dep hD 5 rfl rfl rfl rfl
      obtain ⟨e0,e1,e2,e3,e4,e5,e6,e7,e8⟩:=HE.out wz hC.bl
      clear hF hD
      refine want_none rfl ?_
      go_simp
      exact hK _ _ (hC.pure (by decide)) UpD.refl rfl
     refine RegStepsK.cons ?_ ?_
     ·intro DD az wz hcl hnd hC hdf hF hD K hK;replace hdf:=Lib.hid hdf
      obtain ⟨_,q27,rfl⟩:=dep hD 6 rfl rfl rfl rfl
      have HJ:=Lib.hid hC
      have HND:=Lib.hid hnd
      have HCL:=Lib.hid hcl
      have hir:=HREG.out wz hC.bl
      clear hF hD hC hcl hnd
      refine want_none rfl ?_
      go_simp
      refine (HC.out _ wz hir).mono ?_
      rintro e wy ⟨u,rfl,kb,hu⟩
      clear hir
      obtain ⟨cs,rfl,_⟩:=id hu
      exact hK _ _ (HJ.out.on kb (by decide)) (UpD11 (fun h=>absurd h HND.out) (fun h=>absurd (HCL.out 8 _ rfl h 7 rfl) HND.out) (fun h=>absurd (HCL.out 8 _ rfl (HCL.out 9 _ rfl h 8 rfl) 7 rfl) HND.out)) ⟨cs,rfl,Ri,[],rfl,hu.old HJ.out.sz⟩
     refine RegStepsK.cons ?_ ?_
     ·intro DD az wz hcl hnd hC hdf hF hD K hK;replace hdf:=Lib.hid hdf
      obtain ⟨_,q28,x28,rfl,hx28⟩:=dep hD 7 rfl rfl rfl rfl
      obtain ⟨R3_,l3,hri,hu⟩:=hx28
      obtain ⟨y0,y1,y2,y3,y4,y5,y6,y7,y8,hcs,one9,hR9,_⟩:=hu.open_
      rw [hcs] at q28
      have kn:=below_new wz (.cells #[y0,y1,y2,y3,y4,y5,y6,y7,y8] 32)
      have HP:=Lib.hid (hC.on kn (i:=8) (by decide))
      have HKN:=Lib.hid kn
      have HCL:=Lib.hid hcl
      have HND:=Lib.hid hnd
      have HO:=Lib.hid (own_news (Own.new wz 32 [y0,y1,y2,y3,y4,y5,y6,y7,y8]))
      have HR9:=Lib.hid (RegAt.keep kn.size (fun g hg hl=>⟨hg,kn.block g hl⟩) _ _ hR9)
      have HSZ:=Lib.hid hC.sz
      clear hF hD hC hcl hnd hu hR9 kn hcs
      refine want_none rfl ?_
      go_simp
      exact hK _ _ HP.out (UpD11 (fun _ _ hx=>sReg3_on hx HKN.out) (fun h=>absurd h HND.out) (fun h=>absurd (HCL.out 9 _ rfl h 8 rfl) HND.out)) ⟨wz.heap.size,rfl,HSZ.out,by simp,R3_,l3,y0,y1,y2,y3,y4,y5,y6,y7,y8,hri,one9,HO.out,HR9.out⟩
     refine RegStepsK.cons ?_ ?_
     ·intro DD az wz hcl hnd hC hdf hF hD K hK;replace hdf:=Lib.hid hdf
      obtain ⟨_,q22,rfl⟩:=dep hD 1 rfl rfl rfl rfl
      obtain ⟨_,q29,x29,rfl,hx29⟩:=dep hD 8 rfl rfl rfl rfl
      obtain ⟨hs1,hs2,R3_,l3,y0,y1,y2,y3,y4,y5,y6,y7,y8,hri,one9,ho9,hR9⟩:=hx29
      clear hF hD
      refine want_none rfl ?_
      obtain ⟨css,p1,p2,p4,p3⟩:=hC.row hnd
      obtain ⟨i0_,hi_,hz0,hz1,hz2⟩:=info_parts reg_info
      refine oper_pushO _ _ _ 30 rfl 32 i0_ (.agg #[.int .i64 0,.string ⟨#[]⟩,.int .i64 0,.int .i64 0,.int .i64 0,.int .i64 0,.int .i64 0,.int .i64 0,.slice none 0 0]) 9 96 Tryd.underlying30 hi_ hz0 hz1 hz2 rfl (by decide) 0 _ _ _ (by simp [Act.eval,q22]) p2 ⟨x29,0,none⟩ 1 [y0,y1,y2,y3,y4,y5,y6,y7,y8] (by simp [Act.eval,q29]) rfl ho9 one9 (by unfold maxLen;omega) (by omega) (Nat.zero_le _) ?_
      intro v' w' hrow3 hgrow hv'
      have hrow4:=KRow.push p1 p4 p3 rfl hR9 hN5 (Nat.le_of_lt (Nat.lt_of_le_of_lt hs1 hs2)) hvi hrow3 hgrow hv'
      obtain ⟨A',c',hA'⟩:=hrow4.slice
      exact hK _ _ (hC.push hgrow hvn) (UpD11 (fun _ _ hx=>sReg3_row hx hgrow hvi) (fun _ _ hx=>sReg4_row hx hgrow hvi) (fun h=>absurd h hnd)) ⟨v',rfl,R3_,l3,A',c',by simpa using hA',hri,hrow4⟩
     refine RegStepsK.cons ?_ ?_
     ·intro DD az wz hcl hnd hC hdf hF hD K hK;replace hdf:=Lib.hid hdf
      have q3:az.tmps[3]? = some (.pointer (some ⟨g3,0,none⟩)):=hF 3 rfl
      clear hF hD
      refine want_none rfl ?_
      go_simp
      exact hK _ _ (hC.pure (by decide)) UpD.refl rfl
     exact RegStepsK.nil
    intro w7 hJ7
    rintro _ rfl _ rfl _ rfl _ rfl _ rfl _ rfl _ rfl _ ⟨y28,rfl,_⟩ _ ⟨y29,rfl,_⟩ _ ⟨y30,rfl,hy30⟩ _ rfl
    simp only [List.take,FinOK,Act.put,List.setIfInBounds_toArray,List.set_cons_zero,List.set_cons_succ]
    simp only [List.drop,TailOK]
    obtain ⟨R7,l7,A7,c7,hv7,hri7,hrow7⟩:=hy30
    subst hv7
    obtain rfl:Ri=R7:=by cases hri7;rfl
    have q8:=hJ7.o3.cell 8
    have q9:=hJ7.o3.frozen 8
    have hk:=At1.set_ (r:=g3) w7 (p:=⟨g3,8,none⟩) rfl (.slice A7 (acc.length+1) c7)
    have hN3:¬ N g3:=fun h=>Nat.lt_irrefl _ ((HN.out g3).1 h)
    have HS:=Lib.hid (And.intro (below_put hJ7.bl hk (Nat.le_of_lt g13)) (And.intro (hJ7.o1.at1 hk (Nat.ne_of_lt g13)) (And.intro (hJ7.o2.at1 hk (Nat.ne_of_lt g23)) (And.intro (hJ7.o3.set_ 8 (.slice A7 (acc.length+1) c7)) (hrow7.at1 hk hN3)))))
    clear hJ7 hk hrow7 hri7 hJ0
    intro K hK
    refine want_none rfl ?_
    go_simp
    refine hK _ _ ?_
    clear hK K
    go_wp2_with fail
    go_roundw
    case rel=>
     have e1:=HAL.out
     exact ⟨i+1,A7,c7,by omega,by go_num,HS.out.1,HS.out.2.1,HS.out.2.2.1,by rw [← e1];exact HS.out.2.2.2.1,by rw [HT.out,← e1];exact HS.out.2.2.2.2⟩
    case measure=>simp [intOf];omega
   ·have h1:kids.take i=kids:=List.take_of_length_le (by have:=HM.out;omega)
    rw [h1] at hrow
    subst heq
    have c8_:wr.cell? ⟨w.heap.size,8,none⟩=some (.slice A i c):=hA.cell 8
    obtain ⟨⟨y0,y1,y2,y3,y4,y5,y6,y7,y8⟩,_⟩:=hG.all9
    obtain ⟨⟨z0,z1,z2,z3,z4,z5,z6,z7,z8⟩,f0,f1,f2,f3,f4,f5,f6,f7,f8⟩:=hQ.all9
    have HF:=Lib.hid (And.intro hQ (And.intro hB hrow))
    clear h1 hA hQ hG hB hrow
    go_wp2_with fail
    obtain ⟨hO,hk⟩:=HF.out.1.put9 (x0:=.int .i64 k) (x1:=.string (bs nm)) (x2:=.int .i64 ax) (x3:=.int .i64 ay) (x4:=.int .i64 b0) (x5:=.int .i64 b1) (x6:=.int .i64 b2) (x7:=.int .i64 b3) (x8:=.slice A3 i c3)
    clear y0 y1 y2 y3 y4 y5 y6 y7 y8 z0 z1 z2 z3 z4 z5 z6 z7 z8 f0 f1 f2 f3 f4 f5 f6 f7 f8 c8_
    revert hO hk
    generalize (((((((((wr.setCell _ _).setCell _ _).setCell _ _).setCell _ _).setCell _ _).setCell _ _).setCell _ _).setCell _ _).setCell _ _)=W9
    intro hO hk
    obtain ⟨⟨q0,q1,q2,q3,q4,q5,q6,q7,q8⟩,_⟩:=hO.all9
    refine bodyPost_ret (v:=.agg #[.int .i64 k,.string (bs nm),.int .i64 ax,.int .i64 ay,.int .i64 b0,.int .i64 b1,.int .i64 b2,.int .i64 b3,.slice A3 i c3]) (by simp [results,Tryd.results21,go_sem,q0,q1,q2,q3,q4,q5,q6,q7,q8]) rfl ?_
    have hN2:¬ N g2:=fun h=>by have:=(HN.out g2).1 h;omega
    obtain ⟨A',c',hA',hkids⟩:=((HF.out.2.2.at1 hk hN2).listV (w0:=w) (fun g hg=>by have:=(HN.out g).1 hg;show w.heap.size≤g;omega))
    have hm9:=HM.out
    refine ⟨_,rfl,below_put HF.out.2.1 hk (Nat.le_of_lt hg12),⟨_,rfl,?_⟩⟩
    rw [RegAt]
    rw [hm9] at hA'
    cases hA'
    exact ⟨_,_,by rw [hm9],hkids⟩
end Go.Proofs.YtmlpibdincfgbaaDoor
namespace Go.Proofs.YtmlpibdincfgbaaDoor
open Go.RowKit
set_option linter.unusedSimpArgs false
set_option linter.unusedVariables false
theorem regV.on {w0 w w':World} {R:Qy.Reg} {v:Value} (h:regV w0 R v w) (k:Below w.heap.size w w'):regV w0 R v w':=by
 obtain ⟨cs,e,hR⟩:=h
 exact ⟨cs,e,hR.on k⟩
theorem regV.isReg {w0 w:World} {R:Qy.Reg} {v:Value} (h:regV w0 R v w):IsReg w R v:=by
 obtain ⟨cs,rfl,hR⟩:=h
 exact hR.isReg
theorem IsReg.on {w w':World} {R:Qy.Reg} {v:Value} (h:IsReg w R v) (k:Below w.heap.size w w'):IsReg w' R v:=by
 obtain ⟨cs,e,hR⟩:=h
 exact ⟨cs,e,hR.on k⟩
theorem IntsAt.on {w w':World} {S:Nat→Prop} {A:Option Addr} {l:List Int} (h:IntsAt w S A l) (k:Below w.heap.size w w'):IntsAt w' S A l:=h.keep k.size fun g hg hl=>⟨hg,k.block g hl⟩
set_option maxRecDepth 100000 in
set_option maxHeartbeats 1600000 in
theorem SameInts_any {w:World} {S S':Nat→Prop} {A A':Option Addr} {c c':Nat} {l l':List Int} (h:IntsAt w S A l) (h':IntsAt w S' A' l') (hl:l.length≤1000000000) (hl':l'.length≤1000000000) :
 Calls Tryd.prog 38 #[.slice A l.length c,.slice A' l'.length c'] w (RetB w (decide (l=l'))):=by
 obtain ⟨n,hn⟩:∃ n,l.length=n:=⟨_,rfl⟩
 obtain ⟨n',hn'⟩:∃ n,l'.length=n:=⟨_,rfl⟩
 rw [hn] at hl
 rw [hn'] at hl'
 rw [hn,hn']
 obtain ⟨bb,hbb⟩:∃ b,decide (l=l')=b:=⟨_,rfl⟩
 have HBB:=Lib.hid hbb
 rw [hbb]
 clear hbb
 by_cases he:n=n'
 ·subst he
  have HN:=Lib.hid (And.intro hn hn')
  have HH:=Lib.hid (And.intro h h')
  have hget:∀ (S:Nat→Prop) (A:Option Addr) (l:List Int),IntsAt w S A l→0<l.length→∃ g off,A=some ⟨g,off,none⟩∧g<w.heap.size∧∀ (i:Nat) (z:Int),l[i]? = some z→w.cell? ⟨g,off+i,none⟩=some (.int .i64 z):=fun S A l h h0=>by
   rcases h with h | ⟨g,off,e,_,hg,hc⟩
   ·rw [h] at h0;cases h0
   ·exact ⟨g,off,e,hg,hc⟩
  have HG:=Lib.hid hget
  clear hn hn' h h' hl' hget
  go_enter Tryd.func38,Tryd.ntmps38
  go_wp2_with fail
  go_loopw [5] (fun s wr=>∃ i:Nat,i≤n∧s=.int .i64 (i:Int)∧l.take i=l'.take i∧Below w.heap.size w wr) (fun s _=>n - (intOf s).toNat)
  case atStart=>exact ⟨0,by omega,rfl,by simp,Below.refl _ _⟩
  case round=>
   obtain ⟨i,hi,rfl,htk,hbw⟩:=hrel
   rcases Nat.lt_or_eq_of_le hi with hlt | heq
   ·have i0:(0:Int)≤(i:Int):=by omega
    have i1:(i:Int)<(n:Int):=by omega
    obtain ⟨hn,hn'⟩:=HN.out
    obtain ⟨g,off,rfl,hgl,hg⟩:=HG.out _ _ _ HH.out.1 (by omega)
    obtain ⟨g',off',rfl,hgl',hg'⟩:=HG.out _ _ _ HH.out.2 (by omega)
    obtain ⟨a,ha⟩:∃ a,l[i]? = some a:=⟨_,List.getElem?_eq_getElem (by omega)⟩
    obtain ⟨b,hb⟩:∃ b,l'[i]? = some b:=⟨_,List.getElem?_eq_getElem (by omega)⟩
    have x1:=(World.cell?_of_block (a:=⟨g,off+i,none⟩) (hbw.block g hgl)).trans (hg i a ha)
    have x2:=(World.cell?_of_block (a:=⟨g',off'+i,none⟩) (hbw.block g' hgl')).trans (hg' i b hb)
    have HT:=Lib.hid (And.intro (show l.take (i+1)=l.take i++[a] by rw [List.take_add_one,ha];rfl) (show l'.take (i+1)=l'.take i++[b] by rw [List.take_add_one,hb];rfl))
    have HI:=Lib.hid (And.intro ha hb)
    have HTK:=Lib.hid htk
    clear hg hg' ha hb hn hn' htk hgl hgl'
    by_cases hab:a=b
    ·subst hab
     go_wp2_with fail
     go_region
     go_wp2_with fail
     go_roundw
     case rel=>exact ⟨i+1,by omega,by go_num,by rw [HT.out.1,HT.out.2,HTK.out],Below.drew hbw⟩
     case measure=>simp [intOf];omega
    ·have hd:bb=false:=HBB.out.symm.trans (decide_eq_false fun e=>by
      subst e
      have:=HI.out.1.symm.trans HI.out.2
      injection this with this
      exact hab this)
     subst hd
     go_wp2_with fail
     go_region
     go_wp2
     go_returns
     exact ⟨rfl,Below.drew hbw⟩
   ·subst heq
    have hd:bb=true:=HBB.out.symm.trans (decide_eq_true (by
     have h1:=HN.out
     rw [List.take_of_length_le (by omega),List.take_of_length_le (by omega)] at htk
     exact htk))
    subst hd
    clear htk
    go_wp2
    go_returns
    exact ⟨rfl,hbw⟩
 ·have hd:bb=false:=HBB.out.symm.trans (decide_eq_false fun e=>he (by rw [← hn,← hn',e]))
  subst hd
  have hz:¬ (n:Int)=(n':Int):=by omega
  clear h h' hn hn'
  go_enter Tryd.func38,Tryd.ntmps38
  go_wp2
  go_returns
  exact ⟨rfl,Below.refl _ _⟩
set_option maxRecDepth 100000 in
set_option maxHeartbeats 6400000 in
theorem Same_any:∀ (n:Nat) (R R':Qy.Reg),Qy.nodes R≤n→n≤1000000→Qy.nodes R'≤1000000→∀ (v v':Value) (w:World),IsReg w R v→IsReg w R' v'→Calls Tryd.prog 23 #[v,v'] w (RetB w (Qy.sameR R R')):=by
 intro n
 induction n with
 | zero=>intro R R' h;have:=Qy.nodes_pos R;omega
 | succ n ih=>
  intro R R' hn hN hn' v v' w hv hv'
  obtain ⟨cs,rfl,hR⟩:=hv
  obtain ⟨cs',rfl,hR'⟩:=hv'
  obtain ⟨k,nm,ax,ay,b0,b1,b2,b3,kids⟩:=R
  obtain ⟨k',nm',ax',ay',d0,d1,d2,d3,kids'⟩:=R'
  rw [RegAt] at hR hR'
  obtain ⟨A,c,rfl,hK⟩:=hR
  obtain ⟨A',c',rfl,hK'⟩:=hR'
  have HIH:Hid (∀ R∈kids,∀ R'∈kids',∀ (v v':Value) (w:World),IsReg w R v→IsReg w R' v'→Calls Tryd.prog 23 #[v,v'] w (RetB w (Qy.sameR R R'))):=Lib.hid fun R hR R' hR'=>ih R R' (by have:=Qy.nodes_kid (k:=k) (nm:=nm) (ax:=ax) (ay:=ay) (b0:=b0) (b1:=b1) (b2:=b2) (b3:=b3) hR;omega) (by omega) (by have:=Qy.nodes_kid (k:=k') (nm:=nm') (ax:=ax') (ay:=ay') (b0:=d0) (b1:=d1) (b2:=d2) (b3:=d3) hR';omega)
  have hml:=Qy.len_nodesL kids
  have hml':=Qy.len_nodesL kids'
  rw [Qy.nodes] at hn hn'
  obtain ⟨E,hE⟩:∃ E,Qy.sameR (.mk k nm ax ay b0 b1 b2 b3 kids) (.mk k' nm' ax' ay' d0 d1 d2 d3 kids')=E:=⟨_,rfl⟩
  rw [hE]
  rw [Qy.sameR] at hE
  obtain ⟨m,hm⟩:∃ m,kids.length=m:=⟨_,rfl⟩
  obtain ⟨m',hm'⟩:∃ m,kids'.length=m:=⟨_,rfl⟩
  have HM:=Lib.hid (And.intro hm hm')
  rw [hm] at hml
  rw [hm'] at hml'
  rw [hm,hm'] at hE
  rw [hm,hm']
  have HE:=Lib.hid hE
  have HK:=Lib.hid (And.intro hK hK')
  have hb1:m≤1000000:=by omega
  have hb2:m'≤1000000:=by omega
  clear hm hm' ih hn hn' hN hml hml' hE hK hK'
  go_enter Tryd.func23,Tryd.ntmps23
  go_upto_region 1 with fail
  refine wp_new2 fun W0 hA hQ hB=>?_
  obtain ⟨g2,hg2⟩:∃ g2,w.heap.size+1=g2:=⟨_,rfl⟩
  rw [hg2] at hQ ⊢
  have HB:=Lib.hid hB
  obtain ⟨⟨y0,y1,y2,y3,y4,y5,y6,y7,y8⟩,_⟩:=hA.all9
  obtain ⟨⟨z0,z1,z2,z3,z4,z5,z6,z7,z8⟩,_⟩:=hQ.all9
  have HAQ:=Lib.hid (And.intro hA hQ)
  clear hA hQ hB hg2
  by_cases hv:k=k'
  rotate_left
  ·
   have HF:Hid (E=false):=Lib.hid (by rw [← HE.out];simp [hv])
   go_wp2
   go_returns
   exact ⟨by rw [HF.out];simp,HB.out⟩
  subst hv
  by_cases hv:nm=nm'
  rotate_left
  ·
   have HF:Hid (E=false):=Lib.hid (by rw [← HE.out];simp [hv])
   have hs1:((bs nm).toList==(bs nm').toList)=false:=by rw [bs_toList,bs_toList];simpa using hv
   go_wp2
   go_returns
   exact ⟨by rw [HF.out];simp,HB.out⟩
  subst hv
  have hs1:((bs nm).toList==(bs nm).toList)=true:=by simp
  by_cases hv:ax=ax'
  rotate_left
  ·
   have HF:Hid (E=false):=Lib.hid (by rw [← HE.out];simp [hv])
   go_wp2
   go_returns
   exact ⟨by rw [HF.out];simp,HB.out⟩
  subst hv
  by_cases hv:ay=ay'
  rotate_left
  ·
   have HF:Hid (E=false):=Lib.hid (by rw [← HE.out];simp [hv])
   go_wp2
   go_returns
   exact ⟨by rw [HF.out];simp,HB.out⟩
  subst hv
  by_cases hv:b0=d0
  rotate_left
  ·
   have HF:Hid (E=false):=Lib.hid (by rw [← HE.out];simp [hv])
   go_wp2
   go_returns
   exact ⟨by rw [HF.out];simp,HB.out⟩
  subst hv
  by_cases hv:b1=d1
  rotate_left
  ·
   have HF:Hid (E=false):=Lib.hid (by rw [← HE.out];simp [hv])
   go_wp2
   go_returns
   exact ⟨by rw [HF.out];simp,HB.out⟩
  subst hv
  by_cases hv:b2=d2
  rotate_left
  ·
   have HF:Hid (E=false):=Lib.hid (by rw [← HE.out];simp [hv])
   go_wp2
   go_returns
   exact ⟨by rw [HF.out];simp,HB.out⟩
  subst hv
  by_cases hv:b3=d3
  rotate_left
  ·
   have HF:Hid (E=false):=Lib.hid (by rw [← HE.out];simp [hv])
   go_wp2
   go_returns
   exact ⟨by rw [HF.out];simp,HB.out⟩
  subst hv
  by_cases hv:m=m'
  rotate_left
  ·
   have HF:Hid (E=false):=Lib.hid (by rw [← HE.out];simp [hv])
   have hv0:¬ (m:Int)=(m':Int):=by omega
   go_wp2
   go_returns
   exact ⟨by rw [HF.out];simp,HB.out⟩
  subst hv
  have HF:Hid (Qy.sameL kids kids'=E):=Lib.hid (by rw [← HE.out];simp)
  go_wp2_with fail
  clear y0 y1 y2 y3 y4 y5 y6 y7 y8 z0 z1 z2 z3 z4 z5 z6 z7 z8
  go_loopw [5] (fun s wr=>∃ i:Nat,i≤m∧s=.int .i64 (i:Int)∧Qy.sameL (kids.drop i) (kids'.drop i)=E∧Below w.heap.size w wr∧Own wr w.heap.size 42 [.int .i64 k,.string (bs nm),.int .i64 ax,.int .i64 ay,.int .i64 b0,.int .i64 b1,.int .i64 b2,.int .i64 b3,.slice A m c]∧Own wr g2 42 [.int .i64 k,.string (bs nm),.int .i64 ax,.int .i64 ay,.int .i64 b0,.int .i64 b1,.int .i64 b2,.int .i64 b3,.slice A' m c']) (fun s _=>m - (intOf s).toNat)
  case atStart=>exact ⟨0,Nat.zero_le _,rfl,HF.out,HB.out,HAQ.out.1,HAQ.out.2⟩
  case round=>
   obtain ⟨i,hi,rfl,hdr,hB,hA,hQ⟩:=hrel
   clear HB HAQ
   have HB:=Lib.hid hB
   have HA:=Lib.hid hA
   have HQ:=Lib.hid hQ
   have y8:=hA.cell 8
   have z8:=hQ.cell 8
   clear hA hQ
   rcases Nat.lt_or_eq_of_le hi with hlt | heq
   ·have i0:(0:Int)≤(i:Int):=by omega
    have i1:(i:Int)<(m:Int):=by omega
    obtain ⟨R1,hR1⟩:∃ R,kids[i]? = some R:=⟨_,List.getElem?_eq_getElem (by have:=HM.out;omega)⟩
    obtain ⟨R2,hR2⟩:∃ R,kids'[i]? = some R:=⟨_,List.getElem?_eq_getElem (by have:=HM.out;omega)⟩
    obtain ⟨ag,af,an0,as1,an2,an3,an4,an5,an6,an7,aA8,al8,ac8,rfl,_,agl,aE,aR⟩:=HK.out.1.lit hR1
    obtain ⟨bg,bf,bn0,bs1,bn2,bn3,bn4,bn5,bn6,bn7,bA8,bl8,bc8,rfl,_,bgl,bE,bR⟩:=HK.out.2.lit hR2
    obtain ⟨sb,hsb⟩:∃ sb,Qy.sameR R1 R2=sb:=⟨_,rfl⟩
    have HC:=Lib.hid (HIH.out R1 (List.mem_of_getElem? hR1) R2 (List.mem_of_getElem? hR2))
    rw [hsb] at HC
    rw [Qy.sameL_drop hR1 hR2,hsb] at hdr
    have HDr:=Lib.hid hdr
    have HEa:Hid (∀ wz,Below w.heap.size w wz→(wz.cell? ⟨ag,af+i * 9,none⟩=some (.int .i64 an0)∧wz.cell? ⟨ag,af+i * 9+1,none⟩=some (.string as1)∧wz.cell? ⟨ag,af+i * 9+2,none⟩=some (.int .i64 an2)∧wz.cell? ⟨ag,af+i * 9+3,none⟩=some (.int .i64 an3)∧wz.cell? ⟨ag,af+i * 9+4,none⟩=some (.int .i64 an4)∧wz.cell? ⟨ag,af+i * 9+5,none⟩=some (.int .i64 an5)∧wz.cell? ⟨ag,af+i * 9+6,none⟩=some (.int .i64 an6)∧wz.cell? ⟨ag,af+i * 9+7,none⟩=some (.int .i64 an7)∧wz.cell? ⟨ag,af+i * 9+8,none⟩=some (.slice aA8 al8 ac8))):=Lib.hid fun wz kz=>by
     have e:∀ o,wz.cell? ⟨ag,o,none⟩=w.cell? ⟨ag,o,none⟩:=fun o=>World.cell?_of_block (a:=⟨ag,o,none⟩) (kz.block ag agl)
     rw [e,e,e,e,e,e,e,e,e]
     exact aE
    have HRa:Hid (∀ wz,Below w.heap.size w wz→IsReg wz R1 (.agg #[.int .i64 an0,.string as1,.int .i64 an2,.int .i64 an3,.int .i64 an4,.int .i64 an5,.int .i64 an6,.int .i64 an7,.slice aA8 al8 ac8])):=Lib.hid fun wz kz=>(aR.on kz).isReg
    have HEb:Hid (∀ wz,Below w.heap.size w wz→(wz.cell? ⟨bg,bf+i * 9,none⟩=some (.int .i64 bn0)∧wz.cell? ⟨bg,bf+i * 9+1,none⟩=some (.string bs1)∧wz.cell? ⟨bg,bf+i * 9+2,none⟩=some (.int .i64 bn2)∧wz.cell? ⟨bg,bf+i * 9+3,none⟩=some (.int .i64 bn3)∧wz.cell? ⟨bg,bf+i * 9+4,none⟩=some (.int .i64 bn4)∧wz.cell? ⟨bg,bf+i * 9+5,none⟩=some (.int .i64 bn5)∧wz.cell? ⟨bg,bf+i * 9+6,none⟩=some (.int .i64 bn6)∧wz.cell? ⟨bg,bf+i * 9+7,none⟩=some (.int .i64 bn7)∧wz.cell? ⟨bg,bf+i * 9+8,none⟩=some (.slice bA8 bl8 bc8))):=Lib.hid fun wz kz=>by
     have e:∀ o,wz.cell? ⟨bg,o,none⟩=w.cell? ⟨bg,o,none⟩:=fun o=>World.cell?_of_block (a:=⟨bg,o,none⟩) (kz.block bg bgl)
     rw [e,e,e,e,e,e,e,e,e]
     exact bE
    have HRb:Hid (∀ wz,Below w.heap.size w wz→IsReg wz R2 (.agg #[.int .i64 bn0,.string bs1,.int .i64 bn2,.int .i64 bn3,.int .i64 bn4,.int .i64 bn5,.int .i64 bn6,.int .i64 bn7,.slice bA8 bl8 bc8])):=Lib.hid fun wz kz=>(bR.on kz).isReg
    clear aE aR bE bR agl bgl hR1 hR2 hsb hdr hB
    go_upto_region 6 with fail
    clear y8 z8
    cases sb
    ·
     refine wp_region_specs wr [Spec.eq (.pointer (some ⟨w.heap.size,8,none⟩)),Spec.eq (.slice (some ⟨ag,af,none⟩) m c),Spec.eq (.int .i64 (i:Int)),Spec.eq (.pointer (some ⟨ag,af+i * 9,none⟩)),Spec.eq (.agg #[.int .i64 an0,.string as1,.int .i64 an2,.int .i64 an3,.int .i64 an4,.int .i64 an5,.int .i64 an6,.int .i64 an7,.slice aA8 al8 ac8]),Spec.eq (.pointer (some ⟨g2,8,none⟩)),Spec.eq (.slice (some ⟨bg,bf,none⟩) m c'),Spec.eq (.int .i64 (i:Int)),Spec.eq (.pointer (some ⟨bg,bf+i * 9,none⟩)),Spec.eq (.agg #[.int .i64 bn0,.string bs1,.int .i64 bn2,.int .i64 bn3,.int .i64 bn4,.int .i64 bn5,.int .i64 bn6,.int .i64 bn7,.slice bA8 bl8 bc8]),Spec.eq (.bool false),Spec.eq (.bool false)]
      (by kernel_rfl) (by kernel_rfl) rfl (by kernel_rfl) (Below.drew (Below.refl _ _)) ?_ ?_
     ·
      refine RegSteps.cons ?_ ?_
      ·intro _ az wz hC hF hD _ K hK
       have q2:az.tmps[2]? = some (.pointer (some ⟨w.heap.size,0,none⟩)):=hF 2 rfl
       clear hF hD
       refine want_none rfl ?_
       go_simp
       exact hK _ _ hC (Below.refl _ _) rfl
      refine RegSteps.cons ?_ ?_
      ·intro _ az wz hC hF hD _ K hK
       obtain ⟨_,q49,rfl⟩:=dep hD 0 rfl rfl rfl rfl
       have z8:wz.cell? ⟨w.heap.size,8,none⟩=some (.slice (some ⟨ag,af,none⟩) m c):=(HA.out.on hC).cell 8
       clear hF hD
       refine want_none rfl ?_
       go_simp
       exact hK _ _ hC (Below.refl _ _) rfl
      refine RegSteps.cons ?_ ?_
      ·intro _ az wz hC hF hD _ K hK
       have q5:az.tmps[5]? = some (.int .i64 (i:Int)):=hF 5 rfl
       clear hF hD
       refine want_none rfl ?_
       go_simp
       exact hK _ _ hC (Below.refl _ _) rfl
      refine RegSteps.cons ?_ ?_
      ·intro _ az wz hC hF hD _ K hK
       obtain ⟨_,q50,rfl⟩:=dep hD 1 rfl rfl rfl rfl
       obtain ⟨_,q51,rfl⟩:=dep hD 2 rfl rfl rfl rfl
       clear hF hD
       refine want_none rfl ?_
       go_simp
       exact hK _ _ hC (Below.refl _ _) rfl
      refine RegSteps.cons ?_ ?_
      ·intro _ az wz hC hF hD _ K hK
       obtain ⟨_,q52,rfl⟩:=dep hD 3 rfl rfl rfl rfl
       obtain ⟨e0,e1,e2,e3,e4,e5,e6,e7,e8⟩:=HEa.out wz (Below.call HB.out hC)
       clear hF hD
       refine want_none rfl ?_
       go_simp
       exact hK _ _ hC (Below.refl _ _) rfl
      refine RegSteps.cons ?_ ?_
      ·intro _ az wz hC hF hD _ K hK
       have q3:az.tmps[3]? = some (.pointer (some ⟨g2,0,none⟩)):=hF 3 rfl
       clear hF hD
       refine want_none rfl ?_
       go_simp
       exact hK _ _ hC (Below.refl _ _) rfl
      refine RegSteps.cons ?_ ?_
      ·intro _ az wz hC hF hD _ K hK
       obtain ⟨_,q54,rfl⟩:=dep hD 5 rfl rfl rfl rfl
       have z8:wz.cell? ⟨g2,8,none⟩=some (.slice (some ⟨bg,bf,none⟩) m c'):=(HQ.out.on hC).cell 8
       clear hF hD
       refine want_none rfl ?_
       go_simp
       exact hK _ _ hC (Below.refl _ _) rfl
      refine RegSteps.cons ?_ ?_
      ·intro _ az wz hC hF hD _ K hK
       have q5:az.tmps[5]? = some (.int .i64 (i:Int)):=hF 5 rfl
       clear hF hD
       refine want_none rfl ?_
       go_simp
       exact hK _ _ hC (Below.refl _ _) rfl
      refine RegSteps.cons ?_ ?_
      ·intro _ az wz hC hF hD _ K hK
       obtain ⟨_,q55,rfl⟩:=dep hD 6 rfl rfl rfl rfl
       obtain ⟨_,q56,rfl⟩:=dep hD 7 rfl rfl rfl rfl
       clear hF hD
       refine want_none rfl ?_
       go_simp
       exact hK _ _ hC (Below.refl _ _) rfl
      refine RegSteps.cons ?_ ?_
      ·intro _ az wz hC hF hD _ K hK
       obtain ⟨_,q57,rfl⟩:=dep hD 8 rfl rfl rfl rfl
       obtain ⟨e0,e1,e2,e3,e4,e5,e6,e7,e8⟩:=HEb.out wz (Below.call HB.out hC)
       clear hF hD
       refine want_none rfl ?_
       go_simp
       exact hK _ _ hC (Below.refl _ _) rfl
      refine RegSteps.cons ?_ ?_
      ·intro _ az wz hC hF hD _ K hK
       obtain ⟨_,q53,rfl⟩:=dep hD 4 rfl rfl rfl rfl
       obtain ⟨_,q58,rfl⟩:=dep hD 9 rfl rfl rfl rfl
       clear hF hD
       refine want_none rfl ?_
       go_simp
       refine (HC.out _ _ _ (HRa.out wz (Below.call HB.out hC)) (HRb.out wz (Below.call HB.out hC))).mono ?_
       rintro e wy ⟨rfl,k⟩
       exact hK _ _ (Below.call hC k) k rfl
      refine RegSteps.cons ?_ ?_
      ·intro _ az wz hC hF hD _ K hK
       obtain ⟨_,q59,rfl⟩:=dep hD 10 rfl rfl rfl rfl
       clear hF hD
       refine want_none rfl ?_
       go_simp
       exact hK _ _ hC (Below.refl _ _) rfl
      exact RegSteps.nil
     intro w7 hC7
     rintro _ rfl _ rfl _ rfl _ rfl _ rfl _ rfl _ rfl _ rfl _ rfl _ rfl _ rfl _ rfl
     simp only [FinOK,Act.put,List.setIfInBounds_toArray,List.set_cons_zero,List.set_cons_succ]
     have HF2:Hid (E=false):=Lib.hid (by rw [← HDr.out];rfl)
     have HB2:=Lib.hid (Below.call HB.out hC7)
     clear hC7
     go_wp2
     go_returns
     exact ⟨by rw [HF2.out];simp,HB2.out⟩
    ·
     refine wp_region_specs wr [Spec.eq (.pointer (some ⟨w.heap.size,8,none⟩)),Spec.eq (.slice (some ⟨ag,af,none⟩) m c),Spec.eq (.int .i64 (i:Int)),Spec.eq (.pointer (some ⟨ag,af+i * 9,none⟩)),Spec.eq (.agg #[.int .i64 an0,.string as1,.int .i64 an2,.int .i64 an3,.int .i64 an4,.int .i64 an5,.int .i64 an6,.int .i64 an7,.slice aA8 al8 ac8]),Spec.eq (.pointer (some ⟨g2,8,none⟩)),Spec.eq (.slice (some ⟨bg,bf,none⟩) m c'),Spec.eq (.int .i64 (i:Int)),Spec.eq (.pointer (some ⟨bg,bf+i * 9,none⟩)),Spec.eq (.agg #[.int .i64 bn0,.string bs1,.int .i64 bn2,.int .i64 bn3,.int .i64 bn4,.int .i64 bn5,.int .i64 bn6,.int .i64 bn7,.slice bA8 bl8 bc8]),Spec.eq (.bool true),Spec.eq (.bool true)]
      (by kernel_rfl) (by kernel_rfl) rfl (by kernel_rfl) (Below.drew (Below.refl _ _)) ?_ ?_
     ·
      refine RegSteps.cons ?_ ?_
      ·intro _ az wz hC hF hD _ K hK
       have q2:az.tmps[2]? = some (.pointer (some ⟨w.heap.size,0,none⟩)):=hF 2 rfl
       clear hF hD
       refine want_none rfl ?_
       go_simp
       exact hK _ _ hC (Below.refl _ _) rfl
      refine RegSteps.cons ?_ ?_
      ·intro _ az wz hC hF hD _ K hK
       obtain ⟨_,q49,rfl⟩:=dep hD 0 rfl rfl rfl rfl
       have z8:wz.cell? ⟨w.heap.size,8,none⟩=some (.slice (some ⟨ag,af,none⟩) m c):=(HA.out.on hC).cell 8
       clear hF hD
       refine want_none rfl ?_
       go_simp
       exact hK _ _ hC (Below.refl _ _) rfl
      refine RegSteps.cons ?_ ?_
      ·intro _ az wz hC hF hD _ K hK
       have q5:az.tmps[5]? = some (.int .i64 (i:Int)):=hF 5 rfl
       clear hF hD
       refine want_none rfl ?_
       go_simp
       exact hK _ _ hC (Below.refl _ _) rfl
      refine RegSteps.cons ?_ ?_
      ·intro _ az wz hC hF hD _ K hK
       obtain ⟨_,q50,rfl⟩:=dep hD 1 rfl rfl rfl rfl
       obtain ⟨_,q51,rfl⟩:=dep hD 2 rfl rfl rfl rfl
       clear hF hD
       refine want_none rfl ?_
       go_simp
       exact hK _ _ hC (Below.refl _ _) rfl
      refine RegSteps.cons ?_ ?_
      ·intro _ az wz hC hF hD _ K hK
       obtain ⟨_,q52,rfl⟩:=dep hD 3 rfl rfl rfl rfl
       obtain ⟨e0,e1,e2,e3,e4,e5,e6,e7,e8⟩:=HEa.out wz (Below.call HB.out hC)
       clear hF hD
       refine want_none rfl ?_
       go_simp
       exact hK _ _ hC (Below.refl _ _) rfl
      refine RegSteps.cons ?_ ?_
      ·intro _ az wz hC hF hD _ K hK
       have q3:az.tmps[3]? = some (.pointer (some ⟨g2,0,none⟩)):=hF 3 rfl
       clear hF hD
       refine want_none rfl ?_
       go_simp
       exact hK _ _ hC (Below.refl _ _) rfl
      refine RegSteps.cons ?_ ?_
      ·intro _ az wz hC hF hD _ K hK
       obtain ⟨_,q54,rfl⟩:=dep hD 5 rfl rfl rfl rfl
       have z8:wz.cell? ⟨g2,8,none⟩=some (.slice (some ⟨bg,bf,none⟩) m c'):=(HQ.out.on hC).cell 8
       clear hF hD
       refine want_none rfl ?_
       go_simp
       exact hK _ _ hC (Below.refl _ _) rfl
      refine RegSteps.cons ?_ ?_
      ·intro _ az wz hC hF hD _ K hK
       have q5:az.tmps[5]? = some (.int .i64 (i:Int)):=hF 5 rfl
       clear hF hD
       refine want_none rfl ?_
       go_simp
       exact hK _ _ hC (Below.refl _ _) rfl
      refine RegSteps.cons ?_ ?_
      ·intro _ az wz hC hF hD _ K hK
       obtain ⟨_,q55,rfl⟩:=dep hD 6 rfl rfl rfl rfl
       obtain ⟨_,q56,rfl⟩:=dep hD 7 rfl rfl rfl rfl
       clear hF hD
       refine want_none rfl ?_
       go_simp
       exact hK _ _ hC (Below.refl _ _) rfl
      refine RegSteps.cons ?_ ?_
      ·intro _ az wz hC hF hD _ K hK
       obtain ⟨_,q57,rfl⟩:=dep hD 8 rfl rfl rfl rfl
       obtain ⟨e0,e1,e2,e3,e4,e5,e6,e7,e8⟩:=HEb.out wz (Below.call HB.out hC)
       clear hF hD
       refine want_none rfl ?_
       go_simp
       exact hK _ _ hC (Below.refl _ _) rfl
      refine RegSteps.cons ?_ ?_
      ·intro _ az wz hC hF hD _ K hK
       obtain ⟨_,q53,rfl⟩:=dep hD 4 rfl rfl rfl rfl
       obtain ⟨_,q58,rfl⟩:=dep hD 9 rfl rfl rfl rfl
       clear hF hD
       refine want_none rfl ?_
       go_simp
       refine (HC.out _ _ _ (HRa.out wz (Below.call HB.out hC)) (HRb.out wz (Below.call HB.out hC))).mono ?_
       rintro e wy ⟨rfl,k⟩
       exact hK _ _ (Below.call hC k) k rfl
      refine RegSteps.cons ?_ ?_
      ·intro _ az wz hC hF hD _ K hK
       obtain ⟨_,q59,rfl⟩:=dep hD 10 rfl rfl rfl rfl
       clear hF hD
       refine want_none rfl ?_
       go_simp
       exact hK _ _ hC (Below.refl _ _) rfl
      exact RegSteps.nil
     intro w7 hC7
     rintro _ rfl _ rfl _ rfl _ rfl _ rfl _ rfl _ rfl _ rfl _ rfl _ rfl _ rfl _ rfl
     simp only [FinOK,Act.put,List.setIfInBounds_toArray,List.set_cons_zero,List.set_cons_succ]
     have HF2:Hid (Qy.sameL (kids.drop (i+1)) (kids'.drop (i+1))=E):=Lib.hid (by rw [← HDr.out];simp)
     have HS:=Lib.hid (And.intro (Below.call HB.out hC7) (And.intro (HA.out.on hC7) (HQ.out.on hC7)))
     clear hC7
     go_wp2_with fail
     go_roundw
     case rel=>exact ⟨i+1,by omega,by go_num,HF2.out,HS.out.1,HS.out.2.1,HS.out.2.2⟩
     case measure=>simp [intOf];omega
   ·subst heq
    have HF2:Hid (E=true):=Lib.hid (by
     rw [← hdr,List.drop_of_length_le (by have:=HM.out;omega)]
     rw [Qy.sameL])
    clear hdr hB
    go_wp2
    go_returns
    exact ⟨by rw [HF2.out];simp,HB.out⟩
end Go.Proofs.YtmlpibdincfgbaaDoor
namespace Go.Proofs.YtmlpibdincfgbaaDoor
open Go.RowKit
set_option linter.unusedSimpArgs false
set_option linter.unusedVariables false
def exQ:Qy.Qry:=⟨3,Qy.kidsR 4 [.mk 1 [97,97] 0 0 0 0 0 0 [],Qy.kidsR 6 [.mk 2 [] 5 (-7) 0 0 0 0 []]],1,[2,1],100,0⟩
theorem ex_cells {w u:World} {v:Value} (h:qryV u exQ v w):∃ (g off g' off' c c':Nat) (vA:Option Addr) (vc:Nat),
 v=.agg #[.int .i64 3,.int .i64 4,.string (bs []),.int .i64 0,.int .i64 0,.int .i64 0,.int .i64 0,.int .i64 0,.int .i64 0,.slice (some ⟨g,off,none⟩) 2 c,.int .i64 1,.slice vA 2 vc,.int .i64 100,.int .i64 0]∧g<w.heap.size∧g'<w.heap.size∧
 w.cell? ⟨g,off+1,none⟩=some (.string (bs [97,97]))∧w.cell? ⟨g,off+17,none⟩=some (.slice (some ⟨g',off',none⟩) 1 c')∧w.cell? ⟨g',off'+2,none⟩=some (.int .i64 5)∧w.cell? ⟨g',off'+3,none⟩=some (.int .i64 (-7))∧IntsAt w (fun _=>True) vA [2,1]:=by
 obtain ⟨cs,vA,vc,rfl,h9,hR,hI,h1,h2⟩:=h
 unfold exQ at hR hI
 simp only at hR hI
 obtain ⟨A,c,rfl,hK⟩:=hR.cells
 unfold Qy.kidsR Qy.Reg.kids at hK
 simp only at hK
 obtain ⟨g,off,cs0,rfl,_,hg,e0,r0⟩:=hK.get (i:=0) rfl
 obtain ⟨g2,off2,cs1,hA,_,_,e1,r1⟩:=hK.get (i:=1) rfl
 cases hA
 obtain ⟨A0,c0,rfl,_⟩:=r0.cells
 obtain ⟨A1,c1,rfl,hK1⟩:=r1.cells
 unfold Qy.Reg.kids at hK1
 simp only at hK1
 obtain ⟨g',off',cs2,rfl,_,hg',e2,r2⟩:=hK1.get (i:=0) rfl
 obtain ⟨A2,c2,rfl,_⟩:=r2.cells
 refine ⟨g,off,g',off',c,c1,vA,vc,rfl,hg,hg',?_,?_,?_,?_,hI.keep (Nat.le_refl _) fun _ _ _=>⟨trivial,rfl⟩⟩
 ·exact e0 1 _ rfl
 ·exact e1 8 _ rfl
 ·exact e2 2 _ rfl
 ·exact e2 3 _ rfl
set_option maxRecDepth 100000 in
set_option maxHeartbeats 3200000 in
theorem lives_any (w:World):Calls Tryd.prog 13 #[] w (RetB w true):=by
 have HP1:Hid (∀ u,Calls Tryd.prog 9 #[.string ⟨#[99,111,117,110,116,32,51,32,111,102,32,110,97,109,101,100,32,97,97,32,97,110,100,32,110,111,116,32,97,116,32,53,44,45,55,32,105,110,32,99,111,97,108,105,116,105,111,110,32,50,44,49,32,111,110,32,49,48,48,32,97,116,32,48]⟩] u fun e w'=>∃ v,e=.returned (.tuple #[v,.int .i64 0,.int .i64 0])∧qryV u exQ v w'∧Below u.heap.size u w'):=Lib.hid fun u=>by
  have h:=qParse Qy.text1 u (by decide)
  rw [Qy.read1] at h
  exact h.mono fun e w' ⟨v,h1,h2,h3⟩=>⟨v,h1,h2,h3⟩
 have HP2:Hid (∀ u,Calls Tryd.prog 9 #[.string ⟨#[99,111,117,110,116,32,51,32,111,102,32,97,97]⟩] u fun e w'=>∃ v,e=.returned (.tuple #[v,.int .i64 11,.int .i64 2])∧qryV u Qy.Qry.none v w'∧Below u.heap.size u w'):=Lib.hid fun u=>by
  have h:=qParse Qy.text2 u (by decide)
  rw [Qy.read2] at h
  exact h.mono fun e w' ⟨v,h1,h2,h3⟩=>⟨v,h1,h2,h3⟩
 have HSI:Hid (∀ (A B:Option Addr) (c d:Nat) u,IntsAt u (fun _=>True) A [2,1]→IntsAt u (fun _=>True) B [2,1]→Calls Tryd.prog 38 #[.slice A 2 c,.slice B 2 d] u (RetB u true)):=Lib.hid fun A B c d u h1 h2=>by
  have h:=SameInts_any (c:=c) (c':=d) h1 h2 (by simp) (by simp)
  rw [decide_eq_true rfl] at h
  exact h
 go_enter Tryd.func13,Tryd.ntmps13
 go_wp2_with fail
 refine (HP1.out _).mono ?_
 rintro e w1 ⟨v,rfl,hq,hb1⟩
 obtain ⟨g,off,g',off',c,c',vA,vc,rfl,hg,hg',x1,x2,x3,x4,hI⟩:=ex_cells hq
 clear hq
 go_upto_region 2 with fail
 refine wp_new1 fun W1 hQ kn=>?_
 have hb:=Below.call hb1 kn
 have HX:=Lib.hid (And.intro hg (And.intro hg' (And.intro x1 (And.intro x2 (And.intro x3 x4)))))
 have HI:=Lib.hid hI
 have HKn:=Lib.hid kn
 clear x1 x2 x3 x4 hg hg' hI hb1 kn
 go_wp2_with fail
 refine (HP2.out _).mono ?_
 rintro e w2 ⟨v,rfl,hq,hb2⟩
 obtain ⟨n0,s1,n2,n3,n4,n5,n6,n7,A8,l8,c8,wA,wl,wc,rfl,_⟩:=hq.lit
 clear hq
 go_upto_region 3 with fail
 refine wp_new1 fun W2 hQ2 kn=>?_
 have hk:=Below.call hb2 kn
 have hk1:=Below.call HKn.out hk
 have hB:=Below.call hb hk
 have hQ3:=hQ.on hk
 obtain ⟨⟨y0,y1,y2,y3,y4,y5,y6,y7,y8,y9,y10,y11,y12,y13⟩,_⟩:=hQ3.all14
 have ce:∀ k,k<w1.heap.size→∀ o,W2.cell? ⟨k,o,none⟩=w1.cell? ⟨k,o,none⟩:=fun k hk o=>World.cell?_of_block (a:=⟨k,o,none⟩) (hk1.block k hk)
 have x1:W2.cell? ⟨g,off+1,none⟩=some (.string ⟨#[97,97]⟩):=(ce g HX.out.1 _).trans HX.out.2.2.1
 have x2:=(ce g HX.out.1 _).trans HX.out.2.2.2.1
 have x3:=(ce g' HX.out.2.1 _).trans HX.out.2.2.2.2.1
 have x4:=(ce g' HX.out.2.1 _).trans HX.out.2.2.2.2.2
 have x2':W2.cell? ⟨g,off+9+8,none⟩=some (.slice (some ⟨g',off',none⟩) 1 c'):=x2
 have HI2:=Lib.hid (HI.out.on hk1)
 have HB:=Lib.hid hB
 clear hb hb2 kn hk hk1 hB hQ hQ2 hQ3 ce HX HI
 have kn3:=below_new W2 (.cells #[.int .i64 2,.int .i64 1] 3)
 have hI3:IntsAt (W2.alloc (.cells #[.int .i64 2,.int .i64 1] 3)) (fun _=>True) (some ⟨W2.heap.size,0,none⟩) [2,1]:=.inr ⟨W2.heap.size,0,rfl,trivial,(Own.new W2 3 [.int .i64 2,.int .i64 1]).lt,fun i z hz=>by
  rw [Nat.zero_add]
  match i,hz with
  | 0,hz=>simp only [List.getElem?_cons_zero,Option.some.injEq] at hz;subst hz;exact (Own.new W2 3 [.int .i64 2,.int .i64 1]).cell 0
  | 1,hz=>simp only [List.getElem?_cons_succ,List.getElem?_cons_zero,Option.some.injEq] at hz;subst hz;exact (Own.new W2 3 [.int .i64 2,.int .i64 1]).cell 1
  | i+2,hz=>simp at hz⟩
 have HI3:=Lib.hid (And.intro (HI2.out.on kn3) (And.intro hI3 (Below.call HB.out kn3)))
 clear kn3 hI3
 go_wp2_with fail
 refine (HSI.out _ _ _ _ _ HI3.out.1 HI3.out.2.1).mono ?_
 rintro e w5 ⟨rfl,k5⟩
 have HF:=Lib.hid (Below.call HI3.out.2.2 k5)
 clear k5 x1 x2 x2' x3 x4 y0 y1 y2 y3 y4 y5 y6 y7 y8 y9 y10 y11 y12 y13
 go_wp2
 go_returns
 exact ⟨by simp,HF.out⟩
end Go.Proofs.YtmlpibdincfgbaaDoor
namespace Go.Proofs.YtmlpibdincfgbaaDoor
open Go.RowKit
set_option linter.unusedSimpArgs false
set_option linter.unusedVariables false
def Mk (r:Nat) (l:List Int) (x:Nat) (w:World):Prop:=
 r<w.heap.size∧∃ A c,Own w r 103 [.slice A l.length c,.int .i64 (x:Int)]∧Sl w r A (l.map i64)∧(∀ z∈l,-9223372036854775808≤z∧z≤9223372036854775807)∧l.length≤c∧c≤maxLen
theorem Sl.keep_ {w w':World} {B B':Nat} {A:Option Addr} {xs:List Value} (h:Sl w B A xs) (hB:B≤B') (hk:∀ g,g<B→w'.heap[g]? = w.heap[g]?):Sl w' B' A xs:=fun hx=>by
 obtain ⟨g,off,e,hg,hc⟩:=h hx
 exact ⟨g,off,e,Nat.lt_of_lt_of_le hg hB,fun i x hi=>(World.cell?_of_block (a:=⟨g,off+i,none⟩) (hk g hg)).trans (hc i x hi)⟩
theorem below_at1' {a w w':World} {g:Nat} (h:Below a.heap.size a w) (k:At1 g w w') (hg:a.heap.size≤g):Below a.heap.size a w':=Below.grown h k h.size fun j hj=>by cases hj;exact hg
section
variable {r g x:Nat} {l:List Int} {w w':World}
theorem Mk.put (h:Mk r l x w) (k:At1 g w w') (hg:r<g):Mk r l x w':=by
 obtain ⟨h1,A,c,hO,hS,h2⟩:=h
 exact ⟨Nat.lt_of_lt_of_le h1 k.size,A,c,hO.at1 k (Nat.ne_of_lt hg),hS.keep_ (Nat.le_refl _) fun j hj=>k.heap (Nat.lt_trans hj h1) (by omega),h2⟩
theorem Mk.on (h:Mk r l x w) (k:Below w.heap.size w w'):Mk r l x w':=by
 obtain ⟨h1,A,c,hO,hS,h2⟩:=h
 exact ⟨Nat.lt_of_lt_of_le h1 k.size,A,c,hO.on k,hS.keep_ (Nat.le_refl _) fun j hj=>k.block j (Nat.lt_trans hj h1),h2⟩
theorem Mk.row {v:Value} (h:Mk r l x w) (k:w.grownBy w' v.ownBlock) (hv:∀ g,v.ownBlock=some g→r<g):Mk r l x w':=by
 obtain ⟨h1,A,c,hO,hS,h2⟩:=h
 exact ⟨Nat.lt_of_lt_of_le h1 k.size,A,c,hO.grown k (fun e=>by have:=hv _ e.symm;omega),hS.keep_ (Nat.le_refl _) fun j hj=>k.block j (Nat.lt_trans hj h1) (fun e=>by have:=hv _ e.symm;omega),h2⟩
theorem Mk.lt (h:Mk r l x w):r<w.heap.size:=h.1
end
set_option maxRecDepth 100000 in
set_option maxHeartbeats 1600000 in
theorem next_any (r x:Nat) (l:List Int) (n:Int) (w:World) (h:Mk r l x w) (hx:x≤1000000) (n0:0<n) (n1:n≤9223372036854775807) :
 Calls Tryd.prog 67 #[.pointer (some ⟨r,0,none⟩),.int .i64 n] w fun e w'=>e=.returned (.int .i64 (pick l x n))∧At1 r w w'∧Mk r l (x+1) w':=by
 obtain ⟨h1,A,c,hO,hS,hR,hc,hm⟩:=h
 obtain ⟨pk,hpk⟩:∃ pk,pick l x n=pk:=⟨_,rfl⟩
 have HK:=Lib.hid (And.intro hR (And.intro hc hm))
 have HP0:=Lib.hid fun (u:World) (k:IntsIs u A l c)=>Pick_any k x n n0 n1
 rw [hpk] at HP0
 rw [hpk]
 obtain ⟨L,hL⟩:∃ L,l.length=L:=⟨_,rfl⟩
 have HL:=Lib.hid hL
 rw [hL] at hO
 rw [hL] at HP0
 have z0:w.cell? ⟨r,0,none⟩=some (.slice A L c):=hO.cell 0
 have z1:w.cell? ⟨r,1,none⟩=some (.int .i64 (x:Int)):=hO.cell 1
 have f1:=hO.frozen 1
 have hk:=At1.set_ (r:=r) w (p:=⟨r,1,none⟩) rfl (.int .i64 ((x:Int)+1))
 have hO1:=hO.set_ 1 (.int .i64 ((x:Int)+1))
 have hS1:Sl (w.setCell ⟨r,1,none⟩ (.int .i64 ((x:Int)+1))) r A (l.map i64):=hS.keep_ (Nat.le_refl _) fun j hj=>hk.heap (Nat.lt_trans hj h1) (by omega)
 have HS:=Lib.hid (And.intro hk (And.intro hO1 hS1))
 clear hO hS hpk hL hR hc hm hk hO1 hS1
 go_enter Tryd.func67,Tryd.ntmps67
 go_upto_region 2 with fail
 clear z0 z1 f1
 obtain ⟨hk,hO1,hS1⟩:=HS.out
 clear HS
 revert hk hO1 hS1
 generalize World.setCell _ _ _=W1
 intro hk hO1 hS1
 have HO:=Lib.hid (show Own W1 r 103 [.slice A L c,.int .i64 ((x:Int)+1)] from hO1)
 have HS2:=Lib.hid (And.intro hk hS1)
 have HP:Hid (∀ wz,Below W1.heap.size W1 wz→Calls Tryd.prog 41 #[.slice A L c,.int .i64 (x:Int),.int .i64 n] wz (RetInt wz pk)):=Lib.hid fun wz kz=>
  HP0.out wz ⟨HS2.out.2.keep_ (Nat.le_of_lt (Nat.lt_of_lt_of_le h1 (Nat.le_trans HS2.out.1.size kz.size))) fun j hj=>kz.block j (Nat.lt_of_lt_of_le (Nat.lt_trans hj h1) HS2.out.1.size),HK.out.1,HK.out.2.1,HK.out.2.2⟩
 clear hk hO1 hS1 HP0
 refine wp_region_specs W1 [Spec.eq (.pointer (some ⟨r,0,none⟩)),Spec.eq (.pointer (some ⟨r,0,none⟩)),Spec.eq (.pointer (some ⟨r,0,none⟩)),Spec.eq (.slice A L c),Spec.eq (.pointer (some ⟨r,0,none⟩)),Spec.eq (.pointer (some ⟨r,0,none⟩)),Spec.eq (.pointer (some ⟨r,1,none⟩)),Spec.eq (.int .i64 ((x:Int)+1)),Spec.eq (.int .i64 (x:Int)),Spec.eq (.int .i64 n),Spec.eq (.int .i64 pk),Spec.eq (.int .i64 pk)]
  (by kernel_rfl) (by kernel_rfl) rfl (by kernel_rfl) (Below.drew (Below.refl _ _)) ?_ ?_
 ·
  refine RegSteps.cons ?_ ?_
  ·intro _ az wz hC hF hD _ K hK
   have q0:az.tmps[0]? = some (.pointer (some ⟨r,0,none⟩)):=hF 0 rfl
   clear hF hD
   refine want_none rfl ?_
   go_simp
   exact hK _ _ hC (Below.refl _ _) rfl
  refine RegSteps.cons ?_ ?_
  ·intro _ az wz hC hF hD _ K hK
   obtain ⟨_,q12,rfl⟩:=dep hD 0 rfl rfl rfl rfl
   clear hF hD
   refine want_none rfl ?_
   go_simp
   exact hK _ _ hC (Below.refl _ _) rfl
  refine RegSteps.cons ?_ ?_
  ·intro _ az wz hC hF hD _ K hK
   obtain ⟨_,q13,rfl⟩:=dep hD 1 rfl rfl rfl rfl
   clear hF hD
   refine want_none rfl ?_
   go_simp
   exact hK _ _ hC (Below.refl _ _) rfl
  refine RegSteps.cons ?_ ?_
  ·intro _ az wz hC hF hD _ K hK
   obtain ⟨_,q14,rfl⟩:=dep hD 2 rfl rfl rfl rfl
   have z0:wz.cell? ⟨r,0,none⟩=some (.slice A L c):=(HO.out.on hC).cell 0
   clear hF hD
   refine want_none rfl ?_
   go_simp
   exact hK _ _ hC (Below.refl _ _) rfl
  refine RegSteps.cons ?_ ?_
  ·intro _ az wz hC hF hD _ K hK
   have q0:az.tmps[0]? = some (.pointer (some ⟨r,0,none⟩)):=hF 0 rfl
   clear hF hD
   refine want_none rfl ?_
   go_simp
   exact hK _ _ hC (Below.refl _ _) rfl
  refine RegSteps.cons ?_ ?_
  ·intro _ az wz hC hF hD _ K hK
   obtain ⟨_,q16,rfl⟩:=dep hD 4 rfl rfl rfl rfl
   clear hF hD
   refine want_none rfl ?_
   go_simp
   exact hK _ _ hC (Below.refl _ _) rfl
  refine RegSteps.cons ?_ ?_
  ·intro _ az wz hC hF hD _ K hK
   obtain ⟨_,q17,rfl⟩:=dep hD 5 rfl rfl rfl rfl
   clear hF hD
   refine want_none rfl ?_
   go_simp
   exact hK _ _ hC (Below.refl _ _) rfl
  refine RegSteps.cons ?_ ?_
  ·intro _ az wz hC hF hD _ K hK
   obtain ⟨_,q18,rfl⟩:=dep hD 6 rfl rfl rfl rfl
   have z1:wz.cell? ⟨r,1,none⟩=some (.int .i64 ((x:Int)+1)):=(HO.out.on hC).cell 1
   clear hF hD
   refine want_none rfl ?_
   go_simp
   exact hK _ _ hC (Below.refl _ _) rfl
  refine RegSteps.cons ?_ ?_
  ·intro _ az wz hC hF hD _ K hK
   obtain ⟨_,q19,rfl⟩:=dep hD 7 rfl rfl rfl rfl
   clear hF hD
   refine want_none rfl ?_
   go_simp
   try go_ints
   exact hK _ _ hC (Below.refl _ _) rfl
  refine RegSteps.cons ?_ ?_
  ·intro _ az wz hC hF hD _ K hK
   have q1:az.tmps[1]? = some (.int .i64 n):=hF 1 rfl
   clear hF hD
   refine want_none rfl ?_
   go_simp
   exact hK _ _ hC (Below.refl _ _) rfl
  refine RegSteps.cons ?_ ?_
  ·intro _ az wz hC hF hD _ K hK
   obtain ⟨_,q15,rfl⟩:=dep hD 3 rfl rfl rfl rfl
   obtain ⟨_,q20,rfl⟩:=dep hD 8 rfl rfl rfl rfl
   obtain ⟨_,q21,rfl⟩:=dep hD 9 rfl rfl rfl rfl
   clear hF hD
   refine want_none rfl ?_
   go_simp
   refine (HP.out wz hC).mono ?_
   rintro e wy ⟨rfl,k⟩
   exact hK _ _ (Below.call hC k) k rfl
  refine RegSteps.cons ?_ ?_
  ·intro _ az wz hC hF hD _ K hK
   obtain ⟨_,q22,rfl⟩:=dep hD 10 rfl rfl rfl rfl
   clear hF hD
   refine want_none rfl ?_
   go_simp
   exact hK _ _ hC (Below.refl _ _) rfl
  exact RegSteps.nil
 intro w2 hC2
 rintro _ rfl _ rfl _ rfl _ rfl _ rfl _ rfl _ rfl _ rfl _ rfl _ rfl _ rfl _ rfl
 simp only [FinOK,Act.put,List.setIfInBounds_toArray,List.set_cons_zero,List.set_cons_succ]
 have HF:=Lib.hid (And.intro (HS2.out.1.trans (At1.of_below hC2)) (And.intro (HO.out.on hC2) (HS2.out.2.keep_ (Nat.le_refl _) fun j hj=>hC2.block j (Nat.lt_of_lt_of_le (Nat.lt_trans hj h1) HS2.out.1.size))))
 clear hC2
 go_wp2
 go_returns
 refine ⟨by simp,HF.out.1,Nat.lt_of_lt_of_le h1 HF.out.1.size,A,c,?_,HF.out.2.2,HK.out⟩
 have h9:=HF.out.2.1
 rw [← HL.out] at h9
 rw [show ((x+1:Nat):Int)=(x:Int)+1 by omega]
 exact h9
set_option maxRecDepth 100000 in
set_option maxHeartbeats 1600000 in
theorem Grid_any (n:Int) (hn:0≤n∧n≤9223372036854775807) (w:World):Calls Tryd.prog 68 #[.int .i64 n] w fun e w'=>∃ a b:Int,e=.returned (.agg #[.int .i64 a,.int .i64 b])∧Below w.heap.size w w'∧(0≤a∧a≤32)∧(0≤b∧b≤32):=by
 obtain ⟨k,hk⟩:∃ k,around n 1048576=k:=⟨_,rfl⟩
 have hb:=around_bd n (m:=1048576) (by omega)
 have HA:=Lib.hid fun u=>Around_any n 1048576 u (by omega) (by omega) (by omega) (by omega)
 rw [hk] at HA hb
 clear hk
 go_enter Tryd.func68,Tryd.ntmps68
 go_upto_region 1 with fail
 refine wp_new1 fun W0 hO hB=>?_
 go_wp2_with fail
 refine (HA.out _).mono ?_
 rintro e w1 ⟨rfl,k1⟩
 have hO1:=hO.on k1
 have HB:=Lib.hid (Below.call hB k1)
 clear hO hB k1
 have z0:=hO1.c0
 have z1:=hO1.c1
 have f0:=hO1.frozen 0
 have f1:=hO1.frozen 1
 have HO:=Lib.hid hO1
 clear hO1
 by_cases h:k % 3=0
 ·go_wp2_with fail
  obtain ⟨hO,hk⟩:=HO.out.put2' (x0:=.int .i64 (8 * (k / 3 % 5))) (x1:=.int .i64 (8 * (k / 15 % 5)))
  clear z0 z1 f0 f1
  revert hO hk
  generalize ((World.setCell _ _ _).setCell _ _)=W9
  intro hO hk
  have q0:=hO.c0
  have q1:=hO.c1
  refine bodyPost_ret (v:=.agg #[.int .i64 (8 * (k / 3 % 5)),.int .i64 (8 * (k / 15 % 5))]) (by simp [results,Tryd.results68,go_sem,q0,q1]) rfl ?_
  exact ⟨_,_,rfl,below_at1' HB.out hk (Nat.le_refl _),by omega,by omega⟩
 ·go_wp2_with fail
  obtain ⟨hO,hk⟩:=HO.out.put2' (x0:=.int .i64 (k / 3 % 33)) (x1:=.int .i64 (k / 99 % 33))
  clear z0 z1 f0 f1
  revert hO hk
  generalize ((World.setCell _ _ _).setCell _ _)=W9
  intro hO hk
  have q0:=hO.c0
  have q1:=hO.c1
  refine bodyPost_ret (v:=.agg #[.int .i64 (k / 3 % 33),.int .i64 (k / 99 % 33)]) (by simp [results,Tryd.results68,go_sem,q0,q1]) rfl ?_
  exact ⟨_,_,rfl,below_at1' HB.out hk (Nat.le_refl _),by omega,by omega⟩
end Go.Proofs.YtmlpibdincfgbaaDoor
namespace Go.Proofs.YtmlpibdincfgbaaDoor
open Go.RowKit
set_option linter.unusedSimpArgs false
set_option linter.unusedVariables false
def MadeV (r:Nat) (l:List Int) (d x:Nat) (w:World) (e:Ending) (w':World):Prop:=∃ (R:Qy.Reg) (y:Nat) (v:Value),e=.returned v∧regV w R v w'∧At1 r w w'∧Mk r l y w'∧Qy.MadeP d x R y
theorem nextP (r x:Nat) (l:List Int) (n:Int) (w:World) (h:Mk r l x w) (hx:x≤1000000) (n0:0<n) (n1:n≤9223372036854775807) :
 Calls Tryd.prog 67 #[.pointer (some ⟨r,0,none⟩),.int .i64 n] w fun e w'=>∃ p:Nat,(p:Int)<n∧e=.returned (.int .i64 (p:Int))∧At1 r w w'∧Mk r l (x+1) w':=
 (next_any r x l n w h hx n0 n1).mono fun e w' ⟨h1,h2,h3⟩=>by
  have hb:=pick_bd l x n0
  refine ⟨(pick l x n).toNat,by omega,?_,h2,h3⟩
  rw [h1,Int.toNat_of_nonneg hb.1]
structure JM (r g4 g6:Nat) (l:List Int) (y:Nat) (c4 c6:List Value) (N:Nat→Prop) (w wi:World) (v:Value) (acc:List Qy.Reg) (D:Nat→Prop) (wz:World):Prop where
 at1:At1 r w wz
 sz:wi.heap.size≤wz.heap.size
 o4:Own wz g4 42 c4
 o6:Own wz g6 42 c6
 row:¬ D 7→KRow 42 N wz v acc
 ms:¬ D 5→Mk r l y wz
def GM (r:Nat) (l:List Int) (d y:Nat) (R:Qy.Reg) (w:World):Prop:=∃ z,Mk r l z w∧Qy.MadeP d y R z
section
variable {r g4 g6:Nat} {l:List Int} {y d:Nat} {c4 c6:List Value} {N:Nat→Prop} {w wi w':World} {v:Value} {acc:List Qy.Reg} {D:Nat→Prop} {wz wy:World} {i:Nat} {R:Qy.Reg} {x:Value}
theorem JM.on (h:JM r g4 g6 l y c4 c6 N w wi v acc D wz) (k:Below wz.heap.size wz wy) (_:i≠7):JM r g4 g6 l y c4 c6 N w wi v acc (fun k=>D k∨k=i) wy:=
 ⟨h.at1.trans (At1.of_below k),Nat.le_trans h.sz k.size,h.o4.on k,h.o6.on k,fun hn=>(h.row fun hd=>hn (.inl hd)).on k,fun hn=>(h.ms fun hd=>hn (.inl hd)).on k⟩
theorem JM.pure (h:JM r g4 g6 l y c4 c6 N w wi v acc D wz) (h7:i≠7) (_:i≠5):JM r g4 g6 l y c4 c6 N w wi v acc (fun k=>D k∨k=i) wz:=h.on (Below.refl _ _) h7
theorem JM.call (h:JM r g4 g6 l y c4 c6 N w wi v acc D wz) (k:At1 r wz wy) (hN:¬ N r) (h4:g4≠r) (h6:g6≠r):JM r g4 g6 l y c4 c6 N w wi v acc (fun k=>D k∨k=5) wy:=
 ⟨h.at1.trans k,Nat.le_trans h.sz k.size,h.o4.at1 k h4,h.o6.at1 k h6,fun hn=>(h.row fun hd=>hn (.inl hd)).at1 k hN,fun hn=>absurd (.inr rfl) hn⟩
theorem JM.push (h:JM r g4 g6 l y c4 c6 N w wi v acc D wz) (k:wz.grownBy wy v.ownBlock) (hv:∀ g,v.ownBlock=some g→w.heap.size≤g∧g≠g4∧g≠g6∧r<g):JM r g4 g6 l y c4 c6 N w wi v acc (fun k=>D k∨k=7) wy:=
 ⟨h.at1.row k fun g e=>(hv g e).1,Nat.le_trans h.sz k.size,h.o4.grown k (fun e=>(hv _ e.symm).2.1 rfl),h.o6.grown k (fun e=>(hv _ e.symm).2.2.1 rfl),fun hn=>absurd (.inr rfl) hn,fun hn=>(h.ms fun hd=>hn (.inl hd)).row k fun g e=>(hv g e).2.2.2⟩
theorem GM.on (h:GM r l d y R w) (k:Below w.heap.size w w'):GM r l d y R w':=by
 obtain ⟨z,h1,h2⟩:=h
 exact ⟨z,h1.on k,h2⟩
theorem GM.row (h:GM r l d y R w) (k:w.grownBy w' v.ownBlock) (hv:∀ g,v.ownBlock=some g→r<g):GM r l d y R w':=by
 obtain ⟨z,h1,h2⟩:=h
 exact ⟨z,h1.row k hv,h2⟩
def sM3 (wi:World) (G:Qy.Reg→World→Prop):SpecE:=sE fun v w=>∃ cs:List Value,v=.agg cs.toArray∧∃ R,G R w∧regV wi R (.agg cs.toArray) w
def sM4 (wi:World) (G:Qy.Reg→World→Prop):SpecE:=sE fun v w=>∃ a:Nat,v=.slice (some ⟨a,0,none⟩) 1 1∧wi.heap.size≤a∧a<w.heap.size∧∃ R y0 y1 y2 y3 y4 y5 y6 y7 y8,G R w∧(∀ u∈[y0,y1,y2,y3,y4,y5,y6,y7,y8],u.oneCell'=true)∧(∀ j u,[y0,y1,y2,y3,y4,y5,y6,y7,y8][j]? = some u→w.cell? ((⟨a,0,none⟩:Addr).add j)=some u)∧RegAt w (New wi) [y0,y1,y2,y3,y4,y5,y6,y7,y8] R
def sM5 (N:Nat→Prop) (acc:List Qy.Reg) (G:Qy.Reg→World→Prop):SpecE:=sE fun v w=>∃ x:Value,v=x∧∃ R A c,x=.slice A (acc.length+1) c∧G R w∧KRow 42 N w x (acc++[R])
theorem sM3_on (h:(sM3 wi (GM r l d y)).p x w) (k:Below w.heap.size w w'):(sM3 wi (GM r l d y)).p x w':=by
 obtain ⟨cs,e,R,hG,cs',e',hR⟩:=h
 exact ⟨cs,e,R,hG.on k,cs',e',hR.on k⟩
theorem sM3_row (h:(sM3 wi (GM r l d y)).p x w) (k:w.grownBy w' v.ownBlock) (hv:∀ g,v.ownBlock=some g→g<wi.heap.size) (hr:∀ g,v.ownBlock=some g→r<g):(sM3 wi (GM r l d y)).p x w':=by
 obtain ⟨cs,e,R,hG,cs',e',hR⟩:=h
 exact ⟨cs,e,R,hG.row k hr,cs',e',RegAt.keep k.size (fun g hg hl=>⟨hg,k.block g hl (fun e=>by have:=hv g e.symm;unfold New at hg;omega)⟩) _ _ hR⟩
theorem sM4_row (h:(sM4 wi (GM r l d y)).p x w) (k:w.grownBy w' v.ownBlock) (hv:∀ g,v.ownBlock=some g→g<wi.heap.size) (hr:∀ g,v.ownBlock=some g→r<g):(sM4 wi (GM r l d y)).p x w':=by
 obtain ⟨a,h1,h2,h3,R,y0,y1,y2,y3,y4,y5,y6,y7,y8,h4,h5,h6,h7⟩:=h
 have ha:w'.heap[a]? = w.heap[a]?:=k.block a h3 (fun e=>by have:=hv a e.symm;omega)
 refine ⟨a,h1,h2,Nat.lt_of_lt_of_le h3 k.size,R,y0,y1,y2,y3,y4,y5,y6,y7,y8,h4.row k hr,h5,fun j u hj=>?_,RegAt.keep k.size (fun g hg hl=>⟨hg,k.block g hl (fun e=>by have:=hv g e.symm;unfold New at hg;omega)⟩) _ _ h7⟩
 rw [← h6 j u hj]
 refine World.cell?_of_block ?_
 rw [Addr.add_lit]
 exact ha
end
theorem UpD9 {a0 a1 a2 a3 a4 b0:Value} {s3 s4 s5:SpecE} {D:Nat→Prop} {w w':World} (u3:D 5→∀ x,s3.p x w→s3.p x w') (u4:D 6→∀ x,s4.p x w→s4.p x w') (u5:D 7→∀ x,s5.p x w→s5.p x w') :
 UpD [Spec.eq a0,Spec.eq a1,Spec.eq a2,Spec.eq a3,Spec.eq a4,s3,s4,s5,Spec.eq b0] D w w':=by
 intro k s hD hs
 match k,hD,hs with
 | 0,_,hs=>cases hs;exact fun _ h=>h
 | 1,_,hs=>cases hs;exact fun _ h=>h
 | 2,_,hs=>cases hs;exact fun _ h=>h
 | 3,_,hs=>cases hs;exact fun _ h=>h
 | 4,_,hs=>cases hs;exact fun _ h=>h
 | 5,hD,hs=>cases hs;exact u3 hD
 | 6,hD,hs=>cases hs;exact u4 hD
 | 7,hD,hs=>cases hs;exact u5 hD
 | 8,_,hs=>cases hs;exact fun _ h=>h
 | k+9,_,hs=>cases hs
structure JX (r g4 g6 g7:Nat) (l:List Int) (y:Nat) (c4 c6 c7:List Value) (w wi:World) (D:Nat→Prop) (wz:World):Prop where
 at1:At1 r w wz
 o4:Own wz g4 42 c4
 o6:Own wz g6 42 c6
 o7:Own wz g7 27 c7
 ms:∃ z,Mk r l z wz∧((¬ D 4∧¬ D 9∧z=y)∨(((D 4∧¬ D 9)∨(¬ D 4∧D 9))∧z=y+1)∨(D 4∧D 9∧z=y+2))
section
variable {r g4 g6 g7:Nat} {l:List Int} {y z:Nat} {c4 c6 c7:List Value} {w wi w':World} {D:Nat→Prop} {wz wy:World} {i:Nat}
theorem JX.pure (h:JX r g4 g6 g7 l y c4 c6 c7 w wi D wz) (h4:i≠4) (h9:i≠9):JX r g4 g6 g7 l y c4 c6 c7 w wi (fun k=>D k∨k=i) wz:=by
 obtain ⟨a,b,c,d,z,hz,hc⟩:=h
 refine ⟨a,b,c,d,z,hz,?_⟩
 have e4:(D 4∨4=i)=D 4:=by simp [Ne.symm h4]
 have e9:(D 9∨9=i)=D 9:=by simp [Ne.symm h9]
 simp only [e4,e9]
 exact hc
theorem JX.call4 (h:JX r g4 g6 g7 l y c4 c6 c7 w wi D wz) (k:At1 r wz wy) (hm:Mk r l (z+1) wy) (hc:(¬ D 4∧¬ D 9∧z=y)∨(((D 4∧¬ D 9)∨(¬ D 4∧D 9))∧z=y+1)∨(D 4∧D 9∧z=y+2)) (hn:¬ D 4) (k4:g4≠r) (k6:g6≠r) (k7:g7≠r):JX r g4 g6 g7 l y c4 c6 c7 w wi (fun k=>D k∨k=4) wy:=by
 refine ⟨h.at1.trans k,h.o4.at1 k k4,h.o6.at1 k k6,h.o7.at1 k k7,z+1,hm,?_⟩
 have e9:(D 9∨9=4)=D 9:=by simp
 simp only [e9,or_true]
 rcases hc with ⟨_,h9,e⟩ | ⟨⟨h4,_⟩ | ⟨_,h9⟩,e⟩ | ⟨h4,_⟩
 ·exact .inr (.inl ⟨.inl ⟨trivial,h9⟩,by omega⟩)
 ·exact absurd h4 hn
 ·exact .inr (.inr ⟨trivial,h9,by omega⟩)
 ·exact absurd h4 hn
theorem JX.call9 (h:JX r g4 g6 g7 l y c4 c6 c7 w wi D wz) (k:At1 r wz wy) (hm:Mk r l (z+1) wy) (hc:(¬ D 4∧¬ D 9∧z=y)∨(((D 4∧¬ D 9)∨(¬ D 4∧D 9))∧z=y+1)∨(D 4∧D 9∧z=y+2)) (hn:¬ D 9) (k4:g4≠r) (k6:g6≠r) (k7:g7≠r):JX r g4 g6 g7 l y c4 c6 c7 w wi (fun k=>D k∨k=9) wy:=by
 refine ⟨h.at1.trans k,h.o4.at1 k k4,h.o6.at1 k k6,h.o7.at1 k k7,z+1,hm,?_⟩
 have e4:(D 4∨4=9)=D 4:=by simp
 simp only [e4,or_true]
 rcases hc with ⟨h4,_,e⟩ | ⟨⟨h4,_⟩ | ⟨_,h9⟩,e⟩ | ⟨_,h9,_⟩
 ·exact .inr (.inl ⟨.inr ⟨h4,trivial⟩,by omega⟩)
 ·exact .inr (.inr ⟨h4,trivial,by omega⟩)
 ·exact absurd h9 hn
 ·exact absurd h9 hn
end
def sRng (a b:Int):SpecE:=sE fun v _=>∃ x:Int,v=.int .i64 x∧a≤x∧x≤b
def sPr (a b:Int):SpecE:=sE fun v _=>∃ x:Value,v=x∧∃ e f:Int,x=.agg #[.int .i64 e,.int .i64 f]∧(a≤e∧e≤a+8)∧(b≤f∧f≤b+8)
def sBx (a b:Int):SpecE:=sE fun v _=>∃ x:Value,v=x∧∃ e f:Int,x=.agg #[.int .i64 a,.int .i64 b,.int .i64 e,.int .i64 f]∧(a≤e∧e≤a+8)∧(b≤f∧f≤b+8)
theorem Up14 {a0 a1 a2 a3 b0 b1 b2 c0:Value} {e1 e2 e3 e4 e5 e6 e7 e8 e9 f1 f2 f3:Int} {D:Nat→Prop} {w w':World} :
 UpD [Spec.eq a0,Spec.eq a1,Spec.eq a2,Spec.eq a3,sRng e1 e2,sRng e3 e4,Spec.eq b0,Spec.eq b1,Spec.eq b2,sRng e5 e6,sRng e7 e8,sPr e9 f1,sBx f2 f3,Spec.eq c0] D w w':=by
 intro k s hD hs
 match k,hD,hs with
 | 0,_,hs=>cases hs;exact fun _ h=>h
 | 1,_,hs=>cases hs;exact fun _ h=>h
 | 2,_,hs=>cases hs;exact fun _ h=>h
 | 3,_,hs=>cases hs;exact fun _ h=>h
 | 4,_,hs=>cases hs;exact fun _ h=>h
 | 5,_,hs=>cases hs;exact fun _ h=>h
 | 6,_,hs=>cases hs;exact fun _ h=>h
 | 7,_,hs=>cases hs;exact fun _ h=>h
 | 8,_,hs=>cases hs;exact fun _ h=>h
 | 9,_,hs=>cases hs;exact fun _ h=>h
 | 10,_,hs=>cases hs;exact fun _ h=>h
 | 11,_,hs=>cases hs;exact fun _ h=>h
 | 12,_,hs=>cases hs;exact fun _ h=>h
 | 13,_,hs=>cases hs;exact fun _ h=>h
 | k+14,_,hs=>cases hs
set_option maxRecDepth 100000 in
set_option maxHeartbeats 6400000 in
theorem mkRegion_any (r:Nat) (l:List Int):∀ (d:Nat),1≤d→d≤8→∀ (x:Nat) (w:World),Mk r l x w→x≤300→
 Calls Tryd.prog 44 #[.pointer (some ⟨r,0,none⟩),.int .i64 (d:Int)] w (MadeV r l d x w):=by
 intro d
 induction d with
 | zero=>intro h;omega
 | succ d ih=>
  intro _ hd8 x w hMk hx
  have HIH:Hid (1≤d→∀ (x:Nat) (w:World),Mk r l x w→x≤300→Calls Tryd.prog 44 #[.pointer (some ⟨r,0,none⟩),.int .i64 (d:Int)] w (MadeV r l d x w)):=Lib.hid fun h=>ih h (by omega)
  have HNx:Hid (∀ n:Int,0<n→n≤1048576→∀ (x:Nat) (u:World),x≤1000→Mk r l x u→Calls Tryd.prog 67 #[.pointer (some ⟨r,0,none⟩),.int .i64 n] u fun e w'=>∃ p:Nat,(p:Int)<n∧e=.returned (.int .i64 (p:Int))∧At1 r u w'∧Mk r l (x+1) w'):=Lib.hid fun n h0 h1 x u hx k=>nextP r x l n u k (by omega) h0 (by omega)
  rw [show ((d+1:Nat):Int)=(d:Int)+1 by omega]
  have hrw:=hMk.lt
  clear ih
  go_enter Tryd.func44,Tryd.ntmps44
  go_upto_region 1 with fail
  refine wp_new1 fun W0 hO4 hB=>?_
  have hmk0:=hMk.on hB
  have hat0:=At1.of_below (r:=r) hB
  have hr4:w.heap.size≠r:=by omega
  clear hMk hB
  go_wp2_with fail
  refine (HNx.out 9 (by omega) (by omega) x _ (by omega) hmk0).mono ?_
  rintro e w1 ⟨k0,hk0,rfl,kat,hmk1⟩
  have hat1:=hat0.trans kat
  have hO41:=hO4.at1 kat hr4
  have HS:=Lib.hid (And.intro hat1 (And.intro hmk1 hO41))
  clear hmk0 kat hO4 hat0 hat1 hO41 hmk1
  go_upto_if 13 with fail
  go_cut [5] (fun s5 wx=>(∃ K:Nat,K≤6∧s5=.int .i64 (K:Int))∧wx=w1)
  case first=>
   by_cases hk:(k0:Int) > 6
   ·go_wp2_with fail
    go_meet
    case rel=>exact ⟨⟨k0 - 3,by omega,by rw [show ((k0 - 3:Nat):Int)=(k0:Int) - 3 by omega]⟩,rfl⟩
   ·go_wp2_with fail
    go_meet
    case rel=>exact ⟨⟨k0,by omega,rfl⟩,rfl⟩
  case rest=>
   obtain ⟨⟨K,hK,rfl⟩,rfl⟩:=hcut
   obtain ⟨h1,A,c,hO,hS,h2⟩:=HS.out.2.1
   have q1:wc.cell? ⟨r,1,none⟩=some (.int .i64 ((x+1:Nat):Int)):=hO.cell 1
   clear hO hS h2
   go_upto_region 4 with fail
   go_cut [5,24] (fun s5 s24 wx=>s5=.int .i64 (K:Int)∧s24=.bool (decide (d=0∨60≤x))∧wx=wc)
   case first=>
    by_cases hd0:d=0
    ·have hD2:(d:Int)+1<2:=by omega
     go_wp2_with fail
     go_meet
     case rel=>exact ⟨rfl,by rw [decide_eq_true (.inl hd0)],rfl⟩
    ·have hD2:¬ (d:Int)+1<2:=by omega
     go_wp2_with fail
     go_meet
     case rel=>exact ⟨rfl,by congr 1;exact decide_eq_decide.2 (by omega),rfl⟩
   case rest=>
    obtain ⟨rfl,rfl,rfl⟩:=hcut
    clear q1
    go_upto_if 24 with fail
    go_cut [5] (fun s5 wx=>∃ K c:Nat,K≤6∧s5=.int .i64 (K:Int)∧(1≤c∧c≤2)∧(4≤K→c=1∧1≤d∧x≤59)∧At1 r w wx∧Mk r l (x+c) wx∧Own wx w.heap.size 42 [.int .i64 0,.string ⟨#[]⟩,.int .i64 0,.int .i64 0,.int .i64 0,.int .i64 0,.int .i64 0,.int .i64 0,.slice none 0 0])
    case first=>
     by_cases hlf:d=0∨60≤x
     ·have hdl:decide (d=0∨60≤x)=true:=decide_eq_true hlf
      go_wp2_with fail
      refine (HNx.out 4 (by omega) (by omega) (x+1) _ (by omega) HS.out.2.1).mono ?_
      rintro e w2 ⟨k2,hk2,rfl,kat,hmk2⟩
      have HS2:=Lib.hid (And.intro (HS.out.1.trans kat) (And.intro hmk2 (HS.out.2.2.at1 kat hr4)))
      clear kat hmk2
      go_wp2_with fail
      go_meet
      case rel=>exact ⟨k2,2,by omega,rfl,by omega,fun h=>by omega,HS2.out⟩
     ·have hdl:decide (d=0∨60≤x)=false:=decide_eq_false hlf
      go_wp2_with fail
      go_meet
      case rel=>exact ⟨K,1,hK,rfl,by omega,fun h=>by omega,HS.out⟩
    case rest=>
     clear HS h1 hK
     obtain ⟨K,cn,hK,rfl,hcn,hin,hat,hmk,hO4⟩:=hcut
     have hrc:=hmk.lt
     go_upto_region 7 with fail
     refine wp_new1 fun W6 hG kn=>?_
     obtain ⟨g6,hg6⟩:∃ g,wc.heap.size=g:=⟨_,rfl⟩
     rw [hg6] at hG hrc ⊢
     replace hat:=hat.trans (At1.of_below kn)
     replace hmk:=hmk.on kn
     have hg46:w.heap.size<g6:=by have:=hO4.lt;omega
     replace hO4:=hO4.on kn
     have hg6r:g6≠r:=by omega
     clear kn hg6
     rcases (by omega:K=0∨K=1∨K=2∨K=3∨K=4∨K=5∨K=6) with rfl | rfl | rfl | rfl | rfl | rfl | rfl
     ·
      obtain ⟨⟨y0,y1,y2,y3,y4,y5,y6,y7,y8⟩,_⟩:=hG.all9
      obtain ⟨⟨z0,z1,z2,z3,z4,z5,z6,z7,z8⟩,f0,f1,f2,f3,f4,f5,f6,f7,f8⟩:=hO4.all9
      have HF:=Lib.hid (And.intro hO4 (And.intro hat hmk))
      clear hG hO4 hat hmk
      go_wp2_with fail
      obtain ⟨hO,hk⟩:=HF.out.1.put9 (x0:=.int .i64 0) (x1:=.string ⟨#[]⟩) (x2:=.int .i64 0) (x3:=.int .i64 0) (x4:=.int .i64 0) (x5:=.int .i64 0) (x6:=.int .i64 0) (x7:=.int .i64 0) (x8:=.slice none 0 0)
      clear y0 y1 y2 y3 y4 y5 y6 y7 y8 z0 z1 z2 z3 z4 z5 z6 z7 z8 f0 f1 f2 f3 f4 f5 f6 f7 f8
      revert hO hk
      generalize (((((((((World.setCell _ _ _).setCell _ _).setCell _ _).setCell _ _).setCell _ _).setCell _ _).setCell _ _).setCell _ _).setCell _ _)=W9
      intro hO hk
      obtain ⟨⟨q0,q1,q2,q3,q4,q5,q6,q7,q8⟩,_⟩:=hO.all9
      refine bodyPost_ret (v:=.agg #[.int .i64 0,.string ⟨#[]⟩,.int .i64 0,.int .i64 0,.int .i64 0,.int .i64 0,.int .i64 0,.int .i64 0,.slice none 0 0]) (by simp [results,Tryd.results44,go_sem,q0,q1,q2,q3,q4,q5,q6,q7,q8]) rfl ?_
      exact ⟨_,_,_,rfl,⟨_,rfl,RegAt.leaf _ _ _ _ _ _ _ _⟩,HF.out.2.1.at_ hk (Nat.le_refl _),HF.out.2.2.put hk (by omega),Qy.made_whole (by omega) hcn⟩
     ·
      have kn:=below_new W6 (.cells #[.string ⟨#[97,97]⟩,.string ⟨#[98,50]⟩,.string ⟨#[99,45,99]⟩,.string ⟨#[97,110,100]⟩,.string ⟨#[119,104,111,108,101]⟩,.string ⟨#[115,105,120,116,101,101,110,45,98,121,116,101,115,45,49,54]⟩] 9)
      have hS6:=Own.new W6 9 [.string ⟨#[97,97]⟩,.string ⟨#[98,50]⟩,.string ⟨#[99,45,99]⟩,.string ⟨#[97,110,100]⟩,.string ⟨#[119,104,111,108,101]⟩,.string ⟨#[115,105,120,116,101,101,110,45,98,121,116,101,115,45,49,54]⟩]
      have HK:=Lib.hid (And.intro (hat.trans (At1.of_below kn)) (And.intro (hmk.on kn) (And.intro (hG.on kn) (And.intro (hO4.on kn) hS6))))
      have hz6:=hG.lt
      clear kn hS6 hat hmk hG hO4
      go_wp2_with fail
      refine (HNx.out 6 (by omega) (by omega) _ _ (by omega) HK.out.2.1).mono ?_
      rintro e w7 ⟨p,hp,rfl,kat,hmk⟩
      have hG:=HK.out.2.2.1.at1 kat hg6r
      have hO4:=HK.out.2.2.2.1.at1 kat hr4
      have hat:=HK.out.1.trans kat
      have hS7:=HK.out.2.2.2.2.at1 kat (by omega)
      obtain ⟨nm,hnm,hok⟩:∃ nm,w7.cell? ⟨W6.heap.size,p,none⟩=some (.string (bs nm))∧Qy.nameOK nm=true:=by
       rcases (by omega:p=0∨p=1∨p=2∨p=3∨p=4∨p=5) with rfl | rfl | rfl | rfl | rfl | rfl
       ·exact ⟨[97,97],hS7.cell 0,by decide⟩
       ·exact ⟨[98,50],hS7.cell 1,by decide⟩
       ·exact ⟨[99,45,99],hS7.cell 2,by decide⟩
       ·exact ⟨[97,110,100],hS7.cell 3,by decide⟩
       ·exact ⟨[119,104,111,108,101],hS7.cell 4,by decide⟩
       ·exact ⟨[115,105,120,116,101,101,110,45,98,121,116,101,115,45,49,54],hS7.cell 5,by decide⟩
      clear HK kat hS7 hz6
      have z1:=hG.cell 1
      have f1:=hG.frozen 1
      go_upto_region 24 with fail
      have hk:=At1.set_ (r:=g6) w7 (p:=⟨g6,1,none⟩) rfl (.string (bs nm))
      have hG2:=hG.set_ 1 (.string (bs nm))
      replace hO4:=hO4.at1 hk (Nat.ne_of_lt hg46)
      replace hat:=hat.at_ hk (Nat.le_of_lt hg46)
      replace hmk:=hmk.put hk hrc
      clear z1 f1 hnm hk hG
      revert hG2 hO4 hat hmk
      generalize World.setCell _ _ _=W8
      intro hG2 hO4 hat hmk
      have hG:Own W8 g6 42 [.int .i64 1,.string (bs nm),.int .i64 0,.int .i64 0,.int .i64 0,.int .i64 0,.int .i64 0,.int .i64 0,.slice none 0 0]:=hG2
      clear hG2
      obtain ⟨⟨y0,y1,y2,y3,y4,y5,y6,y7,y8⟩,_⟩:=hG.all9
      obtain ⟨⟨z0,z1,z2,z3,z4,z5,z6,z7,z8⟩,f0,f1,f2,f3,f4,f5,f6,f7,f8⟩:=hO4.all9
      have HF:=Lib.hid (And.intro hO4 (And.intro hat hmk))
      clear hG hO4 hat hmk
      go_wp2_with fail
      obtain ⟨hO,hk⟩:=HF.out.1.put9 (x0:=.int .i64 1) (x1:=.string (bs nm)) (x2:=.int .i64 0) (x3:=.int .i64 0) (x4:=.int .i64 0) (x5:=.int .i64 0) (x6:=.int .i64 0) (x7:=.int .i64 0) (x8:=.slice none 0 0)
      clear y0 y1 y2 y3 y4 y5 y6 y7 y8 z0 z1 z2 z3 z4 z5 z6 z7 z8 f0 f1 f2 f3 f4 f5 f6 f7 f8
      revert hO hk
      generalize (((((((((World.setCell _ _ _).setCell _ _).setCell _ _).setCell _ _).setCell _ _).setCell _ _).setCell _ _).setCell _ _).setCell _ _)=W9
      intro hO hk
      obtain ⟨⟨q0,q1,q2,q3,q4,q5,q6,q7,q8⟩,_⟩:=hO.all9
      refine bodyPost_ret (v:=.agg #[.int .i64 1,.string (bs nm),.int .i64 0,.int .i64 0,.int .i64 0,.int .i64 0,.int .i64 0,.int .i64 0,.slice none 0 0]) (by simp [results,Tryd.results44,go_sem,q0,q1,q2,q3,q4,q5,q6,q7,q8]) rfl ?_
      exact ⟨_,_,_,rfl,⟨_,rfl,RegAt.leaf _ _ _ _ _ _ _ _⟩,HF.out.2.1.at_ hk (Nat.le_refl _),HF.out.2.2.put hk (by omega),Qy.made_named (by omega) hcn hok⟩
     ·
      have hz6:=hG.lt
      go_wp2_with fail
      refine (HNx.out 3 (by omega) (by omega) _ _ (by omega) hmk).mono ?_
      clear hmk
      rintro e w7 ⟨px,hpx,rfl,kat,hmk⟩
      have kn:=below_new w7 (.cells #[.int .i64 0,.int .i64 (-7),.int .i64 1073741824,.int .i64 (-1073741824)] 3)
      have hS6:=Own.new w7 3 [.int .i64 0,.int .i64 (-7),.int .i64 1073741824,.int .i64 (-1073741824)]
      have HK:=Lib.hid (And.intro ((hat.trans kat).trans (At1.of_below kn)) (And.intro (hmk.on kn) (And.intro ((hG.at1 kat hg6r).on kn) (And.intro ((hO4.at1 kat hr4).on kn) hS6))))
      have hz7:g6<w7.heap.size:=Nat.lt_of_lt_of_le hz6 kat.size
      clear kn hS6 hat hmk hG hO4 kat
      go_wp2_with fail
      refine (HNx.out 4 (by omega) (by omega) _ _ (by omega) HK.out.2.1).mono ?_
      rintro e w8 ⟨p,hp,rfl,kat,hmk⟩
      have hG:=HK.out.2.2.1.at1 kat hg6r
      have hO4:=HK.out.2.2.2.1.at1 kat hr4
      have hat:=HK.out.1.trans kat
      have hS7:=HK.out.2.2.2.2.at1 kat (by omega)
      obtain ⟨ay,hay,hok⟩:∃ ay:Int,w8.cell? ⟨w7.heap.size,p,none⟩=some (.int .i64 ay)∧(-1073741824≤ay∧ay≤1073741824):=by
       rcases (by omega:p=0∨p=1∨p=2∨p=3) with rfl | rfl | rfl | rfl
       ·exact ⟨_,hS7.cell 0,by omega⟩
       ·exact ⟨_,hS7.cell 1,by omega⟩
       ·exact ⟨_,hS7.cell 2,by omega⟩
       ·exact ⟨_,hS7.cell 3,by omega⟩
      clear HK kat hS7 hz6 hz7
      have z2:=hG.cell 2
      have f2:=hG.frozen 2
      have z3:=hG.cell 3
      have f3:=hG.frozen 3
      go_upto_region 24 with fail
      have hk:=(At1.set_ (r:=g6) w8 (p:=⟨g6,2,none⟩) rfl (.int .i64 (8 * (px:Int)))).trans (At1.set_ _ (p:=⟨g6,3,none⟩) rfl (.int .i64 ay))
      have hG2:=(hG.set_ 2 (.int .i64 (8 * (px:Int)))).set_ 3 (.int .i64 ay)
      replace hO4:=hO4.at1 hk (Nat.ne_of_lt hg46)
      replace hat:=hat.at_ hk (Nat.le_of_lt hg46)
      replace hmk:=hmk.put hk hrc
      clear z2 f2 z3 f3 hay hk hG
      revert hG2 hO4 hat hmk
      generalize ((World.setCell _ _ _).setCell _ _)=W8
      intro hG2 hO4 hat hmk
      have hG:Own W8 g6 42 [.int .i64 2,.string ⟨#[]⟩,.int .i64 (8 * (px:Int)),.int .i64 ay,.int .i64 0,.int .i64 0,.int .i64 0,.int .i64 0,.slice none 0 0]:=hG2
      clear hG2
      have hpok:Qy.ptOK (8 * (px:Int)) ay=true:=by unfold Qy.ptOK;simp only [Bool.and_eq_true,decide_eq_true_eq];omega
      obtain ⟨⟨y0,y1,y2,y3,y4,y5,y6,y7,y8⟩,_⟩:=hG.all9
      obtain ⟨⟨z0,z1,z2,z3,z4,z5,z6,z7,z8⟩,f0,f1,f2,f3,f4,f5,f6,f7,f8⟩:=hO4.all9
      have HF:=Lib.hid (And.intro hO4 (And.intro hat hmk))
      clear hG hO4 hat hmk
      go_wp2_with fail
      obtain ⟨hO,hk⟩:=HF.out.1.put9 (x0:=.int .i64 2) (x1:=.string ⟨#[]⟩) (x2:=.int .i64 (8 * (px:Int))) (x3:=.int .i64 ay) (x4:=.int .i64 0) (x5:=.int .i64 0) (x6:=.int .i64 0) (x7:=.int .i64 0) (x8:=.slice none 0 0)
      clear y0 y1 y2 y3 y4 y5 y6 y7 y8 z0 z1 z2 z3 z4 z5 z6 z7 z8 f0 f1 f2 f3 f4 f5 f6 f7 f8
      revert hO hk
      generalize (((((((((World.setCell _ _ _).setCell _ _).setCell _ _).setCell _ _).setCell _ _).setCell _ _).setCell _ _).setCell _ _).setCell _ _)=W9
      intro hO hk
      obtain ⟨⟨q0,q1,q2,q3,q4,q5,q6,q7,q8⟩,_⟩:=hO.all9
      refine bodyPost_ret (v:=.agg #[.int .i64 2,.string ⟨#[]⟩,.int .i64 (8 * (px:Int)),.int .i64 ay,.int .i64 0,.int .i64 0,.int .i64 0,.int .i64 0,.slice none 0 0]) (by simp [results,Tryd.results44,go_sem,q0,q1,q2,q3,q4,q5,q6,q7,q8]) rfl ?_
      exact ⟨_,_,_,rfl,⟨_,rfl,RegAt.leaf _ _ _ _ _ _ _ _⟩,HF.out.2.1.at_ hk (Nat.le_refl _),HF.out.2.2.put hk (by omega),Qy.made_at (by omega) hcn hpok⟩
     ·
      have hz6:=hG.lt
      go_wp2_with fail
      refine (HNx.out 1048576 (by omega) (by omega) _ _ (by omega) hmk).mono ?_
      clear hmk
      rintro e w7 ⟨px,hpx,rfl,kat,hmk⟩
      have HK:=Lib.hid (And.intro (hat.trans kat) (And.intro hmk (And.intro (hG.at1 kat hg6r) (hO4.at1 kat hr4))))
      have hz7:g6<w7.heap.size:=Nat.lt_of_lt_of_le hz6 kat.size
      have HGr:=Lib.hid fun u=>Grid_any (px:Int) (by omega) u
      clear hat hmk hG hO4 kat
      go_wp2_with fail
      refine (HGr.out _).mono ?_
      rintro e w8 ⟨ga,gb,rfl,kb,hga,hgb⟩
      go_upto_region 14 with fail
      refine wp_new1 fun W9 hP kn=>?_
      obtain ⟨g7,hg7⟩:∃ g,w8.heap.size=g:=⟨_,rfl⟩
      rw [hg7] at hP ⊢
      have kk:=Below.call kb kn
      have hg67:g6<g7:=by have:=kb.size;omega
      have hg7r:g7≠r:=by omega
      have kd:=Below.drew (Below.refl W9.heap.size W9)
      have kkd:=Below.call kk kd
      obtain ⟨yx,hyx⟩:∃ yx,x+cn+1=yx:=⟨_,rfl⟩
      have hyb:yx≤900:=by omega
      have hJ0:JX r w.heap.size g6 g7 l yx [.int .i64 0,.string ⟨#[]⟩,.int .i64 0,.int .i64 0,.int .i64 0,.int .i64 0,.int .i64 0,.int .i64 0,.slice none 0 0] [.int .i64 3,.string ⟨#[]⟩,.int .i64 0,.int .i64 0,.int .i64 0,.int .i64 0,.int .i64 0,.int .i64 0,.slice none 0 0] [.int .i64 ga,.int .i64 gb] w W9 (fun _=>False) W9.drew:=⟨HK.out.1.trans (At1.of_below kkd),HK.out.2.2.2.on kkd,HK.out.2.2.1.on kkd,hP.on kd,yx,hyx▸HK.out.2.1.on kkd,.inl ⟨id,id,rfl⟩⟩
      clear kb kn hg7 hP kk kd kkd HK hz6 hz7
      refine wp_region_suffixK (JX r w.heap.size g6 g7 l yx [.int .i64 0,.string ⟨#[]⟩,.int .i64 0,.int .i64 0,.int .i64 0,.int .i64 0,.int .i64 0,.int .i64 0,.slice none 0 0] [.int .i64 3,.string ⟨#[]⟩,.int .i64 0,.int .i64 0,.int .i64 0,.int .i64 0,.int .i64 0,.int .i64 0,.slice none 0 0] [.int .i64 ga,.int .i64 gb] w W9) 14 [Spec.eq (.agg #[.int .i64 ga,.int .i64 gb]),Spec.eq (.pointer (some ⟨g7,0,none⟩)),Spec.eq (.int .i64 ga),Spec.eq (.pointer (some ⟨r,0,none⟩)),sRng 0 8,sRng ga (ga+8),Spec.eq (.pointer (some ⟨g7,1,none⟩)),Spec.eq (.int .i64 gb),Spec.eq (.pointer (some ⟨r,0,none⟩)),sRng 0 8,sRng gb (gb+8),sPr ga gb,sBx ga gb,Spec.eq (.pointer (some ⟨g6,4,none⟩))]
       (by kernel_rfl) (by kernel_rfl) rfl (by kernel_rfl) (by kernel_rfl) hJ0 ?_ ?_
      ·
       refine RegStepsK.cons ?_ ?_
       ·intro DD az wz hcl hnd hC hdf hF hD K hK;replace hdf:=Lib.hid hdf
        have q7:az.tmps[7]? = some (.pointer (some ⟨g7,0,none⟩)):=hF 7 rfl
        have zc0:wz.cell? ⟨g7,0,none⟩=some (.int .i64 ga):=hC.o7.c0
        have zc1:wz.cell? ⟨g7,1,none⟩=some (.int .i64 gb):=hC.o7.c1
        clear hF hD
        refine want_none rfl ?_
        go_simp
        exact hK _ _ (hC.pure (by decide) (by decide)) UpD.refl rfl
       refine RegStepsK.cons ?_ ?_
       ·intro DD az wz hcl hnd hC hdf hF hD K hK;replace hdf:=Lib.hid hdf
        have q7:az.tmps[7]? = some (.pointer (some ⟨g7,0,none⟩)):=hF 7 rfl
        clear hF hD
        refine want_none rfl ?_
        go_simp
        exact hK _ _ (hC.pure (by decide) (by decide)) UpD.refl rfl
       refine RegStepsK.cons ?_ ?_
       ·intro DD az wz hcl hnd hC hdf hF hD K hK;replace hdf:=Lib.hid hdf
        obtain ⟨_,q56,rfl⟩:=dep hD 1 rfl rfl rfl rfl
        have zc0:wz.cell? ⟨g7,0,none⟩=some (.int .i64 ga):=hC.o7.c0
        have zc1:wz.cell? ⟨g7,1,none⟩=some (.int .i64 gb):=hC.o7.c1
        clear hF hD
        refine want_none rfl ?_
        go_simp
        exact hK _ _ (hC.pure (by decide) (by decide)) UpD.refl rfl
       refine RegStepsK.cons ?_ ?_
       ·intro DD az wz hcl hnd hC hdf hF hD K hK;replace hdf:=Lib.hid hdf
        have q0:az.tmps[0]? = some (.pointer (some ⟨r,0,none⟩)):=hF 0 rfl
        clear hF hD
        refine want_none rfl ?_
        go_simp
        exact hK _ _ (hC.pure (by decide) (by decide)) UpD.refl rfl
       refine RegStepsK.cons ?_ ?_
       ·intro DD az wz hcl hnd hC hdf hF hD K hK;replace hdf:=Lib.hid hdf
        obtain ⟨_,q58,rfl⟩:=dep hD 3 rfl rfl rfl rfl
        obtain ⟨z,hz,hzc⟩:=hC.ms
        have HJ:=Lib.hid hC
        have HND:=Lib.hid hnd
        have HZC:=Lib.hid hzc
        have hzb:z≤1000:=by rcases hzc with h | h | h <;> omega
        clear hF hD hC hcl hnd hzc
        refine want_none rfl ?_
        go_simp
        refine (HNx.out 9 (by omega) (by omega) z wz hzb hz).mono ?_
        rintro e wy ⟨p,hp,rfl,kat,hmk2⟩
        clear hz
        exact hK _ _ (HJ.out.call4 kat hmk2 HZC.out HND.out hr4 hg6r hg7r) Up14 ⟨(p:Int),rfl,by omega,by omega⟩
       refine RegStepsK.cons ?_ ?_
       ·intro DD az wz hcl hnd hC hdf hF hD K hK;replace hdf:=Lib.hid hdf
        obtain ⟨_,q57,rfl⟩:=dep hD 2 rfl rfl rfl rfl
        obtain ⟨_,q59,x59,rfl,hx59⟩:=dep hD 4 rfl rfl rfl rfl
        obtain ⟨h0,h1⟩:=hx59
        have hw:IntKind.i64.wrap (ga+x59)=ga+x59:=by rw [IntKind.wrap_i64];omega
        clear hF hD
        refine want_none rfl ?_
        go_simp
        exact hK _ _ (hC.pure (by decide) (by decide)) Up14 ⟨_,rfl,by omega,by omega⟩
       refine RegStepsK.cons ?_ ?_
       ·intro DD az wz hcl hnd hC hdf hF hD K hK;replace hdf:=Lib.hid hdf
        have q7:az.tmps[7]? = some (.pointer (some ⟨g7,0,none⟩)):=hF 7 rfl
        clear hF hD
        refine want_none rfl ?_
        go_simp
        exact hK _ _ (hC.pure (by decide) (by decide)) UpD.refl rfl
       refine RegStepsK.cons ?_ ?_
       ·intro DD az wz hcl hnd hC hdf hF hD K hK;replace hdf:=Lib.hid hdf
        obtain ⟨_,q61,rfl⟩:=dep hD 6 rfl rfl rfl rfl
        have zc0:wz.cell? ⟨g7,0,none⟩=some (.int .i64 ga):=hC.o7.c0
        have zc1:wz.cell? ⟨g7,1,none⟩=some (.int .i64 gb):=hC.o7.c1
        clear hF hD
        refine want_none rfl ?_
        go_simp
        exact hK _ _ (hC.pure (by decide) (by decide)) UpD.refl rfl
       refine RegStepsK.cons ?_ ?_
       ·intro DD az wz hcl hnd hC hdf hF hD K hK;replace hdf:=Lib.hid hdf
        have q0:az.tmps[0]? = some (.pointer (some ⟨r,0,none⟩)):=hF 0 rfl
        clear hF hD
        refine want_none rfl ?_
        go_simp
        exact hK _ _ (hC.pure (by decide) (by decide)) UpD.refl rfl
       refine RegStepsK.cons ?_ ?_
       ·intro DD az wz hcl hnd hC hdf hF hD K hK;replace hdf:=Lib.hid hdf
        obtain ⟨_,q63,rfl⟩:=dep hD 8 rfl rfl rfl rfl
        obtain ⟨z,hz,hzc⟩:=hC.ms
        have HJ:=Lib.hid hC
        have HND:=Lib.hid hnd
        have HZC:=Lib.hid hzc
        have hzb:z≤1000:=by rcases hzc with h | h | h <;> omega
        clear hF hD hC hcl hnd hzc
        refine want_none rfl ?_
        go_simp
        refine (HNx.out 9 (by omega) (by omega) z wz hzb hz).mono ?_
        rintro e wy ⟨p,hp,rfl,kat,hmk2⟩
        clear hz
        exact hK _ _ (HJ.out.call9 kat hmk2 HZC.out HND.out hr4 hg6r hg7r) Up14 ⟨(p:Int),rfl,by omega,by omega⟩
       refine RegStepsK.cons ?_ ?_
       ·intro DD az wz hcl hnd hC hdf hF hD K hK;replace hdf:=Lib.hid hdf
        obtain ⟨_,q62,rfl⟩:=dep hD 7 rfl rfl rfl rfl
        obtain ⟨_,q64,x64,rfl,hx64⟩:=dep hD 9 rfl rfl rfl rfl
        obtain ⟨h0,h1⟩:=hx64
        have hw:IntKind.i64.wrap (gb+x64)=gb+x64:=by rw [IntKind.wrap_i64];omega
        clear hF hD
        refine want_none rfl ?_
        go_simp
        exact hK _ _ (hC.pure (by decide) (by decide)) Up14 ⟨_,rfl,by omega,by omega⟩
       refine RegStepsK.cons ?_ ?_
       ·intro DD az wz hcl hnd hC hdf hF hD K hK;replace hdf:=Lib.hid hdf
        obtain ⟨_,q60,x60,rfl,hx60⟩:=dep hD 5 rfl rfl rfl rfl
        obtain ⟨_,q65,x65,rfl,hx65⟩:=dep hD 10 rfl rfl rfl rfl
        obtain ⟨h0,h1⟩:=hx60
        obtain ⟨h2,h3⟩:=hx65
        clear hF hD
        refine want_none rfl ?_
        go_simp
        exact hK _ _ (hC.pure (by decide) (by decide)) Up14 ⟨.agg #[.int .i64 x60,.int .i64 x65],rfl,x60,x65,rfl,⟨h0,h1⟩,h2,h3⟩
       refine RegStepsK.cons ?_ ?_
       ·intro DD az wz hcl hnd hC hdf hF hD K hK;replace hdf:=Lib.hid hdf
        obtain ⟨_,q55,rfl⟩:=dep hD 0 rfl rfl rfl rfl
        obtain ⟨_,q66,x66,rfl,hx66⟩:=dep hD 11 rfl rfl rfl rfl
        obtain ⟨e_,f_,rfl,h0,h1⟩:=hx66
        clear hF hD
        refine want_none rfl ?_
        go_simp
        exact hK _ _ (hC.pure (by decide) (by decide)) Up14 ⟨.agg #[.int .i64 ga,.int .i64 gb,.int .i64 e_,.int .i64 f_],rfl,e_,f_,rfl,h0,h1⟩
       refine RegStepsK.cons ?_ ?_
       ·intro DD az wz hcl hnd hC hdf hF hD K hK;replace hdf:=Lib.hid hdf
        have q6:az.tmps[6]? = some (.pointer (some ⟨g6,0,none⟩)):=hF 6 rfl
        clear hF hD
        refine want_none rfl ?_
        go_simp
        exact hK _ _ (hC.pure (by decide) (by decide)) UpD.refl rfl
       exact RegStepsK.nil
      intro w10 hJ9
      rintro _ rfl _ rfl _ rfl _ rfl _ ⟨y59,rfl,_⟩ _ ⟨y60,rfl,_⟩ _ rfl _ rfl _ rfl _ ⟨y64,rfl,_⟩ _ ⟨y65,rfl,_⟩ _ ⟨y66,rfl,_⟩ _ ⟨y67,rfl,hy67⟩ _ rfl
      simp only [List.take,FinOK,Act.put,List.setIfInBounds_toArray,List.set_cons_zero,List.set_cons_succ]
      simp only [List.drop,TailOK]
      obtain ⟨e_,f_,hbx,he_,hf_⟩:=hy67
      subst hbx
      obtain ⟨zz,hmk,hzz⟩:=hJ9.ms
      have hzv:zz=yx+2:=by
       rcases hzz with ⟨h,_⟩ | ⟨⟨_,h⟩ | ⟨h,_⟩,_⟩ | ⟨_,_,h⟩
       ·exact absurd (by decide) h
       ·exact absurd (by decide) h
       ·exact absurd (by decide) h
       ·exact h
      subst hzv
      clear hzz
      have hG:=hJ9.o6
      have hO4:=hJ9.o4
      have hat:=hJ9.at1
      have z4:=hG.cell 4
      have f4:=hG.frozen 4
      have z5:=hG.cell 5
      have f5:=hG.frozen 5
      have z6:=hG.cell 6
      have f6:=hG.frozen 6
      have z7:=hG.cell 7
      have f7:=hG.frozen 7
      have hk:=(((At1.set_ (r:=g6) w10 (p:=⟨g6,4,none⟩) rfl (.int .i64 ga)).trans (At1.set_ _ (p:=⟨g6,5,none⟩) rfl (.int .i64 gb))).trans (At1.set_ _ (p:=⟨g6,6,none⟩) rfl (.int .i64 e_))).trans (At1.set_ _ (p:=⟨g6,7,none⟩) rfl (.int .i64 f_))
      have hG2:=(((hG.set_ 4 (.int .i64 ga)).set_ 5 (.int .i64 gb)).set_ 6 (.int .i64 e_)).set_ 7 (.int .i64 f_)
      replace hO4:=hO4.at1 hk (Nat.ne_of_lt hg46)
      replace hat:=hat.at_ hk (Nat.le_of_lt hg46)
      replace hmk:=hmk.put hk hrc
      have HH:=Lib.hid (And.intro hG2 (And.intro hO4 (And.intro hat hmk)))
      clear hG2 hO4 hat hmk hk hG hJ9 hJ0
      intro K hK
      refine want_none rfl ?_
      go_simp
      refine hK _ _ ?_
      clear hK K z4 z5 z6 z7 f4 f5 f6 f7
      obtain ⟨hG2,hO4,hat,hmk⟩:=HH.out
      clear HH
      revert hG2 hO4 hat hmk
      generalize ((((World.setCell _ _ _).setCell _ _).setCell _ _).setCell _ _)=W8
      intro hG2 hO4 hat hmk
      have hG:Own W8 g6 42 [.int .i64 3,.string ⟨#[]⟩,.int .i64 0,.int .i64 0,.int .i64 ga,.int .i64 gb,.int .i64 e_,.int .i64 f_,.slice none 0 0]:=hG2
      clear hG2
      subst hyx
      have hmd:Qy.MadeP (d+1) x (.mk 3 [] 0 0 ga gb e_ f_ []) (x+cn+1+2):=Qy.made_within (by omega) hcn (by omega) (by omega) (by omega) (by omega)
      obtain ⟨⟨y0,y1,y2,y3,y4,y5,y6,y7,y8⟩,_⟩:=hG.all9
      obtain ⟨⟨z0,z1,z2,z3,z4,z5,z6,z7,z8⟩,f0,f1,f2,f3,f4,f5,f6,f7,f8⟩:=hO4.all9
      have HF:=Lib.hid (And.intro hO4 (And.intro hat hmk))
      clear hG hO4 hat hmk
      go_wp2_with fail
      obtain ⟨hO,hk⟩:=HF.out.1.put9 (x0:=.int .i64 3) (x1:=.string ⟨#[]⟩) (x2:=.int .i64 0) (x3:=.int .i64 0) (x4:=.int .i64 ga) (x5:=.int .i64 gb) (x6:=.int .i64 e_) (x7:=.int .i64 f_) (x8:=.slice none 0 0)
      clear y0 y1 y2 y3 y4 y5 y6 y7 y8 z0 z1 z2 z3 z4 z5 z6 z7 z8 f0 f1 f2 f3 f4 f5 f6 f7 f8
      revert hO hk
      generalize (((((((((World.setCell _ _ _).setCell _ _).setCell _ _).setCell _ _).setCell _ _).setCell _ _).setCell _ _).setCell _ _).setCell _ _)=W9
      intro hO hk
      obtain ⟨⟨q0,q1,q2,q3,q4,q5,q6,q7,q8⟩,_⟩:=hO.all9
      refine bodyPost_ret (v:=.agg #[.int .i64 3,.string ⟨#[]⟩,.int .i64 0,.int .i64 0,.int .i64 ga,.int .i64 gb,.int .i64 e_,.int .i64 f_,.slice none 0 0]) (by simp [results,Tryd.results44,go_sem,q0,q1,q2,q3,q4,q5,q6,q7,q8]) rfl ?_
      exact ⟨_,_,_,rfl,⟨_,rfl,RegAt.leaf _ _ _ _ _ _ _ _⟩,HF.out.2.1.at_ hk (Nat.le_refl _),HF.out.2.2.put hk (by omega),hmd⟩
     ·
      obtain ⟨rfl,hd1,hx59⟩:=hin (by omega)
      obtain ⟨N,hN⟩:∃ N:Nat→Prop,N=fun g=>g6<g:=⟨_,rfl⟩
      have HN:Hid (∀ g,N g↔g6<g):=Lib.hid fun g=>by rw [hN]
      have hNr:¬ N r:=fun h=>by have:=(HN.out r).1 h;omega
      clear hin hN
      go_wp2_with fail
      refine (HNx.out 4 (by omega) (by omega) _ _ (by omega) hmk).mono ?_
      rintro e w2 ⟨m,hm,rfl,kat,hmk2⟩
      have HS0:=Lib.hid (And.intro (hat.trans kat) (And.intro (hO4.at1 kat hr4) (And.intro (hG.at1 kat hg6r) (And.intro (KRow.nil (T:=42) N w2) hmk2))))
      clear hat hO4 hG hmk hmk2 kat
      go_wp2_with fail
      go_loopw [9] (fun s9 wr=>∃ (i:Nat) (acc:List Qy.Reg) (A:Option Addr) (c y:Nat),i≤m∧s9=.int .i64 (i:Int)∧acc.length=i∧At1 r w wr∧Own wr w.heap.size 42 [.int .i64 0,.string ⟨#[]⟩,.int .i64 0,.int .i64 0,.int .i64 0,.int .i64 0,.int .i64 0,.int .i64 0,.slice none 0 0]∧Own wr g6 42 [.int .i64 4,.string ⟨#[]⟩,.int .i64 0,.int .i64 0,.int .i64 0,.int .i64 0,.int .i64 0,.int .i64 0,.slice A acc.length c]∧KRow 42 N wr (.slice A acc.length c) acc∧Mk r l y wr∧Qy.KidsP (d+1) x i acc y) (fun s9 _=>m - (intOf s9).toNat)
      case atStart=>exact ⟨0,[],none,0,_,by omega,rfl,rfl,HS0.out.1,HS0.out.2.1,HS0.out.2.2.1,HS0.out.2.2.2.1,HS0.out.2.2.2.2,Qy.KidsP.start _ _ hx59⟩
      case round=>
       obtain ⟨i,acc,A,c,y,hi,rfl,hal,hat,hO4,hG,hrow,hmk,hkp⟩:=hrel
       clear HS0
       rcases Nat.lt_or_eq_of_le hi with hlt | heq
       ·have i1:(i:Int)<(m:Int):=by omega
        have hy3:y≤300:=by have:=hkp.2.2.1;omega
        have HKP:=Lib.hid hkp
        have HAL:=Lib.hid hal
        have hvx:=hrow.own
        have hvi:∀ g,(Value.slice A acc.length c).ownBlock=some g→g<wr.heap.size:=fun g e=>(hvx g e).2
        have hvn:∀ g,(Value.slice A acc.length c).ownBlock=some g→w.heap.size≤g∧g≠w.heap.size∧g≠g6∧r<g:=fun g e=>by have:=(HN.out g).1 (hvx g e).1;omega
        have hvr:∀ g,(Value.slice A acc.length c).ownBlock=some g→r<g:=fun g e=>(hvn g e).2.2.2
        have hgr:=hG.lt
        have hN5:∀ g,New wr g→N g:=fun g hg=>(HN.out g).2 (Nat.lt_of_lt_of_le hgr hg)
        have hn1:acc.length+1≤100:=by omega
        have kd:=Below.drew (Below.refl wr.heap.size wr)
        have hJ0:JM r w.heap.size g6 l y [.int .i64 0,.string ⟨#[]⟩,.int .i64 0,.int .i64 0,.int .i64 0,.int .i64 0,.int .i64 0,.int .i64 0,.slice none 0 0] [.int .i64 4,.string ⟨#[]⟩,.int .i64 0,.int .i64 0,.int .i64 0,.int .i64 0,.int .i64 0,.int .i64 0,.slice A acc.length c] N w wr (.slice A acc.length c) acc (fun _=>False) wr.drew:=⟨hat.trans (At1.of_below kd),Nat.le_refl _,hO4.on kd,hG.on kd,fun _=>hrow.on kd,fun _=>hmk.on kd⟩
        clear hat hO4 hG hrow hmk kd hvx
        clear hkp hal
        go_upto_region 21 with fail
        refine wp_region_suffixK (JM r w.heap.size g6 l y [.int .i64 0,.string ⟨#[]⟩,.int .i64 0,.int .i64 0,.int .i64 0,.int .i64 0,.int .i64 0,.int .i64 0,.slice none 0 0] [.int .i64 4,.string ⟨#[]⟩,.int .i64 0,.int .i64 0,.int .i64 0,.int .i64 0,.int .i64 0,.int .i64 0,.slice A acc.length c] N w wr (.slice A acc.length c) acc) 9 [Spec.eq (.pointer (some ⟨g6,8,none⟩)),Spec.eq (.slice A acc.length c),Spec.eq (.pointer (some ⟨r,0,none⟩)),Spec.eq (.int .i64 ((d:Int)+1)),Spec.eq (.int .i64 (d:Int)),sM3 wr (GM r l d y),sM4 wr (GM r l d y),sM5 N acc (GM r l d y),Spec.eq (.pointer (some ⟨g6,8,none⟩))]
         (by kernel_rfl) (by kernel_rfl) rfl (by kernel_rfl) (by kernel_rfl) hJ0 ?_ ?_
        ·
         refine RegStepsK.cons ?_ ?_
         ·intro DD az wz hcl hnd hC hdf hF hD K hK;replace hdf:=Lib.hid hdf
          have q6:az.tmps[6]? = some (.pointer (some ⟨g6,0,none⟩)):=hF 6 rfl
          clear hF hD
          refine want_none rfl ?_
          go_simp
          exact hK _ _ (hC.pure (by decide) (by decide)) UpD.refl rfl
         refine RegStepsK.cons ?_ ?_
         ·intro DD az wz hcl hnd hC hdf hF hD K hK;replace hdf:=Lib.hid hdf
          obtain ⟨_,q79,rfl⟩:=dep hD 0 rfl rfl rfl rfl
          have z8:wz.cell? ⟨g6,8,none⟩=some (.slice A acc.length c):=hC.o6.cell 8
          clear hF hD
          refine want_none rfl ?_
          go_simp
          exact hK _ _ (hC.pure (by decide) (by decide)) UpD.refl rfl
         refine RegStepsK.cons ?_ ?_
         ·intro DD az wz hcl hnd hC hdf hF hD K hK;replace hdf:=Lib.hid hdf
          have q0:az.tmps[0]? = some (.pointer (some ⟨r,0,none⟩)):=hF 0 rfl
          clear hF hD
          refine want_none rfl ?_
          go_simp
          exact hK _ _ (hC.pure (by decide) (by decide)) UpD.refl rfl
         refine RegStepsK.cons ?_ ?_
         ·intro DD az wz hcl hnd hC hdf hF hD K hK;replace hdf:=Lib.hid hdf
          have q1:az.tmps[1]? = some (.int .i64 ((d:Int)+1)):=hF 1 rfl
          clear hF hD
          refine want_none rfl ?_
          go_simp
          exact hK _ _ (hC.pure (by decide) (by decide)) UpD.refl rfl
         refine RegStepsK.cons ?_ ?_
         ·intro DD az wz hcl hnd hC hdf hF hD K hK;replace hdf:=Lib.hid hdf
          obtain ⟨_,q82,rfl⟩:=dep hD 3 rfl rfl rfl rfl
          clear hF hD
          refine want_none rfl ?_
          go_simp
          try go_ints
          exact hK _ _ (hC.pure (by decide) (by decide)) UpD.refl rfl
         refine RegStepsK.cons ?_ ?_
         ·intro DD az wz hcl hnd hC hdf hF hD K hK;replace hdf:=Lib.hid hdf
          obtain ⟨_,q81,rfl⟩:=dep hD 2 rfl rfl rfl rfl
          obtain ⟨_,q83,rfl⟩:=dep hD 4 rfl rfl rfl rfl
          have hmk:=hC.ms hnd
          have HJ:=Lib.hid hC
          have HND:=Lib.hid hnd
          have HCL:=Lib.hid hcl
          clear hF hD hC hcl hnd
          refine want_none rfl ?_
          go_simp
          refine (HIH.out hd1 y wz hmk hy3).mono ?_
          rintro e wy ⟨R,y2,v,rfl,hu,kat,hmk2,hmp⟩
          clear hmk
          obtain ⟨cs,rfl,_⟩:=id hu
          exact hK _ _ (HJ.out.call kat hNr hr4 hg6r) (UpD9 (fun h=>absurd h HND.out) (fun h=>absurd (HCL.out 6 _ rfl h 5 rfl) HND.out) (fun h=>absurd (HCL.out 6 _ rfl (HCL.out 7 _ rfl h 6 rfl) 5 rfl) HND.out)) ⟨cs,rfl,R,⟨y2,hmk2,hmp⟩,hu.old HJ.out.sz⟩
         refine RegStepsK.cons ?_ ?_
         ·intro DD az wz hcl hnd hC hdf hF hD K hK;replace hdf:=Lib.hid hdf
          obtain ⟨_,q84,x84,rfl,hx84⟩:=dep hD 5 rfl rfl rfl rfl
          obtain ⟨R3_,hgm,hu⟩:=hx84
          obtain ⟨y0,y1,y2,y3,y4,y5,y6,y7,y8,hcs,one9,hR9,_⟩:=hu.open_
          rw [hcs] at q84
          have kn:=below_new wz (.cells #[y0,y1,y2,y3,y4,y5,y6,y7,y8] 42)
          have HP:=Lib.hid (hC.on kn (i:=6) (by decide))
          have HKN:=Lib.hid kn
          have HCL:=Lib.hid hcl
          have HND:=Lib.hid hnd
          have HGM:=Lib.hid (GM.on hgm kn)
          have HO:=Lib.hid (own_news (Own.new wz 42 [y0,y1,y2,y3,y4,y5,y6,y7,y8]))
          have HR9:=Lib.hid (RegAt.keep kn.size (fun g hg hl=>⟨hg,kn.block g hl⟩) _ _ hR9)
          have HSZ:=Lib.hid hC.sz
          clear hF hD hC hcl hnd hu hR9 kn hcs hgm
          refine want_none rfl ?_
          go_simp
          exact hK _ _ HP.out (UpD9 (fun _ _ hx=>sM3_on hx HKN.out) (fun h=>absurd h HND.out) (fun h=>absurd (HCL.out 7 _ rfl h 6 rfl) HND.out)) ⟨wz.heap.size,rfl,HSZ.out,by simp,R3_,y0,y1,y2,y3,y4,y5,y6,y7,y8,HGM.out,one9,HO.out,HR9.out⟩
         refine RegStepsK.cons ?_ ?_
         ·intro DD az wz hcl hnd hC hdf hF hD K hK;replace hdf:=Lib.hid hdf
          obtain ⟨_,q80,rfl⟩:=dep hD 1 rfl rfl rfl rfl
          obtain ⟨_,q85,x85,rfl,hx85⟩:=dep hD 6 rfl rfl rfl rfl
          obtain ⟨hs1,hs2,R3_,y0,y1,y2,y3,y4,y5,y6,y7,y8,hgm,one9,ho9,hR9⟩:=hx85
          clear hF hD
          refine want_none rfl ?_
          obtain ⟨css,p1,p2,p4,p3⟩:=hC.row hnd
          obtain ⟨i0_,hi_,hz0,hz1,hz2⟩:=info_parts reg_infoF
          refine oper_pushO _ _ _ 40 rfl 42 i0_ (.agg #[.int .i64 0,.string ⟨#[]⟩,.int .i64 0,.int .i64 0,.int .i64 0,.int .i64 0,.int .i64 0,.int .i64 0,.slice none 0 0]) 9 96 Tryd.underlying40 hi_ hz0 hz1 hz2 rfl (by decide) 0 _ _ _ (by simp [Act.eval,q80]) p2 ⟨x85,0,none⟩ 1 [y0,y1,y2,y3,y4,y5,y6,y7,y8] (by simp [Act.eval,q85]) rfl ho9 one9 (by unfold maxLen;omega) (by omega) (Nat.zero_le _) ?_
          intro v' w' hrow3 hgrow hv'
          have hrow4:=KRow.push p1 p4 p3 rfl hR9 hN5 (Nat.le_of_lt (Nat.lt_of_le_of_lt hs1 hs2)) hvi hrow3 hgrow hv'
          obtain ⟨A',c',hA'⟩:=hrow4.slice
          exact hK _ _ (hC.push hgrow hvn) (UpD9 (fun _ _ hx=>sM3_row hx hgrow hvi hvr) (fun _ _ hx=>sM4_row hx hgrow hvi hvr) (fun h=>absurd h hnd)) ⟨v',rfl,R3_,A',c',by simpa using hA',GM.row hgm hgrow hvr,hrow4⟩
         refine RegStepsK.cons ?_ ?_
         ·intro DD az wz hcl hnd hC hdf hF hD K hK;replace hdf:=Lib.hid hdf
          have q6:az.tmps[6]? = some (.pointer (some ⟨g6,0,none⟩)):=hF 6 rfl
          clear hF hD
          refine want_none rfl ?_
          go_simp
          exact hK _ _ (hC.pure (by decide) (by decide)) UpD.refl rfl
         exact RegStepsK.nil
        intro w7 hJ7
        rintro _ rfl _ rfl _ rfl _ rfl _ rfl _ ⟨y84,rfl,_⟩ _ ⟨y85,rfl,_⟩ _ ⟨y86,rfl,hy86⟩ _ rfl
        simp only [List.take,FinOK,Act.put,List.setIfInBounds_toArray,List.set_cons_zero,List.set_cons_succ]
        simp only [List.drop,TailOK]
        obtain ⟨R7,A7,c7,hv7,⟨y7,hmk7,hmp7⟩,hrow7⟩:=hy86
        subst hv7
        have q8:=hJ7.o6.cell 8
        have q9:=hJ7.o6.frozen 8
        have hk:=At1.set_ (r:=g6) w7 (p:=⟨g6,8,none⟩) rfl (.slice A7 (acc.length+1) c7)
        have hN6:¬ N g6:=fun h=>Nat.lt_irrefl _ ((HN.out g6).1 h)
        have HS:=Lib.hid (And.intro (hJ7.at1.at_ hk (Nat.le_of_lt hg46)) (And.intro (hJ7.o4.at1 hk (Nat.ne_of_lt hg46)) (And.intro (hJ7.o6.set_ 8 (.slice A7 (acc.length+1) c7)) (And.intro (hrow7.at1 hk hN6) (hmk7.put hk hrc)))))
        clear hJ7 hk hrow7 hmk7 hJ0
        intro K hK
        refine want_none rfl ?_
        go_simp
        refine hK _ _ ?_
        clear hK K q8 q9
        go_wp2_with fail
        go_roundw
        case rel=>exact ⟨i+1,acc++[R7],A7,c7,y7,by omega,by go_num,by rw [List.length_append,HAL.out];rfl,HS.out.1,HS.out.2.1,by rw [List.length_append];exact HS.out.2.2.1,by rw [List.length_append];exact HS.out.2.2.2.1,HS.out.2.2.2.2,HKP.out.step hmp7⟩
        case measure=>simp [intOf];omega
       ·subst heq
        have HF2:=Lib.hid hrow
        have hmd:Qy.MadeP (d+1) x (Qy.kidsR 4 acc) y:=hkp.done (by omega) hx59 (by omega) (by omega)
        clear hrow hkp hal
        obtain ⟨⟨y0,y1,y2,y3,y4,y5,y6,y7,y8⟩,_⟩:=hG.all9
        obtain ⟨⟨z0,z1,z2,z3,z4,z5,z6,z7,z8⟩,f0,f1,f2,f3,f4,f5,f6,f7,f8⟩:=hO4.all9
        have HF:=Lib.hid (And.intro hO4 (And.intro hat hmk))
        clear hG hO4 hat hmk
        go_wp2_with fail
        obtain ⟨hO,hk⟩:=HF.out.1.put9 (x0:=.int .i64 4) (x1:=.string ⟨#[]⟩) (x2:=.int .i64 0) (x3:=.int .i64 0) (x4:=.int .i64 0) (x5:=.int .i64 0) (x6:=.int .i64 0) (x7:=.int .i64 0) (x8:=.slice A acc.length c)
        clear y0 y1 y2 y3 y4 y5 y6 y7 y8 z0 z1 z2 z3 z4 z5 z6 z7 z8 f0 f1 f2 f3 f4 f5 f6 f7 f8
        revert hO hk
        generalize (((((((((World.setCell _ _ _).setCell _ _).setCell _ _).setCell _ _).setCell _ _).setCell _ _).setCell _ _).setCell _ _).setCell _ _)=W9
        intro hO hk
        obtain ⟨⟨q0,q1,q2,q3,q4,q5,q6,q7,q8⟩,_⟩:=hO.all9
        refine bodyPost_ret (v:=.agg #[.int .i64 4,.string ⟨#[]⟩,.int .i64 0,.int .i64 0,.int .i64 0,.int .i64 0,.int .i64 0,.int .i64 0,.slice A acc.length c]) (by simp [results,Tryd.results44,go_sem,q0,q1,q2,q3,q4,q5,q6,q7,q8]) rfl ?_
        have hN4:¬ N w.heap.size:=fun h=>by have:=(HN.out _).1 h;omega
        obtain ⟨A',c',hA',hkids⟩:=((HF2.out.at1 hk hN4).listV (w0:=w) (fun g hg=>by have:=(HN.out g).1 hg;show w.heap.size≤g;omega))
        cases hA'
        refine ⟨Qy.kidsR 4 acc,_,_,rfl,⟨_,rfl,?_⟩,HF.out.2.1.at_ hk (Nat.le_refl _),HF.out.2.2.put hk (by omega),hmd⟩
        unfold Qy.kidsR
        rw [RegAt]
        exact ⟨_,_,rfl,hkids⟩
     ·
      obtain ⟨rfl,hd1,hx59⟩:=hin (by omega)
      obtain ⟨N,hN⟩:∃ N:Nat→Prop,N=fun g=>g6<g:=⟨_,rfl⟩
      have HN:Hid (∀ g,N g↔g6<g):=Lib.hid fun g=>by rw [hN]
      have hNr:¬ N r:=fun h=>by have:=(HN.out r).1 h;omega
      clear hin hN
      go_wp2_with fail
      refine (HNx.out 4 (by omega) (by omega) _ _ (by omega) hmk).mono ?_
      rintro e w2 ⟨m,hm,rfl,kat,hmk2⟩
      have HS0:=Lib.hid (And.intro (hat.trans kat) (And.intro (hO4.at1 kat hr4) (And.intro (hG.at1 kat hg6r) (And.intro (KRow.nil (T:=42) N w2) hmk2))))
      clear hat hO4 hG hmk hmk2 kat
      go_wp2_with fail
      go_loopw [9] (fun s9 wr=>∃ (i:Nat) (acc:List Qy.Reg) (A:Option Addr) (c y:Nat),i≤m∧s9=.int .i64 (i:Int)∧acc.length=i∧At1 r w wr∧Own wr w.heap.size 42 [.int .i64 0,.string ⟨#[]⟩,.int .i64 0,.int .i64 0,.int .i64 0,.int .i64 0,.int .i64 0,.int .i64 0,.slice none 0 0]∧Own wr g6 42 [.int .i64 5,.string ⟨#[]⟩,.int .i64 0,.int .i64 0,.int .i64 0,.int .i64 0,.int .i64 0,.int .i64 0,.slice A acc.length c]∧KRow 42 N wr (.slice A acc.length c) acc∧Mk r l y wr∧Qy.KidsP (d+1) x i acc y) (fun s9 _=>m - (intOf s9).toNat)
      case atStart=>exact ⟨0,[],none,0,_,by omega,rfl,rfl,HS0.out.1,HS0.out.2.1,HS0.out.2.2.1,HS0.out.2.2.2.1,HS0.out.2.2.2.2,Qy.KidsP.start _ _ hx59⟩
      case round=>
       obtain ⟨i,acc,A,c,y,hi,rfl,hal,hat,hO4,hG,hrow,hmk,hkp⟩:=hrel
       clear HS0
       rcases Nat.lt_or_eq_of_le hi with hlt | heq
       ·have i1:(i:Int)<(m:Int):=by omega
        have hy3:y≤300:=by have:=hkp.2.2.1;omega
        have HKP:=Lib.hid hkp
        have HAL:=Lib.hid hal
        have hvx:=hrow.own
        have hvi:∀ g,(Value.slice A acc.length c).ownBlock=some g→g<wr.heap.size:=fun g e=>(hvx g e).2
        have hvn:∀ g,(Value.slice A acc.length c).ownBlock=some g→w.heap.size≤g∧g≠w.heap.size∧g≠g6∧r<g:=fun g e=>by have:=(HN.out g).1 (hvx g e).1;omega
        have hvr:∀ g,(Value.slice A acc.length c).ownBlock=some g→r<g:=fun g e=>(hvn g e).2.2.2
        have hgr:=hG.lt
        have hN5:∀ g,New wr g→N g:=fun g hg=>(HN.out g).2 (Nat.lt_of_lt_of_le hgr hg)
        have hn1:acc.length+1≤100:=by omega
        have kd:=Below.drew (Below.refl wr.heap.size wr)
        have hJ0:JM r w.heap.size g6 l y [.int .i64 0,.string ⟨#[]⟩,.int .i64 0,.int .i64 0,.int .i64 0,.int .i64 0,.int .i64 0,.int .i64 0,.slice none 0 0] [.int .i64 5,.string ⟨#[]⟩,.int .i64 0,.int .i64 0,.int .i64 0,.int .i64 0,.int .i64 0,.int .i64 0,.slice A acc.length c] N w wr (.slice A acc.length c) acc (fun _=>False) wr.drew:=⟨hat.trans (At1.of_below kd),Nat.le_refl _,hO4.on kd,hG.on kd,fun _=>hrow.on kd,fun _=>hmk.on kd⟩
        clear hat hO4 hG hrow hmk kd hvx
        clear hkp hal
        go_upto_region 21 with fail
        refine wp_region_suffixK (JM r w.heap.size g6 l y [.int .i64 0,.string ⟨#[]⟩,.int .i64 0,.int .i64 0,.int .i64 0,.int .i64 0,.int .i64 0,.int .i64 0,.slice none 0 0] [.int .i64 5,.string ⟨#[]⟩,.int .i64 0,.int .i64 0,.int .i64 0,.int .i64 0,.int .i64 0,.int .i64 0,.slice A acc.length c] N w wr (.slice A acc.length c) acc) 9 [Spec.eq (.pointer (some ⟨g6,8,none⟩)),Spec.eq (.slice A acc.length c),Spec.eq (.pointer (some ⟨r,0,none⟩)),Spec.eq (.int .i64 ((d:Int)+1)),Spec.eq (.int .i64 (d:Int)),sM3 wr (GM r l d y),sM4 wr (GM r l d y),sM5 N acc (GM r l d y),Spec.eq (.pointer (some ⟨g6,8,none⟩))]
         (by kernel_rfl) (by kernel_rfl) rfl (by kernel_rfl) (by kernel_rfl) hJ0 ?_ ?_
        ·
         refine RegStepsK.cons ?_ ?_
         ·intro DD az wz hcl hnd hC hdf hF hD K hK;replace hdf:=Lib.hid hdf
          have q6:az.tmps[6]? = some (.pointer (some ⟨g6,0,none⟩)):=hF 6 rfl
          clear hF hD
          refine want_none rfl ?_
          go_simp
          exact hK _ _ (hC.pure (by decide) (by decide)) UpD.refl rfl
         refine RegStepsK.cons ?_ ?_
         ·intro DD az wz hcl hnd hC hdf hF hD K hK;replace hdf:=Lib.hid hdf
          obtain ⟨_,q79,rfl⟩:=dep hD 0 rfl rfl rfl rfl
          have z8:wz.cell? ⟨g6,8,none⟩=some (.slice A acc.length c):=hC.o6.cell 8
          clear hF hD
          refine want_none rfl ?_
          go_simp
          exact hK _ _ (hC.pure (by decide) (by decide)) UpD.refl rfl
         refine RegStepsK.cons ?_ ?_
         ·intro DD az wz hcl hnd hC hdf hF hD K hK;replace hdf:=Lib.hid hdf
          have q0:az.tmps[0]? = some (.pointer (some ⟨r,0,none⟩)):=hF 0 rfl
          clear hF hD
          refine want_none rfl ?_
          go_simp
          exact hK _ _ (hC.pure (by decide) (by decide)) UpD.refl rfl
         refine RegStepsK.cons ?_ ?_
         ·intro DD az wz hcl hnd hC hdf hF hD K hK;replace hdf:=Lib.hid hdf
          have q1:az.tmps[1]? = some (.int .i64 ((d:Int)+1)):=hF 1 rfl
          clear hF hD
          refine want_none rfl ?_
          go_simp
          exact hK _ _ (hC.pure (by decide) (by decide)) UpD.refl rfl
         refine RegStepsK.cons ?_ ?_
         ·intro DD az wz hcl hnd hC hdf hF hD K hK;replace hdf:=Lib.hid hdf
          obtain ⟨_,q82,rfl⟩:=dep hD 3 rfl rfl rfl rfl
          clear hF hD
          refine want_none rfl ?_
          go_simp
          try go_ints
          exact hK _ _ (hC.pure (by decide) (by decide)) UpD.refl rfl
         refine RegStepsK.cons ?_ ?_
         ·intro DD az wz hcl hnd hC hdf hF hD K hK;replace hdf:=Lib.hid hdf
          obtain ⟨_,q81,rfl⟩:=dep hD 2 rfl rfl rfl rfl
          obtain ⟨_,q83,rfl⟩:=dep hD 4 rfl rfl rfl rfl
          have hmk:=hC.ms hnd
          have HJ:=Lib.hid hC
          have HND:=Lib.hid hnd
          have HCL:=Lib.hid hcl
          clear hF hD hC hcl hnd
          refine want_none rfl ?_
          go_simp
          refine (HIH.out hd1 y wz hmk hy3).mono ?_
          rintro e wy ⟨R,y2,v,rfl,hu,kat,hmk2,hmp⟩
          clear hmk
          obtain ⟨cs,rfl,_⟩:=id hu
          exact hK _ _ (HJ.out.call kat hNr hr4 hg6r) (UpD9 (fun h=>absurd h HND.out) (fun h=>absurd (HCL.out 6 _ rfl h 5 rfl) HND.out) (fun h=>absurd (HCL.out 6 _ rfl (HCL.out 7 _ rfl h 6 rfl) 5 rfl) HND.out)) ⟨cs,rfl,R,⟨y2,hmk2,hmp⟩,hu.old HJ.out.sz⟩
         refine RegStepsK.cons ?_ ?_
         ·intro DD az wz hcl hnd hC hdf hF hD K hK;replace hdf:=Lib.hid hdf
          obtain ⟨_,q84,x84,rfl,hx84⟩:=dep hD 5 rfl rfl rfl rfl
          obtain ⟨R3_,hgm,hu⟩:=hx84
          obtain ⟨y0,y1,y2,y3,y4,y5,y6,y7,y8,hcs,one9,hR9,_⟩:=hu.open_
          rw [hcs] at q84
          have kn:=below_new wz (.cells #[y0,y1,y2,y3,y4,y5,y6,y7,y8] 42)
          have HP:=Lib.hid (hC.on kn (i:=6) (by decide))
          have HKN:=Lib.hid kn
          have HCL:=Lib.hid hcl
          have HND:=Lib.hid hnd
          have HGM:=Lib.hid (GM.on hgm kn)
          have HO:=Lib.hid (own_news (Own.new wz 42 [y0,y1,y2,y3,y4,y5,y6,y7,y8]))
          have HR9:=Lib.hid (RegAt.keep kn.size (fun g hg hl=>⟨hg,kn.block g hl⟩) _ _ hR9)
          have HSZ:=Lib.hid hC.sz
          clear hF hD hC hcl hnd hu hR9 kn hcs hgm
          refine want_none rfl ?_
          go_simp
          exact hK _ _ HP.out (UpD9 (fun _ _ hx=>sM3_on hx HKN.out) (fun h=>absurd h HND.out) (fun h=>absurd (HCL.out 7 _ rfl h 6 rfl) HND.out)) ⟨wz.heap.size,rfl,HSZ.out,by simp,R3_,y0,y1,y2,y3,y4,y5,y6,y7,y8,HGM.out,one9,HO.out,HR9.out⟩
         refine RegStepsK.cons ?_ ?_
         ·intro DD az wz hcl hnd hC hdf hF hD K hK;replace hdf:=Lib.hid hdf
          obtain ⟨_,q80,rfl⟩:=dep hD 1 rfl rfl rfl rfl
          obtain ⟨_,q85,x85,rfl,hx85⟩:=dep hD 6 rfl rfl rfl rfl
          obtain ⟨hs1,hs2,R3_,y0,y1,y2,y3,y4,y5,y6,y7,y8,hgm,one9,ho9,hR9⟩:=hx85
          clear hF hD
          refine want_none rfl ?_
          obtain ⟨css,p1,p2,p4,p3⟩:=hC.row hnd
          obtain ⟨i0_,hi_,hz0,hz1,hz2⟩:=info_parts reg_infoF
          refine oper_pushO _ _ _ 40 rfl 42 i0_ (.agg #[.int .i64 0,.string ⟨#[]⟩,.int .i64 0,.int .i64 0,.int .i64 0,.int .i64 0,.int .i64 0,.int .i64 0,.slice none 0 0]) 9 96 Tryd.underlying40 hi_ hz0 hz1 hz2 rfl (by decide) 0 _ _ _ (by simp [Act.eval,q80]) p2 ⟨x85,0,none⟩ 1 [y0,y1,y2,y3,y4,y5,y6,y7,y8] (by simp [Act.eval,q85]) rfl ho9 one9 (by unfold maxLen;omega) (by omega) (Nat.zero_le _) ?_
          intro v' w' hrow3 hgrow hv'
          have hrow4:=KRow.push p1 p4 p3 rfl hR9 hN5 (Nat.le_of_lt (Nat.lt_of_le_of_lt hs1 hs2)) hvi hrow3 hgrow hv'
          obtain ⟨A',c',hA'⟩:=hrow4.slice
          exact hK _ _ (hC.push hgrow hvn) (UpD9 (fun _ _ hx=>sM3_row hx hgrow hvi hvr) (fun _ _ hx=>sM4_row hx hgrow hvi hvr) (fun h=>absurd h hnd)) ⟨v',rfl,R3_,A',c',by simpa using hA',GM.row hgm hgrow hvr,hrow4⟩
         refine RegStepsK.cons ?_ ?_
         ·intro DD az wz hcl hnd hC hdf hF hD K hK;replace hdf:=Lib.hid hdf
          have q6:az.tmps[6]? = some (.pointer (some ⟨g6,0,none⟩)):=hF 6 rfl
          clear hF hD
          refine want_none rfl ?_
          go_simp
          exact hK _ _ (hC.pure (by decide) (by decide)) UpD.refl rfl
         exact RegStepsK.nil
        intro w7 hJ7
        rintro _ rfl _ rfl _ rfl _ rfl _ rfl _ ⟨y84,rfl,_⟩ _ ⟨y85,rfl,_⟩ _ ⟨y86,rfl,hy86⟩ _ rfl
        simp only [List.take,FinOK,Act.put,List.setIfInBounds_toArray,List.set_cons_zero,List.set_cons_succ]
        simp only [List.drop,TailOK]
        obtain ⟨R7,A7,c7,hv7,⟨y7,hmk7,hmp7⟩,hrow7⟩:=hy86
        subst hv7
        have q8:=hJ7.o6.cell 8
        have q9:=hJ7.o6.frozen 8
        have hk:=At1.set_ (r:=g6) w7 (p:=⟨g6,8,none⟩) rfl (.slice A7 (acc.length+1) c7)
        have hN6:¬ N g6:=fun h=>Nat.lt_irrefl _ ((HN.out g6).1 h)
        have HS:=Lib.hid (And.intro (hJ7.at1.at_ hk (Nat.le_of_lt hg46)) (And.intro (hJ7.o4.at1 hk (Nat.ne_of_lt hg46)) (And.intro (hJ7.o6.set_ 8 (.slice A7 (acc.length+1) c7)) (And.intro (hrow7.at1 hk hN6) (hmk7.put hk hrc)))))
        clear hJ7 hk hrow7 hmk7 hJ0
        intro K hK
        refine want_none rfl ?_
        go_simp
        refine hK _ _ ?_
        clear hK K q8 q9
        go_wp2_with fail
        go_roundw
        case rel=>exact ⟨i+1,acc++[R7],A7,c7,y7,by omega,by go_num,by rw [List.length_append,HAL.out];rfl,HS.out.1,HS.out.2.1,by rw [List.length_append];exact HS.out.2.2.1,by rw [List.length_append];exact HS.out.2.2.2.1,HS.out.2.2.2.2,HKP.out.step hmp7⟩
        case measure=>simp [intOf];omega
       ·subst heq
        have HF2:=Lib.hid hrow
        have hmd:Qy.MadeP (d+1) x (Qy.kidsR 5 acc) y:=hkp.done (by omega) hx59 (by omega) (by omega)
        clear hrow hkp hal
        obtain ⟨⟨y0,y1,y2,y3,y4,y5,y6,y7,y8⟩,_⟩:=hG.all9
        obtain ⟨⟨z0,z1,z2,z3,z4,z5,z6,z7,z8⟩,f0,f1,f2,f3,f4,f5,f6,f7,f8⟩:=hO4.all9
        have HF:=Lib.hid (And.intro hO4 (And.intro hat hmk))
        clear hG hO4 hat hmk
        go_wp2_with fail
        obtain ⟨hO,hk⟩:=HF.out.1.put9 (x0:=.int .i64 5) (x1:=.string ⟨#[]⟩) (x2:=.int .i64 0) (x3:=.int .i64 0) (x4:=.int .i64 0) (x5:=.int .i64 0) (x6:=.int .i64 0) (x7:=.int .i64 0) (x8:=.slice A acc.length c)
        clear y0 y1 y2 y3 y4 y5 y6 y7 y8 z0 z1 z2 z3 z4 z5 z6 z7 z8 f0 f1 f2 f3 f4 f5 f6 f7 f8
        revert hO hk
        generalize (((((((((World.setCell _ _ _).setCell _ _).setCell _ _).setCell _ _).setCell _ _).setCell _ _).setCell _ _).setCell _ _).setCell _ _)=W9
        intro hO hk
        obtain ⟨⟨q0,q1,q2,q3,q4,q5,q6,q7,q8⟩,_⟩:=hO.all9
        refine bodyPost_ret (v:=.agg #[.int .i64 5,.string ⟨#[]⟩,.int .i64 0,.int .i64 0,.int .i64 0,.int .i64 0,.int .i64 0,.int .i64 0,.slice A acc.length c]) (by simp [results,Tryd.results44,go_sem,q0,q1,q2,q3,q4,q5,q6,q7,q8]) rfl ?_
        have hN4:¬ N w.heap.size:=fun h=>by have:=(HN.out _).1 h;omega
        obtain ⟨A',c',hA',hkids⟩:=((HF2.out.at1 hk hN4).listV (w0:=w) (fun g hg=>by have:=(HN.out g).1 hg;show w.heap.size≤g;omega))
        cases hA'
        refine ⟨Qy.kidsR 5 acc,_,_,rfl,⟨_,rfl,?_⟩,HF.out.2.1.at_ hk (Nat.le_refl _),HF.out.2.2.put hk (by omega),hmd⟩
        unfold Qy.kidsR
        rw [RegAt]
        exact ⟨_,_,rfl,hkids⟩
     ·
      obtain ⟨rfl,hd1,hx59⟩:=hin (by omega)
      obtain ⟨N,hN⟩:∃ N:Nat→Prop,N=fun g=>g6<g:=⟨_,rfl⟩
      have HN:Hid (∀ g,N g↔g6<g):=Lib.hid fun g=>by rw [hN]
      have hNr:¬ N r:=fun h=>by have:=(HN.out r).1 h;omega
      clear hin hN
      obtain ⟨acc,hacc⟩:∃ acc:List Qy.Reg,acc=[]:=⟨_,rfl⟩
      obtain ⟨A,hA⟩:∃ A:Option Addr,A=none:=⟨_,rfl⟩
      obtain ⟨c,hc⟩:∃ c:Nat,c=0:=⟨_,rfl⟩
      have hnil:Value.slice none 0 0=.slice A acc.length c:=by rw [hacc,hA,hc];rfl
      have hrow:KRow 42 N W6 (.slice A acc.length c) acc:=by rw [← hnil,hacc];exact KRow.nil N W6
      rw [hnil] at hG
      have hl0:acc.length=0:=by rw [hacc];rfl
      have HAcc:=Lib.hid hacc
      obtain ⟨y,hy⟩:∃ y,x+1=y:=⟨_,rfl⟩
      rw [hy] at hmk
      have hy3:y≤300:=by omega
      clear hA hc hnil hacc
      have hvx:=hrow.own
      have hvi:∀ g,(Value.slice A acc.length c).ownBlock=some g→g<W6.heap.size:=fun g e=>(hvx g e).2
      have hvn:∀ g,(Value.slice A acc.length c).ownBlock=some g→w.heap.size≤g∧g≠w.heap.size∧g≠g6∧r<g:=fun g e=>by have:=(HN.out g).1 (hvx g e).1;omega
      have hvr:∀ g,(Value.slice A acc.length c).ownBlock=some g→r<g:=fun g e=>(hvn g e).2.2.2
      have hgr:=hG.lt
      have hN5:∀ g,New W6 g→N g:=fun g hg=>(HN.out g).2 (Nat.lt_of_lt_of_le hgr hg)
      have hn1:acc.length+1≤100:=by omega
      have kd:=Below.drew (Below.refl W6.heap.size W6)
      have hJ0:JM r w.heap.size g6 l y [.int .i64 0,.string ⟨#[]⟩,.int .i64 0,.int .i64 0,.int .i64 0,.int .i64 0,.int .i64 0,.int .i64 0,.slice none 0 0] [.int .i64 6,.string ⟨#[]⟩,.int .i64 0,.int .i64 0,.int .i64 0,.int .i64 0,.int .i64 0,.int .i64 0,.slice A acc.length c] N w W6 (.slice A acc.length c) acc (fun _=>False) W6.drew:=⟨hat.trans (At1.of_below kd),Nat.le_refl _,hO4.on kd,hG.on kd,fun _=>hrow.on kd,fun _=>hmk.on kd⟩
      clear hat hO4 hG hrow hmk kd hvx
      clear hl0
      go_upto_region 23 with fail
      refine wp_region_suffixK (JM r w.heap.size g6 l y [.int .i64 0,.string ⟨#[]⟩,.int .i64 0,.int .i64 0,.int .i64 0,.int .i64 0,.int .i64 0,.int .i64 0,.slice none 0 0] [.int .i64 6,.string ⟨#[]⟩,.int .i64 0,.int .i64 0,.int .i64 0,.int .i64 0,.int .i64 0,.int .i64 0,.slice A acc.length c] N w W6 (.slice A acc.length c) acc) 9 [Spec.eq (.pointer (some ⟨g6,8,none⟩)),Spec.eq (.slice A acc.length c),Spec.eq (.pointer (some ⟨r,0,none⟩)),Spec.eq (.int .i64 ((d:Int)+1)),Spec.eq (.int .i64 (d:Int)),sM3 W6 (GM r l d y),sM4 W6 (GM r l d y),sM5 N acc (GM r l d y),Spec.eq (.pointer (some ⟨g6,8,none⟩))]
       (by kernel_rfl) (by kernel_rfl) rfl (by kernel_rfl) (by kernel_rfl) hJ0 ?_ ?_
      ·
       refine RegStepsK.cons ?_ ?_
       ·intro DD az wz hcl hnd hC hdf hF hD K hK;replace hdf:=Lib.hid hdf
        have q6:az.tmps[6]? = some (.pointer (some ⟨g6,0,none⟩)):=hF 6 rfl
        clear hF hD
        refine want_none rfl ?_
        go_simp
        exact hK _ _ (hC.pure (by decide) (by decide)) UpD.refl rfl
       refine RegStepsK.cons ?_ ?_
       ·intro DD az wz hcl hnd hC hdf hF hD K hK;replace hdf:=Lib.hid hdf
        obtain ⟨_,q90,rfl⟩:=dep hD 0 rfl rfl rfl rfl
        have z8:wz.cell? ⟨g6,8,none⟩=some (.slice A acc.length c):=hC.o6.cell 8
        clear hF hD
        refine want_none rfl ?_
        go_simp
        exact hK _ _ (hC.pure (by decide) (by decide)) UpD.refl rfl
       refine RegStepsK.cons ?_ ?_
       ·intro DD az wz hcl hnd hC hdf hF hD K hK;replace hdf:=Lib.hid hdf
        have q0:az.tmps[0]? = some (.pointer (some ⟨r,0,none⟩)):=hF 0 rfl
        clear hF hD
        refine want_none rfl ?_
        go_simp
        exact hK _ _ (hC.pure (by decide) (by decide)) UpD.refl rfl
       refine RegStepsK.cons ?_ ?_
       ·intro DD az wz hcl hnd hC hdf hF hD K hK;replace hdf:=Lib.hid hdf
        have q1:az.tmps[1]? = some (.int .i64 ((d:Int)+1)):=hF 1 rfl
        clear hF hD
        refine want_none rfl ?_
        go_simp
        exact hK _ _ (hC.pure (by decide) (by decide)) UpD.refl rfl
       refine RegStepsK.cons ?_ ?_
       ·intro DD az wz hcl hnd hC hdf hF hD K hK;replace hdf:=Lib.hid hdf
        obtain ⟨_,q93,rfl⟩:=dep hD 3 rfl rfl rfl rfl
        clear hF hD
        refine want_none rfl ?_
        go_simp
        try go_ints
        exact hK _ _ (hC.pure (by decide) (by decide)) UpD.refl rfl
       refine RegStepsK.cons ?_ ?_
       ·intro DD az wz hcl hnd hC hdf hF hD K hK;replace hdf:=Lib.hid hdf
        obtain ⟨_,q92,rfl⟩:=dep hD 2 rfl rfl rfl rfl
        obtain ⟨_,q94,rfl⟩:=dep hD 4 rfl rfl rfl rfl
        have hmk:=hC.ms hnd
        have HJ:=Lib.hid hC
        have HND:=Lib.hid hnd
        have HCL:=Lib.hid hcl
        clear hF hD hC hcl hnd
        refine want_none rfl ?_
        go_simp
        refine (HIH.out hd1 y wz hmk hy3).mono ?_
        rintro e wy ⟨R,y2,v,rfl,hu,kat,hmk2,hmp⟩
        clear hmk
        obtain ⟨cs,rfl,_⟩:=id hu
        exact hK _ _ (HJ.out.call kat hNr hr4 hg6r) (UpD9 (fun h=>absurd h HND.out) (fun h=>absurd (HCL.out 6 _ rfl h 5 rfl) HND.out) (fun h=>absurd (HCL.out 6 _ rfl (HCL.out 7 _ rfl h 6 rfl) 5 rfl) HND.out)) ⟨cs,rfl,R,⟨y2,hmk2,hmp⟩,hu.old HJ.out.sz⟩
       refine RegStepsK.cons ?_ ?_
       ·intro DD az wz hcl hnd hC hdf hF hD K hK;replace hdf:=Lib.hid hdf
        obtain ⟨_,q95,x95,rfl,hx95⟩:=dep hD 5 rfl rfl rfl rfl
        obtain ⟨R3_,hgm,hu⟩:=hx95
        obtain ⟨y0,y1,y2,y3,y4,y5,y6,y7,y8,hcs,one9,hR9,_⟩:=hu.open_
        rw [hcs] at q95
        have kn:=below_new wz (.cells #[y0,y1,y2,y3,y4,y5,y6,y7,y8] 42)
        have HP:=Lib.hid (hC.on kn (i:=6) (by decide))
        have HKN:=Lib.hid kn
        have HCL:=Lib.hid hcl
        have HND:=Lib.hid hnd
        have HGM:=Lib.hid (GM.on hgm kn)
        have HO:=Lib.hid (own_news (Own.new wz 42 [y0,y1,y2,y3,y4,y5,y6,y7,y8]))
        have HR9:=Lib.hid (RegAt.keep kn.size (fun g hg hl=>⟨hg,kn.block g hl⟩) _ _ hR9)
        have HSZ:=Lib.hid hC.sz
        clear hF hD hC hcl hnd hu hR9 kn hcs hgm
        refine want_none rfl ?_
        go_simp
        exact hK _ _ HP.out (UpD9 (fun _ _ hx=>sM3_on hx HKN.out) (fun h=>absurd h HND.out) (fun h=>absurd (HCL.out 7 _ rfl h 6 rfl) HND.out)) ⟨wz.heap.size,rfl,HSZ.out,by simp,R3_,y0,y1,y2,y3,y4,y5,y6,y7,y8,HGM.out,one9,HO.out,HR9.out⟩
       refine RegStepsK.cons ?_ ?_
       ·intro DD az wz hcl hnd hC hdf hF hD K hK;replace hdf:=Lib.hid hdf
        obtain ⟨_,q91,rfl⟩:=dep hD 1 rfl rfl rfl rfl
        obtain ⟨_,q96,x96,rfl,hx96⟩:=dep hD 6 rfl rfl rfl rfl
        obtain ⟨hs1,hs2,R3_,y0,y1,y2,y3,y4,y5,y6,y7,y8,hgm,one9,ho9,hR9⟩:=hx96
        clear hF hD
        refine want_none rfl ?_
        obtain ⟨css,p1,p2,p4,p3⟩:=hC.row hnd
        obtain ⟨i0_,hi_,hz0,hz1,hz2⟩:=info_parts reg_infoF
        refine oper_pushO _ _ _ 40 rfl 42 i0_ (.agg #[.int .i64 0,.string ⟨#[]⟩,.int .i64 0,.int .i64 0,.int .i64 0,.int .i64 0,.int .i64 0,.int .i64 0,.slice none 0 0]) 9 96 Tryd.underlying40 hi_ hz0 hz1 hz2 rfl (by decide) 0 _ _ _ (by simp [Act.eval,q91]) p2 ⟨x96,0,none⟩ 1 [y0,y1,y2,y3,y4,y5,y6,y7,y8] (by simp [Act.eval,q96]) rfl ho9 one9 (by unfold maxLen;omega) (by omega) (Nat.zero_le _) ?_
        intro v' w' hrow3 hgrow hv'
        have hrow4:=KRow.push p1 p4 p3 rfl hR9 hN5 (Nat.le_of_lt (Nat.lt_of_le_of_lt hs1 hs2)) hvi hrow3 hgrow hv'
        obtain ⟨A',c',hA'⟩:=hrow4.slice
        exact hK _ _ (hC.push hgrow hvn) (UpD9 (fun _ _ hx=>sM3_row hx hgrow hvi hvr) (fun _ _ hx=>sM4_row hx hgrow hvi hvr) (fun h=>absurd h hnd)) ⟨v',rfl,R3_,A',c',by simpa using hA',GM.row hgm hgrow hvr,hrow4⟩
       refine RegStepsK.cons ?_ ?_
       ·intro DD az wz hcl hnd hC hdf hF hD K hK;replace hdf:=Lib.hid hdf
        have q6:az.tmps[6]? = some (.pointer (some ⟨g6,0,none⟩)):=hF 6 rfl
        clear hF hD
        refine want_none rfl ?_
        go_simp
        exact hK _ _ (hC.pure (by decide) (by decide)) UpD.refl rfl
       exact RegStepsK.nil
      intro w7 hJ7
      rintro _ rfl _ rfl _ rfl _ rfl _ rfl _ ⟨y95,rfl,_⟩ _ ⟨y96,rfl,_⟩ _ ⟨y97,rfl,hy97⟩ _ rfl
      simp only [List.take,FinOK,Act.put,List.setIfInBounds_toArray,List.set_cons_zero,List.set_cons_succ]
      simp only [List.drop,TailOK]
      obtain ⟨R7,A7,c7,hv7,⟨y7,hmk7,hmp7⟩,hrow7⟩:=hy97
      subst hv7
      have q8:=hJ7.o6.cell 8
      have q9:=hJ7.o6.frozen 8
      have hk:=At1.set_ (r:=g6) w7 (p:=⟨g6,8,none⟩) rfl (.slice A7 (acc.length+1) c7)
      have hN6:¬ N g6:=fun h=>Nat.lt_irrefl _ ((HN.out g6).1 h)
      have HS:=Lib.hid (And.intro (hJ7.at1.at_ hk (Nat.le_of_lt hg46)) (And.intro (hJ7.o4.at1 hk (Nat.ne_of_lt hg46)) (And.intro (hJ7.o6.set_ 8 (.slice A7 (acc.length+1) c7)) (And.intro (hrow7.at1 hk hN6) (hmk7.put hk hrc)))))
      clear hJ7 hk hrow7 hmk7 hJ0
      intro K hK
      refine want_none rfl ?_
      go_simp
      refine hK _ _ ?_
      clear hK K q8 q9
      have HA2:=Lib.hid (show acc++[R7]=[R7] by rw [HAcc.out];rfl)
      have h11:acc.length+1=1:=by rw [HAcc.out];rfl
      obtain ⟨hat,hO4,hG2,hrow,hmk⟩:=HS.out
      clear HS
      revert hat hO4 hG2 hrow hmk
      generalize World.setCell _ _ _=W8
      intro hat hO4 hG2 hrow hmk
      rw [h11] at hG2 hrow
      rw [HA2.out] at hrow
      have HF2:=Lib.hid hrow
      have hG:Own W8 g6 42 [.int .i64 6,.string ⟨#[]⟩,.int .i64 0,.int .i64 0,.int .i64 0,.int .i64 0,.int .i64 0,.int .i64 0,.slice A7 1 c7]:=hG2
      subst hy
      have hmd:Qy.MadeP (d+1) x (Qy.kidsR 6 [R7]) y7:=(show Qy.MadeP (d+1 - 1) (x+1) R7 y7 from hmp7).not_ hx59 (by omega)
      clear hG2 hrow
      obtain ⟨⟨y0,y1,y2,y3,y4,y5,y6,y7,y8⟩,_⟩:=hG.all9
      obtain ⟨⟨z0,z1,z2,z3,z4,z5,z6,z7,z8⟩,f0,f1,f2,f3,f4,f5,f6,f7,f8⟩:=hO4.all9
      have HF:=Lib.hid (And.intro hO4 (And.intro hat hmk))
      clear hG hO4 hat hmk
      go_wp2_with fail
      obtain ⟨hO,hk⟩:=HF.out.1.put9 (x0:=.int .i64 6) (x1:=.string ⟨#[]⟩) (x2:=.int .i64 0) (x3:=.int .i64 0) (x4:=.int .i64 0) (x5:=.int .i64 0) (x6:=.int .i64 0) (x7:=.int .i64 0) (x8:=.slice A7 1 c7)
      clear y0 y1 y2 y3 y4 y5 y6 y7 y8 z0 z1 z2 z3 z4 z5 z6 z7 z8 f0 f1 f2 f3 f4 f5 f6 f7 f8
      revert hO hk
      generalize (((((((((World.setCell _ _ _).setCell _ _).setCell _ _).setCell _ _).setCell _ _).setCell _ _).setCell _ _).setCell _ _).setCell _ _)=W9
      intro hO hk
      obtain ⟨⟨q0,q1,q2,q3,q4,q5,q6,q7,q8⟩,_⟩:=hO.all9
      refine bodyPost_ret (v:=.agg #[.int .i64 6,.string ⟨#[]⟩,.int .i64 0,.int .i64 0,.int .i64 0,.int .i64 0,.int .i64 0,.int .i64 0,.slice A7 1 c7]) (by simp [results,Tryd.results44,go_sem,q0,q1,q2,q3,q4,q5,q6,q7,q8]) rfl ?_
      have hN4:¬ N w.heap.size:=fun h=>by have:=(HN.out _).1 h;omega
      obtain ⟨A',c',hA',hkids⟩:=((HF2.out.at1 hk hN4).listV (w0:=w) (fun g hg=>by have:=(HN.out g).1 hg;show w.heap.size≤g;omega))
      cases hA'
      refine ⟨Qy.kidsR 6 [R7],_,_,rfl,⟨_,rfl,?_⟩,HF.out.2.1.at_ hk (Nat.le_refl _),HF.out.2.2.put hk (by omega),hmd⟩
      unfold Qy.kidsR
      rw [RegAt]
      exact ⟨_,_,rfl,hkids⟩
end Go.Proofs.YtmlpibdincfgbaaDoor
