/-
  Package query: regions: what a reading function gives, appended kids.
-/
import Derived.Test.YtmlpibdincfgbaaDoorK10
import Derived.Test.YtmlpibdincfgbaaDoorK7
namespace Go.Proofs.YtmlpibdincfgbaaDoor
open Go.RowKit
section
variable {P:Program} (w:World)
theorem run_pushO (t ty e:TypeId) (i:TypeInfo) (z:Value) (sz bytes:Nat) (ht:P.underlying t=some (.slice e)) (hi:P.info? e=some i) (hz:i.zero=some z) (hsize:i.size=sz) (hby:i.bytes=bytes) (hzs:z.cells.size=sz) (hsz:0<sz)
 (B:Nat) (v:Value) (n:Nat) (xs:List Value) (hown:w.ownsRow B e sz v n xs)
 (a:Addr) (c:Nat) (news:List Value) (hl:news.length=sz) (hnews:∀ j u,news[j]? = some u→w.cell? (a.add j)=some u) (h1:∀ u∈news,u.oneCell'=true)
 (h63:n+1≤maxLen) (hbytes:(n+1) * bytes≤140737488355328) (hB:B≤w.heap.size) :
 ∃ v' w',(Builtin.append_ #[t,t] ty #[v,.slice (some a) 1 c]).run P w=.ok v' w'∧w'.ownsRow B e sz v' (n+1) (xs++news)∧w.grownBy w' v.ownBlock∧(v'.ownBlock=v.ownBlock∨v'.ownBlock=some w.heap.size):=by
 subst hsize
 subst hby
 have hsmall:n+1≤9223372036854775807:=by simp only [maxLen] at h63;omega
 have hl1:news.length=1 * i.size:=by omega
 have hlen:(xs++news).length=(n+1) * i.size:=by rw [List.length_append,hown.1,hl,Nat.add_mul,Nat.one_mul]
 have grown:∀ (old:Nat),old<n+1→∀ (row:Option Nat),
  (w.drew.alloc (.cells (xs.toArray++news.toArray++Builtin.zeroCells z.cells (grownCap w (n+1) old e - (n+1))) e)).ownsRow B e i.size
   (.slice (Option.some ⟨w.heap.size,0,none⟩) (n+1) (grownCap w (n+1) old e)) (n+1) (xs++news)∧
  w.grownBy (w.drew.alloc (.cells (xs.toArray++news.toArray++Builtin.zeroCells z.cells (grownCap w (n+1) old e - (n+1))) e)) row:=by
  intro old ho row
  have hge:=grownCap_ge w (n+1) old e
  have hcm:grownCap w (n+1) old e≤maxLen:=grownCap_le_maxLen w (n+1) old e h63
  refine ⟨⟨hlen,.inr ⟨w.heap.size,_,_,rfl,hB,heap_alloc_new w.drew _,hge,hcm,?_,?_⟩⟩,⟨rfl,rfl,rfl,by simp,fun k hk _=>heap_alloc_old w.drew _ (by first | exact hk | assumption)⟩⟩
  ·simp only [Array.size_append,List.size_toArray,size_zeroCells,hzs,hown.1,hl1,← Nat.add_mul]
   congr 1
   omega
  ·simp only [Array.toList_append,List.append_assoc]
   rw [← List.append_assoc,← hlen]
   exact List.take_left
 rcases hown.2 with ⟨rfl,rfl⟩ | ⟨g,cap,cur,rfl,hbg,hg,hnc,hcm,hcs,htake⟩
 ·have hx:xs=[]:=List.eq_nil_of_length_eq_zero (by simpa using hown.1)
  subst hx
  have hr:=run_append_nil (P:=P) w t ty e i z ht hi hz a 1 c news hl1 hnews (by omega) (by omega) (by have hb:=hbytes;simp only [Nat.zero_add] at hb;omega)
  have hgr:=grown 0 (by omega) (Value.ownBlock (.slice none 0 0))
  simp only [Nat.zero_add,List.nil_append,Array.empty_append] at hgr ⊢
  exact ⟨_,_,hr,hgr.1,hgr.2,.inr rfl⟩
 ·by_cases hroom:n+1≤cap
  ·have hfit:n * i.size+news.length≤cur.size:=by rw [hl1,hcs,← Nat.add_mul];exact Nat.mul_le_mul_right _ hroom
   have hr:=run_append_room (P:=P) w t ty e i ht hi g n cap cur hg a 1 c news hl1 hnews h1 hroom hfit
   refine ⟨_,_,hr,⟨hlen,.inr ⟨g,cap,_,rfl,hbg,setRow_heap w g cur _ e _ hg,hroom,hcm,?_,?_⟩⟩,⟨rfl,rfl,rfl,by simp,fun k _ hk=>setRow_other w g k _ (fun e=>hk (by simp [Value.ownBlock,e]))⟩,.inl rfl⟩
   ·simp only [List.size_toArray,List.length_append,List.length_take,List.length_drop,Array.length_toList]
    omega
   ·rw [htake,← hlen]
    exact List.take_left
  ·have holds:∀ j u,xs[j]? = some u→w.cell? ((⟨g,0,none⟩:Addr).add j)=some u:=fun j u hj=>by
    have hj':j<n * i.size:=by
     rw [← hown.1]
     rcases Nat.lt_or_ge j xs.length with h | h
     ·exact h
     ·rw [List.getElem?_eq_none h] at hj;cases hj
    rw [← htake,List.getElem?_take_of_lt hj'] at hj
    rw [Addr.add_lit,Nat.zero_add]
    simpa [World.cell?,hg] using hj
   have hr:=run_append_grow (P:=P) w t ty e i z ht hi hz ⟨g,0,none⟩ n cap xs hown.1 holds a 1 c news hl1 hnews (by omega) (by omega) (growslice_fits (by omega) hbytes)
   have hgr:=grown cap (by omega) (Value.ownBlock (.slice (Option.some ⟨g,0,none⟩) n cap))
   exact ⟨_,_,hr,hgr.1,hgr.2,.inr rfl⟩
theorem oper_pushO {K:Act→World→Prop} {o:Oper} {ac:Act} {Q:Exit→Act→World→Prop} (s x:Operand) (t:TypeId)
 (ho:o.op=.call { callee:=.builtin .append,args:=#[s,x],argTypes:=#[t,t] })
 (e:TypeId) (i:TypeInfo) (z:Value) (sz bytes:Nat) (ht:P.underlying t=some (.slice e)) (hi:P.info? e=some i) (hz:i.zero=some z) (hsize:i.size=sz) (hby:i.bytes=bytes) (hzs:z.cells.size=sz) (hsz:0<sz)
 (B:Nat) (v:Value) (n:Nat) (xs:List Value) (hs:ac.eval s=v) (hown:w.ownsRow B e sz v n xs)
 (a:Addr) (c:Nat) (news:List Value) (hx:ac.eval x=.slice (some a) 1 c) (hl:news.length=sz) (hnews:∀ j u,news[j]? = some u→w.cell? (a.add j)=some u) (h1:∀ u∈news,u.oneCell'=true)
 (h63:n+1≤maxLen) (hbytes:(n+1) * bytes≤140737488355328) (hB:B≤w.heap.size)
 (h:∀ v' w',w'.ownsRow B e sz v' (n+1) (xs++news)→w.grownBy w' v.ownBlock→(v'.ownBlock=v.ownBlock∨v'.ownBlock=some w.heap.size)→K (ac.put o.dst v') w') :
 Oper.wp P o ac w K Q:=by
 obtain ⟨v',w',hr,h2,h3,h4⟩:=run_pushO (P:=P) w t o.type e i z sz bytes ht hi hz hsize hby hzs hsz B v n xs hown a c news hl hnews h1 h63 hbytes hB
 unfold Oper.wp execOp
 simp only [ho,resolve,invoke,builtin,Sem.run_bind,Sem.run_pure,Result.andThen_ok,List.map_toArray,List.map_cons,List.map_nil,hs,hx,hr]
 exact h v' w' h2 h3 h4
theorem wpList_pushO {ops:Array Oper} {rest:List Oper} {o:Oper} {ac:Act} {Q:Exit→Act→World→Prop} (hgd:o.guard=none) (s x:Operand) (t:TypeId)
 (ho:o.op=.call { callee:=.builtin .append,args:=#[s,x],argTypes:=#[t,t] })
 (e:TypeId) (i:TypeInfo) (z:Value) (sz bytes:Nat) (ht:P.underlying t=some (.slice e)) (hi:P.info? e=some i) (hz:i.zero=some z) (hsize:i.size=sz) (hby:i.bytes=bytes) (hzs:z.cells.size=sz) (hsz:0<sz)
 (B:Nat) (v:Value) (n:Nat) (xs:List Value) (hs:ac.eval s=v) (hown:w.ownsRow B e sz v n xs)
 (a:Addr) (c:Nat) (news:List Value) (hx:ac.eval x=.slice (some a) 1 c) (hl:news.length=sz) (hnews:∀ j u,news[j]? = some u→w.cell? (a.add j)=some u) (h1:∀ u∈news,u.oneCell'=true)
 (h63:n+1≤maxLen) (hbytes:(n+1) * bytes≤140737488355328) (hB:B≤w.heap.size)
 (h:∀ v' w',w'.ownsRow B e sz v' (n+1) (xs++news)→w.grownBy w' v.ownBlock→(v'.ownBlock=v.ownBlock∨v'.ownBlock=some w.heap.size)→wpList P ops Q rest (ac.put o.dst v') w') :
 wpList P ops Q (o :: rest) ac w:=by
 refine wpList_plain hgd fun K hK=>?_
 exact oper_pushO (P:=P) w s x t ho e i z sz bytes ht hi hz hsize hby hzs hsz B v n xs hs hown a c news hx hl hnews h1 h63 hbytes hB fun v' w' h2 h3 h4=>hK _ _ (h v' w' h2 h3 h4)
end
def New (w:World) (g:Nat):Prop:=w.heap.size≤g
def regCells (R:Qy.Reg) (A:Option Addr) (c:Nat):List Value:=match R with
 | .mk k nm ax ay b0 b1 b2 b3 kids=>[.int .i64 k,.string (bs nm),.int .i64 ax,.int .i64 ay,.int .i64 b0,.int .i64 b1,.int .i64 b2,.int .i64 b3,.slice A kids.length c]
theorem RegAt.cells {w:World} {S:Nat→Prop} {cs:List Value} {R:Qy.Reg} (h:RegAt w S cs R):∃ A c,cs=regCells R A c∧KidsAt w S A 0 R.kids:=by
 obtain ⟨k,nm,ax,ay,b0,b1,b2,b3,kids⟩:=R
 rw [RegAt] at h
 exact h
theorem RegAt.of {w:World} {S:Nat→Prop} {R:Qy.Reg} {A:Option Addr} {c:Nat} (h:KidsAt w S A 0 R.kids):RegAt w S (regCells R A c) R:=by
 obtain ⟨k,nm,ax,ay,b0,b1,b2,b3,kids⟩:=R
 rw [RegAt]
 exact ⟨A,c,rfl,h⟩
theorem regCells_len (R:Qy.Reg) (A:Option Addr) (c:Nat):(regCells R A c).length=9:=by
 obtain ⟨k,nm,ax,ay,b0,b1,b2,b3,kids⟩:=R
 rfl
def regV (w0:World) (R:Qy.Reg) (v:Value) (w:World):Prop:=∃ cs,v=.agg cs.toArray∧RegAt w (New w0) cs R
theorem RegAt.at1 {w0 w w':World} {r:Nat} {cs:List Value} {R:Qy.Reg} (h:RegAt w (New w0) cs R) (k:At1 r w w') (hr:r<w0.heap.size):RegAt w' (New w0) cs R:=
 RegAt.keep k.size (fun g hg hl=>⟨hg,k.heap hl (fun e=>by unfold New at hg;omega)⟩) cs R h
def KRow (T:TypeId) (N:Nat→Prop) (w:World) (v:Value) (l:List Qy.Reg):Prop:=
 ∃ css:List (List Value),css.length=l.length∧w.ownsRow 0 T 9 v l.length css.flatten∧(∀ g,v.ownBlock=some g→N g)∧∀ (j:Nat) (cs:List Value) (R:Qy.Reg),css[j]? = some cs→l[j]? = some R→cs.length=9∧RegAt w (fun g=>N g∧v.ownBlock≠some g) cs R
theorem KRow.nil {T:TypeId} (N:Nat→Prop) (w:World):KRow T N w (.slice none 0 0) []:=by
 refine ⟨[],rfl,World.ownsRow_nil w 0 T 9,fun g h=>(by cases h),fun j cs R h=>?_⟩
 simp at h
theorem KRow.at1 {T:TypeId} {N:Nat→Prop} {w w':World} {r:Nat} {v:Value} {l:List Qy.Reg} (h:KRow T N w v l) (k:At1 r w w') (hr:¬ N r):KRow T N w' v l:=by
 obtain ⟨css,h1,h2,h3,h4⟩:=h
 refine ⟨css,h1,⟨h2.1,?_⟩,h3,fun j cs R hj hR=>⟨(h4 j cs R hj hR).1,RegAt.keep k.size (fun g hg hl=>⟨hg,k.heap hl (fun e=>hr (e▸hg.1))⟩) cs R (h4 j cs R hj hR).2⟩⟩
 rcases h2.2 with h | ⟨g,cap,cur,e,k2,k3,k4⟩
 ·exact .inl h
 ·exact .inr ⟨g,cap,cur,e,k2,(k.heap (heap_lt k3) (fun e2=>hr (e2▸h3 g (by rw [e];rfl)))).trans k3,k4⟩
theorem KRow.on {T:TypeId} {N:Nat→Prop} {w w':World} {v:Value} {l:List Qy.Reg} (h:KRow T N w v l) (k:Below w.heap.size w w'):KRow T N w' v l:=by
 obtain ⟨css,h1,h2,h3,h4⟩:=h
 refine ⟨css,h1,⟨h2.1,?_⟩,h3,fun j cs R hj hR=>⟨(h4 j cs R hj hR).1,RegAt.keep k.size (fun g hg hl=>⟨hg,k.block g hl⟩) cs R (h4 j cs R hj hR).2⟩⟩
 rcases h2.2 with h | ⟨g,cap,cur,e,k2,k3,k4⟩
 ·exact .inl h
 ·exact .inr ⟨g,cap,cur,e,k2,(k.block g (heap_lt k3)).trans k3,k4⟩
theorem KRow.push {T:TypeId} {N:Nat→Prop} {wi w1 w2:World} {v v':Value} {l:List Qy.Reg} {css:List (List Value)} {cs:List Value} {R:Qy.Reg} (h1:css.length=l.length) (h3:∀ g,v.ownBlock=some g→N g)
 (h4:∀ (j:Nat) (cs:List Value) (R:Qy.Reg),css[j]? = some cs→l[j]? = some R→cs.length=9∧RegAt w1 (fun g=>N g∧v.ownBlock≠some g) cs R) (hc:cs.length=9) (hR:RegAt w1 (New wi) cs R) (hwi:∀ g,New wi g→N g) (hz:wi.heap.size≤w1.heap.size)
 (hvi:∀ g,v.ownBlock=some g→g<wi.heap.size) (ho:w2.ownsRow 0 T 9 v' (l.length+1) (css.flatten++cs)) (hg:w1.grownBy w2 v.ownBlock)
 (hv:v'.ownBlock=v.ownBlock∨v'.ownBlock=some w1.heap.size):KRow T N w2 v' (l++[R]):=by
 have hne:∀ g,v.ownBlock≠some g→g<w1.heap.size→v'.ownBlock≠some g:=fun g h k e=>by
  rcases hv with e2 | e2
  ·exact h (e2.symm.trans e)
  ·rw [e2] at e
   injection e with e
   omega
 refine ⟨css++[cs],by simp [h1],by simpa using ho,fun g hg=>?_,fun j cs' R' hj hR'=>?_⟩
 ·rcases hv with e2 | e2
  ·exact h3 g (e2.symm.trans hg)
  ·rw [e2] at hg
   injection hg with hg
   exact hwi g (by unfold New;omega)
 rcases Nat.lt_or_ge j l.length with hlt | hge
 ·rw [List.getElem?_append_left (by omega)] at hj hR'
  obtain ⟨k1,k2⟩:=h4 j cs' R' hj hR'
  exact ⟨k1,RegAt.keep hg.size (fun g hg' hl=>⟨⟨hg'.1,hne g hg'.2 hl⟩,hg.block g hl (fun e=>hg'.2 e.symm)⟩) cs' R' k2⟩
 ·rw [List.getElem?_append_right (by omega)] at hj hR'
  have hj0:j - l.length=0:=by
   have:=(List.getElem?_eq_some_iff.1 hR').1
   simp at this
   omega
  rw [h1,hj0] at hj
  rw [hj0] at hR'
  simp only [List.getElem?_cons_zero,Option.some.injEq] at hj hR'
  subst hj
  subst hR'
  have hown:∀ g,New wi g→v.ownBlock≠some g:=fun g hg' e=>by
   have:=hvi g e
   unfold New at hg'
   omega
  exact ⟨hc,RegAt.keep hg.size (fun g hg' hl=>⟨⟨hwi g hg',hne g (hown g hg') hl⟩,hg.block g hl (fun e=>hown g hg' e.symm)⟩) cs R hR⟩
end Go.Proofs.YtmlpibdincfgbaaDoor
/-
 (second part)
-/
namespace Go.Proofs.YtmlpibdincfgbaaDoor
open Go.RowKit
theorem own_news {w:World} {g:Nat} {t:TypeId} {xs:List Value} (h:Own w g t xs):∀ j u,xs[j]? = some u→w.cell? ((⟨g,0,none⟩:Addr).add j)=some u:=by
 intro j u hu
 have hadd:(⟨g,0,none⟩:Addr).add j=⟨g,j,none⟩:=by unfold Addr.add;split <;> simp_all
 rw [hadd,h.cell,hu]
theorem KRow.one {T:TypeId} {N:Nat→Prop} {w:World} {R:Qy.Reg} {A:Option Addr} {c:Nat} (h:RegAt w N (regCells R A c) R) (hN:N w.heap.size) :
 KRow T N (w.alloc (.cells (regCells R A c).toArray T)) (.slice (some ⟨w.heap.size,0,none⟩) 1 1) [R]:=by
 have hl:=regCells_len R A c
 refine ⟨[regCells R A c],rfl,⟨by simp [hl],.inr ⟨w.heap.size,1,(regCells R A c).toArray,rfl,Nat.zero_le _,heap_alloc_new w _,Nat.le_refl _,by unfold maxLen;omega,by simp [hl],?_⟩⟩,fun g hg=>(by cases hg;exact hN),fun j cs R' hj hR=>?_⟩
 ·simp only [List.flatten_cons,List.flatten_nil,List.append_nil]
  exact List.take_of_length_le (by simp [hl])
 ·match j with
  | 0=>
   simp only [List.getElem?_cons_zero,Option.some.injEq] at hj hR
   subst hj
   subst hR
   have hb:Below w.heap.size w (w.alloc (.cells (regCells R A c).toArray T)):=below_new w _
   exact ⟨hl,RegAt.keep hb.size (fun g hg hl=>⟨⟨hg,fun e=>by cases e;exact absurd hl (Nat.lt_irrefl _)⟩,hb.block g hl⟩) _ _ h⟩
  | j+1=>simp at hj
theorem flatten_at:∀ (css:List (List Value)) (j i:Nat) (cs:List Value),(∀ c∈css,c.length=9)→css[j]? = some cs→i<9→css.flatten[j * 9+i]? = cs[i]?
 | [],j,i,cs,_,h,_=>by simp at h
 | c :: css,0,i,cs,hl,h,hi=>by
  simp only [List.getElem?_cons_zero,Option.some.injEq] at h
  subst h
  rw [List.flatten_cons,List.getElem?_append_left (by have:=hl c (by simp);omega)]
  simp
 | c :: css,j+1,i,cs,hl,h,hi=>by
  have h9:=hl c (by simp)
  rw [List.flatten_cons,List.getElem?_append_right (by omega),h9,show (j+1) * 9+i - 9=j * 9+i by omega]
  exact flatten_at css j i cs (fun x hx=>hl x (List.mem_cons_of_mem _ hx)) (by simpa using h) hi
theorem kids_of {w:World} {S:Nat→Prop} {g:Nat} (hS:S g) (hg:g<w.heap.size):∀ (l:List Qy.Reg) (css:List (List Value)) (i:Nat),css.length=l.length→
 (∀ (j k:Nat) (cs:List Value) (v:Value),css[j]? = some cs→cs[k]? = some v→w.cell? ⟨g,(i+j) * 9+k,none⟩=some v)→(∀ (j:Nat) (cs:List Value) (R:Qy.Reg),css[j]? = some cs→l[j]? = some R→RegAt w S cs R)→KidsAt w S (some ⟨g,0,none⟩) i l
 | [],_,i,_,_,_=>by rw [KidsAt];trivial
 | R :: l,[],i,hl,_,_=>by simp at hl
 | R :: l,cs :: css,i,hl,hc,hr=>by
  rw [KidsAt]
  refine ⟨⟨g,0,cs,rfl,hS,hg,fun j v hj=>?_,hr 0 cs R rfl rfl⟩,kids_of hS hg l css (i+1) (by simpa using hl) (fun j k cs' v hj hv=>?_) fun j cs' R' hj hR=>hr (j+1) cs' R' (by simpa using hj) (by simpa using hR)⟩
  ·have:=hc 0 j cs v rfl hj
   rwa [Nat.add_zero,← Nat.zero_add (i * 9)] at this
  ·have:=hc (j+1) k cs' v (by simpa using hj) hv
   rwa [show i+(j+1)=i+1+j by omega] at this
def listV (w0:World) (l:List Qy.Reg) (v:Value) (w:World):Prop:=∃ A c,v=.slice A l.length c∧KidsAt w (New w0) A 0 l
theorem listV.at1 {w0 w w':World} {r:Nat} {v:Value} {l:List Qy.Reg} (h:listV w0 l v w) (k:At1 r w w') (hr:r<w0.heap.size):listV w0 l v w':=by
 obtain ⟨A,c,h1,h2⟩:=h
 exact ⟨A,c,h1,KidsAt.keep k.size (fun g hg hl=>⟨hg,k.heap hl (fun e=>by unfold New at hg;omega)⟩) A 0 l h2⟩
theorem KRow.listV {T:TypeId} {N:Nat→Prop} {w0 w:World} {v:Value} {l:List Qy.Reg} (h:KRow T N w v l) (hN:∀ g,N g→New w0 g):listV w0 l v w:=by
 obtain ⟨css,h1,h2,h3,h4⟩:=h
 rcases h2.2 with ⟨rfl,h0⟩ | ⟨g,cap,cur,rfl,hb,hg,hnc,hcm,hcs,htake⟩
 ·have:l=[]:=List.eq_nil_of_length_eq_zero h0
  subst this
  exact ⟨none,0,rfl,by rw [KidsAt];trivial⟩
 ·have hall:∀ c∈css,c.length=9:=fun c hc=>by
   obtain ⟨j,hj⟩:=List.mem_iff_getElem?.1 hc
   have hjl:j<l.length:=by rw [← h1];exact (List.getElem?_eq_some_iff.1 hj).1
   exact (h4 j c l[j] hj (List.getElem?_eq_getElem hjl)).1
  refine ⟨some ⟨g,0,none⟩,cap,rfl,kids_of (hN g (h3 g rfl)) (heap_lt hg) l css 0 h1 (fun j k cs v hj hv=>?_) fun j cs R hj hR=>RegAt.keep (Nat.le_refl _) (fun g hg _=>⟨hN g hg.1,rfl⟩) cs R (h4 j cs R hj hR).2⟩
  have hjl:j<l.length:=by rw [← h1];exact (List.getElem?_eq_some_iff.1 hj).1
  have hk:k<9:=by
   have:=(List.getElem?_eq_some_iff.1 hv).1
   rw [hall cs (List.mem_of_getElem? hj)] at this
   exact this
  rw [Nat.zero_add]
  have e:=flatten_at css j k cs hall hj hk
  rw [hv,← htake,List.getElem?_take_of_lt (by omega)] at e
  simpa [World.cell?,hg] using e
theorem KRow.own {T:TypeId} {N:Nat→Prop} {w:World} {v:Value} {l:List Qy.Reg} (h:KRow T N w v l):∀ k,v.ownBlock=some k→N k∧k<w.heap.size:=by
 obtain ⟨css,h1,h2,h3,h4⟩:=h
 exact fun k hk=>⟨h3 k hk,(h2.lt k hk).2⟩
def restLen (r:Nat) (w:World):Nat:=match w.cell? ⟨r,2,none⟩ with
 | some (.slice _ n _)=>n
 | _=>0
theorem RdAt.len {B r:Nat} {l:List Qy.Tok} {w:World} (h:RdAt B r l w):restLen r w+1=l.length:=by
 obtain ⟨_,_,t,rest,A,c,rfl,hO,_⟩:=h
 unfold restLen
 rw [hO.c2]
 rfl
theorem At1.row {w0 w w':World} {r:Nat} {v:Value} (h:At1 r w0 w) (k:w.grownBy w' v.ownBlock) (hv:∀ g,v.ownBlock=some g→w0.heap.size≤g):At1 r w0 w':=
 ⟨k.os.trans h.os,k.tape.trans h.tape,k.output.trans h.output,Nat.le_trans h.size k.size,fun j hj hr=>(k.block j (Nat.lt_of_lt_of_le hj h.size) (fun e=>by have:=hv j e.symm;omega)).trans (h.block j hj hr)⟩
theorem RdAt.row {B r:Nat} {l:List Qy.Tok} {w w':World} {v:Value} (h:RdAt B r l w) (k:w.grownBy w' v.ownBlock) (hv:∀ g,v.ownBlock=some g→B≤g):RdAt B r l w':=
 h.keep k.size fun g hg=>k.block g (by have:=h.2.1;omega) (fun e=>by have:=hv g e.symm;omega)
theorem At1.at_ {w0 w w':World} {r g:Nat} (h:At1 r w0 w) (k:At1 g w w') (hg:w0.heap.size≤g):At1 r w0 w':=
 ⟨k.os.trans h.os,k.tape.trans h.tape,k.output.trans h.output,Nat.le_trans h.size k.size,fun j hj hr=>(k.heap (Nat.lt_of_lt_of_le hj h.size) (fun e=>by omega)).trans (h.block j hj hr)⟩
theorem RdAt.at_ {B r g:Nat} {l:List Qy.Tok} {w w':World} (h:RdAt B r l w) (k:At1 g w w') (hg:B≤g):RdAt B r l w':=
 h.keep k.size fun j hj=>k.heap (by have:=h.2.1;omega) (by omega)
section
variable {w:World} {g:Nat} {t:TypeId} {z0 z1 z2 z3 z4 z5 z6 z7 z8:Value}
theorem Own.all9 (h:Own w g t [z0,z1,z2,z3,z4,z5,z6,z7,z8]):(w.cell? ⟨g,0,none⟩=some z0∧w.cell? ⟨g,1,none⟩=some z1∧w.cell? ⟨g,2,none⟩=some z2∧w.cell? ⟨g,3,none⟩=some z3∧w.cell? ⟨g,4,none⟩=some z4∧w.cell? ⟨g,5,none⟩=some z5∧w.cell? ⟨g,6,none⟩=some z6∧w.cell? ⟨g,7,none⟩=some z7∧w.cell? ⟨g,8,none⟩=some z8)∧
 (w.frozen? ⟨g,0,none⟩=false∧w.frozen? ⟨g,1,none⟩=false∧w.frozen? ⟨g,2,none⟩=false∧w.frozen? ⟨g,3,none⟩=false∧w.frozen? ⟨g,4,none⟩=false∧w.frozen? ⟨g,5,none⟩=false∧w.frozen? ⟨g,6,none⟩=false∧w.frozen? ⟨g,7,none⟩=false∧w.frozen? ⟨g,8,none⟩=false):=
 ⟨⟨h.cell 0,h.cell 1,h.cell 2,h.cell 3,h.cell 4,h.cell 5,h.cell 6,h.cell 7,h.cell 8⟩,h.frozen 0,h.frozen 1,h.frozen 2,h.frozen 3,h.frozen 4,h.frozen 5,h.frozen 6,h.frozen 7,h.frozen 8⟩
theorem Own.put9 {x0 x1 x2 x3 x4 x5 x6 x7 x8:Value} (h:Own w g t [z0,z1,z2,z3,z4,z5,z6,z7,z8]):Own (((((((((w.setCell ⟨g,0,none⟩ x0).setCell ⟨g,1,none⟩ x1).setCell ⟨g,2,none⟩ x2).setCell ⟨g,3,none⟩ x3).setCell ⟨g,4,none⟩ x4).setCell ⟨g,5,none⟩ x5).setCell ⟨g,6,none⟩ x6).setCell ⟨g,7,none⟩ x7).setCell ⟨g,8,none⟩ x8) g t [x0,x1,x2,x3,x4,x5,x6,x7,x8]∧At1 g w (((((((((w.setCell ⟨g,0,none⟩ x0).setCell ⟨g,1,none⟩ x1).setCell ⟨g,2,none⟩ x2).setCell ⟨g,3,none⟩ x3).setCell ⟨g,4,none⟩ x4).setCell ⟨g,5,none⟩ x5).setCell ⟨g,6,none⟩ x6).setCell ⟨g,7,none⟩ x7).setCell ⟨g,8,none⟩ x8):=
 ⟨((((((((h.set_ 0 x0).set_ 1 x1).set_ 2 x2).set_ 3 x3).set_ 4 x4).set_ 5 x5).set_ 6 x6).set_ 7 x7).set_ 8 x8,
  ((((((((At1.set_ w (p:=⟨g,0,none⟩) rfl x0).trans (At1.set_ _ (p:=⟨g,1,none⟩) rfl x1)).trans (At1.set_ _ (p:=⟨g,2,none⟩) rfl x2)).trans (At1.set_ _ (p:=⟨g,3,none⟩) rfl x3)).trans (At1.set_ _ (p:=⟨g,4,none⟩) rfl x4)).trans (At1.set_ _ (p:=⟨g,5,none⟩) rfl x5)).trans (At1.set_ _ (p:=⟨g,6,none⟩) rfl x6)).trans (At1.set_ _ (p:=⟨g,7,none⟩) rfl x7)).trans (At1.set_ _ (p:=⟨g,8,none⟩) rfl x8)⟩
theorem wp_put9 {P:Program} {Q:Exit→Act→World→Prop} {a:Act} {c:Code} {x0 x1 x2 x3 x4 x5 x6 x7 x8:Value} (h:Own w g t [z0,z1,z2,z3,z4,z5,z6,z7,z8]) (k:∀ W,Own W g t [x0,x1,x2,x3,x4,x5,x6,x7,x8]→At1 g w W→c.wp P Q a W):c.wp P Q a (((((((((w.setCell ⟨g,0,none⟩ x0).setCell ⟨g,1,none⟩ x1).setCell ⟨g,2,none⟩ x2).setCell ⟨g,3,none⟩ x3).setCell ⟨g,4,none⟩ x4).setCell ⟨g,5,none⟩ x5).setCell ⟨g,6,none⟩ x6).setCell ⟨g,7,none⟩ x7).setCell ⟨g,8,none⟩ x8):=
 k _ h.put9.1 h.put9.2
end
theorem reg_info:(Tryd.prog.info? 32).map (fun i=>(i.zero,i.size,i.bytes))=some (some (.agg #[.int .i64 0,.string ⟨#[]⟩,.int .i64 0,.int .i64 0,.int .i64 0,.int .i64 0,.int .i64 0,.int .i64 0,.slice none 0 0]),9,96):=by kernel_rfl
theorem regCells_lit (R:Qy.Reg) (A:Option Addr) (c:Nat):∃ x0 x1 x2 x3 x4 x5 x6 x7 x8,regCells R A c=[x0,x1,x2,x3,x4,x5,x6,x7,x8]∧∀ u∈[x0,x1,x2,x3,x4,x5,x6,x7,x8],u.oneCell'=true:=by
 obtain ⟨k,nm,ax,ay,b0,b1,b2,b3,kids⟩:=R
 exact ⟨_,_,_,_,_,_,_,_,_,rfl,by simp [Value.oneCell']⟩
theorem regV.open_ {w0 w:World} {R:Qy.Reg} {v:Value} (h:regV w0 R v w):∃ x0 x1 x2 x3 x4 x5 x6 x7 x8,v=.agg #[x0,x1,x2,x3,x4,x5,x6,x7,x8]∧(∀ u∈[x0,x1,x2,x3,x4,x5,x6,x7,x8],u.oneCell'=true)∧RegAt w (New w0) [x0,x1,x2,x3,x4,x5,x6,x7,x8] R∧
 ∀ (T:TypeId) (N:Nat→Prop),(∀ g,New w0 g→N g)→N w.heap.size→KRow T N (w.alloc (.cells #[x0,x1,x2,x3,x4,x5,x6,x7,x8] T)) (.slice (some ⟨w.heap.size,0,none⟩) 1 1) [R]:=by
 obtain ⟨cs,rfl,hR⟩:=h
 obtain ⟨A,c,rfl,_⟩:=hR.cells
 obtain ⟨x0,x1,x2,x3,x4,x5,x6,x7,x8,e,h1⟩:=regCells_lit R A c
 refine ⟨x0,x1,x2,x3,x4,x5,x6,x7,x8,by rw [e],h1,e▸hR,fun T N hN hz=>?_⟩
 have:=KRow.one (T:=T) (RegAt.keep (Nat.le_refl _) (fun g hg _=>⟨hN g hg,rfl⟩) _ _ hR) hz
 rw [e] at this
 exact this
theorem regCells_parts (R:Qy.Reg) (A:Option Addr) (c:Nat):∃ n0 s1 n2 n3 n4 n5 n6 n7 l8,regCells R A c=[.int .i64 n0,.string s1,.int .i64 n2,.int .i64 n3,.int .i64 n4,.int .i64 n5,.int .i64 n6,.int .i64 n7,.slice A l8 c]:=by
 obtain ⟨k,nm,ax,ay,b0,b1,b2,b3,kids⟩:=R
 exact ⟨_,_,_,_,_,_,_,_,_,rfl⟩
theorem regV.lit {w0 w:World} {R:Qy.Reg} {v:Value} (h:regV w0 R v w):∃ n0 s1 n2 n3 n4 n5 n6 n7 A8 l8 c8,v=.agg #[.int .i64 n0,.string s1,.int .i64 n2,.int .i64 n3,.int .i64 n4,.int .i64 n5,.int .i64 n6,.int .i64 n7,.slice A8 l8 c8]∧
 RegAt w (New w0) [.int .i64 n0,.string s1,.int .i64 n2,.int .i64 n3,.int .i64 n4,.int .i64 n5,.int .i64 n6,.int .i64 n7,.slice A8 l8 c8] R∧∀ (T:TypeId) (w':World) (N:Nat→Prop),RegAt w' N [.int .i64 n0,.string s1,.int .i64 n2,.int .i64 n3,.int .i64 n4,.int .i64 n5,.int .i64 n6,.int .i64 n7,.slice A8 l8 c8] R→N w'.heap.size→
  KRow T N (w'.alloc (.cells #[.int .i64 n0,.string s1,.int .i64 n2,.int .i64 n3,.int .i64 n4,.int .i64 n5,.int .i64 n6,.int .i64 n7,.slice A8 l8 c8] T)) (.slice (some ⟨w'.heap.size,0,none⟩) 1 1) [R]:=by
 obtain ⟨cs,rfl,hR⟩:=h
 obtain ⟨A,c,rfl,_⟩:=hR.cells
 obtain ⟨n0,s1,n2,n3,n4,n5,n6,n7,l8,e⟩:=regCells_parts R A c
 refine ⟨n0,s1,n2,n3,n4,n5,n6,n7,A,l8,c,by rw [e],e▸hR,fun T w' N hR' hz=>?_⟩
 have:=KRow.one (T:=T) (A:=A) (c:=c) (by rw [e];exact hR') hz
 rw [e] at this
 exact this
def RegW (B r f:Nat):Prop:=∀ l w,RdAt B r l w→Qy.Good l→3 * l.length+2≤f→l.length≤5000→Calls Tryd.prog 54 #[.pointer (some ⟨r,0,none⟩)] w (Ends B r w (Qy.pReg f l) (regV w))
def ListW (B r f:Nat):Prop:=∀ l w,RdAt B r l w→Qy.Good l→3 * l.length+1≤f→l.length≤5000→Calls Tryd.prog 95 #[.pointer (some ⟨r,0,none⟩)] w (Ends B r w (Qy.pList f l) (listV w))
def ItemW (B r f:Nat):Prop:=∀ l w,RdAt B r l w→Qy.Good l→3 * l.length+1≤f→l.length≤5000→Calls Tryd.prog 80 #[.pointer (some ⟨r,0,none⟩)] w (Ends B r w (Qy.pItem f l) (regV w))
end Go.Proofs.YtmlpibdincfgbaaDoor
