/-
  Chapter 38's reference: Simple.
-/
import Derived.Test.YtmlpibdincfgbaaDoorM46
import Derived.Test.YtmlpibdincfgbaaDoorM9
namespace Go.Proofs.YtmlpibdincfgbaaDoor
open Go.RowKit
set_option linter.unusedSimpArgs false
set_option linter.unusedVariables false
def KR (T:TypeId) (N:Nat→Prop) (B:Nat) (w:World) (v:Value) (l:List Qy.Reg):Prop:=
 ∃ css:List (List Value),css.length=l.length∧w.ownsRow B T 9 v l.length css.flatten∧∀ (j:Nat) (cs:List Value) (R:Qy.Reg),css[j]? = some cs→l[j]? = some R→cs.length=9∧RegAt w (fun g=>N g∧g<B) cs R
theorem KR.nil {T:TypeId} {N:Nat→Prop} {B:Nat} {w:World}:KR T N B w (.slice none 0 0) []:=
 ⟨[],rfl,World.ownsRow_nil w B T 9,fun j cs R h=>by simp at h⟩
theorem owns_base {w:World} {B B':Nat} {T:TypeId} {sz:Nat} {v:Value} {n:Nat} {xs:List Value} (h:w.ownsRow B T sz v n xs) (hB:∀ g,v.ownBlock=some g→B'≤g):w.ownsRow B' T sz v n xs:=by
 refine ⟨h.1,h.2.imp id fun ⟨g,cap,cur,e,_,r⟩=>⟨g,cap,cur,e,hB g (by rw [e];rfl),r⟩⟩
theorem owns_own {w:World} {B:Nat} {T:TypeId} {sz:Nat} {v:Value} {n:Nat} {xs:List Value} (h:w.ownsRow B T sz v n xs):∀ g,v.ownBlock=some g→B≤g:=by
 intro g hg
 rcases h.2 with ⟨rfl,_⟩ | ⟨g',cap,cur,rfl,hb,_⟩
 ·cases hg
 ·cases hg
  exact hb
theorem KR.on {T:TypeId} {N:Nat→Prop} {B:Nat} {w w':World} {v:Value} {l:List Qy.Reg} (h:KR T N B w v l) (k:Below w.heap.size w w'):KR T N B w' v l:=by
 obtain ⟨css,h1,h2,h3⟩:=h
 exact ⟨css,h1,owns_below h2 k,fun j cs R hj hR=>⟨(h3 j cs R hj hR).1,(h3 j cs R hj hR).2.on k⟩⟩
theorem KR.row {T:TypeId} {N:Nat→Prop} {B:Nat} {w:World} {v:Value} {l:List Qy.Reg} (h:KR T N B w v l) (hN:∀ g,B≤g→N g):KRow T N w v l:=by
 obtain ⟨css,h1,h2,h3⟩:=h
 have hb:=owns_own h2
 exact ⟨css,h1,owns_base h2 fun _ _=>Nat.zero_le _,fun g hg=>hN g (hb g hg),fun j cs R hj hR=>⟨(h3 j cs R hj hR).1,(h3 j cs R hj hR).2.wider fun g hg _=>⟨hg.1,fun e=>by have:=hb g e;omega⟩⟩⟩
theorem KR.app {T:TypeId} {N:Nat→Prop} {B:Nat} {w w':World} {v v':Value} {l l2:List Qy.Reg} {css css2:List (List Value)} (h1:css.length=l.length) (h2:css2.length=l2.length) (hv:∀ g,v.ownBlock=some g→B≤g)
 (h3:∀ (j:Nat) (cs:List Value) (R:Qy.Reg),css[j]? = some cs→l[j]? = some R→cs.length=9∧RegAt w (fun g=>N g∧g<B) cs R)
 (h4:∀ (j:Nat) (cs:List Value) (R:Qy.Reg),css2[j]? = some cs→l2[j]? = some R→cs.length=9∧RegAt w (fun g=>N g∧g<B) cs R)
 (ho:w'.ownsRow B T 9 v' (l.length+l2.length) (css.flatten++css2.flatten)) (hg:w.grownBy w' v.ownBlock):KR T N B w' v' (l++l2):=by
 have key:∀ cs R,RegAt w (fun g=>N g∧g<B) cs R→RegAt w' (fun g=>N g∧g<B) cs R:=fun cs R h=>
  RegAt.keep hg.size (fun g hg' hl=>⟨hg',hg.block g hl (fun e=>by have:=hv g e.symm;omega)⟩) _ _ h
 refine ⟨css++css2,by simp [h1,h2],by rw [List.length_append,List.flatten_append];exact ho,fun j cs R hj hR=>?_⟩
 rcases Nat.lt_or_ge j l.length with hlt | hge
 ·rw [List.getElem?_append_left (by omega)] at hj hR
  exact ⟨(h3 j cs R hj hR).1,key _ _ (h3 j cs R hj hR).2⟩
 ·rw [List.getElem?_append_right (by omega)] at hj hR
  rw [h1] at hj
  exact ⟨(h4 _ cs R hj hR).1,key _ _ (h4 _ cs R hj hR).2⟩
theorem kids_css {w:World} {S:Nat→Prop} {g off:Nat}:∀ (l:List Qy.Reg) (i0:Nat),KidsAt w S (some ⟨g,off,none⟩) i0 l→∃ css:List (List Value),css.length=l.length∧(∀ c∈css,c.length=9)∧
 (∀ (j k:Nat) (cs:List Value) (v:Value),css[j]? = some cs→cs[k]? = some v→w.cell? ⟨g,off+(i0+j) * 9+k,none⟩=some v)∧(∀ (j:Nat) (cs:List Value) (R:Qy.Reg),css[j]? = some cs→l[j]? = some R→RegAt w S cs R)
 | [],_,_=>⟨[],rfl,by simp,fun j k cs v h=>by simp at h,fun j cs R h=>by simp at h⟩
 | R :: l,i0,h=>by
  rw [KidsAt] at h
  obtain ⟨⟨g',off',cs,e,hS,hl,hc,hr⟩,h2⟩:=h
  cases e
  obtain ⟨css,q1,q2,q3,q4⟩:=kids_css l (i0+1) h2
  have h9:cs.length=9:=by
   obtain ⟨A,c,rfl,_⟩:=hr.cells
   exact regCells_len R A c
  refine ⟨cs :: css,by simp [q1],fun c hc=>?_,fun j k cs' v hj hv=>?_,fun j cs' R' hj hR=>?_⟩
  ·rcases List.mem_cons.1 hc with rfl | h
   ·exact h9
   ·exact q2 c h
  ·match j,hj with
   | 0,hj=>
    simp only [List.getElem?_cons_zero,Option.some.injEq] at hj
    subst hj
    exact hc k v hv
   | j+1,hj=>
    have:=q3 j k cs' v (by simpa using hj) hv
    rwa [show i0+(j+1)=i0+1+j by omega]
  ·match j,hj,hR with
   | 0,hj,hR=>
    simp only [List.getElem?_cons_zero,Option.some.injEq] at hj hR
    subst hj
    subst hR
    exact hr
   | j+1,hj,hR=>exact q4 j cs' R' (by simpa using hj) (by simpa using hR)
theorem flat_cells {w:World} {g off:Nat} (css:List (List Value)) (h9:∀ c∈css,c.length=9) (h:∀ (j k:Nat) (cs:List Value) (v:Value),css[j]? = some cs→cs[k]? = some v→w.cell? ⟨g,off+(0+j) * 9+k,none⟩=some v) :
 ∀ q u,css.flatten[q]? = some u→w.cell? ((⟨g,off,none⟩:Addr).add q)=some u:=by
 intro q u hq
 have hlen:css.flatten.length=css.length * 9:=by
  clear h hq
  induction css with
  | nil=>rfl
  | cons c css ih=>
   rw [List.flatten_cons,List.length_append,h9 c (by simp),ih fun x hx=>h9 x (List.mem_cons_of_mem _ hx),List.length_cons]
   omega
 have hql:=(List.getElem?_eq_some_iff.1 hq).1
 have hj:q / 9<css.length:=by omega
 have e:=flatten_at css (q / 9) (q % 9) css[q / 9] h9 (List.getElem?_eq_getElem hj) (Nat.mod_lt _ (by omega))
 rw [show q / 9 * 9+q % 9=q by omega] at e
 rw [e] at hq
 have:=h (q / 9) (q % 9) _ u (List.getElem?_eq_getElem hj) hq
 rw [Addr.add_lit]
 rwa [show off+(0+q / 9) * 9+q % 9=off+q by omega] at this
theorem reg_one9 {w:World} {S:Nat→Prop} {cs:List Value} {R:Qy.Reg} (h:RegAt w S cs R):cs.length=9∧∀ u∈cs,u.oneCell'=true:=by
 obtain ⟨A,c,rfl,_⟩:=h.cells
 obtain ⟨x0,x1,x2,x3,x4,x5,x6,x7,x8,e,h1⟩:=regCells_lit R A c
 exact ⟨regCells_len R A c,by rw [e];exact h1⟩
theorem append_kids {ops:Array Oper} {rest:List Oper} {o:Oper} {a:Act} {w:World} {Q:Exit→Act→World→Prop} (hgd:o.guard=none) (s x:Operand)
 (ho:o.op=.call { callee:=.builtin .append,args:=#[s,x],argTypes:=#[40,40] }) {N:Nat→Prop} {B:Nat} {v:Value} {l l2:List Qy.Reg} {A8:Option Addr} {n8 c8:Nat}
 (hs:a.eval s=v) (h:KR 42 N B w v l) (hx:a.eval x=.slice A8 n8 c8) (hn8:l2.length=n8) (hK:KidsAt w (fun g=>N g∧g<B) A8 0 l2) (hlen:l.length+n8≤1000000) (hB:B≤w.heap.size)
 (h':∀ v' w',KR 42 N B w' v' (l++l2)→Below B w w'→wpList Tryd.prog ops Q rest (a.put o.dst v') w'):wpList Tryd.prog ops Q (o :: rest) a w:=by
 subst hn8
 obtain ⟨i0_,hi_,hz0,hz1,hz2⟩:=info_parts reg_infoP
 obtain ⟨css,q1,q2,q3⟩:=h
 have hb:=owns_own q2
 cases A8 with
 | none=>
  have hl2:l2=[]:=by
   cases l2 with
   | nil=>rfl
   | cons R l=>rw [KidsAt] at hK;obtain ⟨⟨g,off,cs,e,_⟩,_⟩:=hK;cases e
  subst hl2
  refine wpList_plain hgd fun K hKK=>?_
  have hrun:(Builtin.append_ #[40,40] o.type #[v,.slice none 0 c8]).run Tryd.prog w=.ok v w:=by
   rcases q2.2 with ⟨rfl,e0⟩ | ⟨g,cap,cur,rfl,_,_,hnc,_⟩
   ·simp [Builtin.append_,run_underlying Tryd.underlying40,sizeOf,typeInfo,hi_,Builtin.lenOf,Builtin.firstCells]
   ·simp [Builtin.append_,run_underlying Tryd.underlying40,sizeOf,typeInfo,hi_,Builtin.lenOf,Builtin.firstCells,hnc,storeCells]
  unfold Oper.wp execOp
  simp only [ho,resolve,invoke,builtin,Sem.run_bind,Sem.run_pure,Result.andThen_ok,List.map_toArray,List.map_cons,List.map_nil,hs,hx,hrun,List.length_nil]
  exact hKK _ _ (h' v w (by rw [List.append_nil];exact ⟨css,q1,q2,q3⟩) (Below.refl _ _))
 | some ad=>
  rcases l2 with _ | ⟨R0,l2⟩
  ·refine wpList_append_own_at (P:=Tryd.prog) w hgd s x _ ho B 42 i0_ _ 9 96 Tryd.underlying40 hi_ hz0 hz1 hz2 rfl (by decide) v l.length _ hs q2 ad 0 c8 [] hx rfl (fun j u hj=>by simp at hj) (by simp) (by unfold maxLen;simp at hlen;omega) (by simp at hlen;omega) hB ?_
   intro v' w' h3 h4 _ _
   exact h' v' w' (KR.app q1 (css2:=[]) rfl hb q3 (fun j cs R hj=>by simp at hj) h3 h4) (Below.grown (Below.refl _ _) h4 hB hb)
  ·obtain ⟨g,off,rfl⟩:∃ g off,ad=⟨g,off,none⟩:=by
    have hK2:=hK
    rw [KidsAt] at hK2
    obtain ⟨⟨g,off,cs,e,_⟩,_⟩:=hK2
    cases e
    exact ⟨_,_,rfl⟩
   obtain ⟨css2,r1,r2,r3,r4⟩:=kids_css _ 0 hK
   have hfl:css2.flatten.length=(R0 :: l2).length * 9:=by
    rw [← r1]
    clear r1 r3 r4
    induction css2 with
    | nil=>rfl
    | cons c css ih=>
     rw [List.flatten_cons,List.length_append,r2 c (by simp),ih fun x hx=>r2 x (List.mem_cons_of_mem _ hx),List.length_cons]
     omega
   refine wpList_append_own_at (P:=Tryd.prog) w hgd s x _ ho B 42 i0_ _ 9 96 Tryd.underlying40 hi_ hz0 hz1 hz2 rfl (by decide) v l.length _ hs q2 ⟨g,off,none⟩ (R0 :: l2).length c8 css2.flatten hx hfl (flat_cells css2 r2 r3) (fun u hu=>by
    obtain ⟨cs,hcs,hu2⟩:=List.mem_flatten.1 hu
    obtain ⟨j,hj⟩:=List.mem_iff_getElem?.1 hcs
    have hjl:j<(R0 :: l2).length:=by rw [← r1];exact (List.getElem?_eq_some_iff.1 hj).1
    exact (reg_one9 (r4 j cs _ hj (List.getElem?_eq_getElem hjl))).2 u hu2) (by unfold maxLen;omega) (by omega) hB ?_
   intro v' w' h3 h4 _ _
   exact h' v' w' (KR.app q1 r1 hb q3 (fun j cs R hj hR=>⟨r2 cs (List.mem_of_getElem? hj),r4 j cs R hj hR⟩) h3 h4) (Below.grown (Below.refl _ _) h4 hB hb)
theorem push_kid {ops:Array Oper} {rest:List Oper} {o:Oper} {a:Act} {w:World} {Q:Exit→Act→World→Prop} (hgd:o.guard=none) (s x:Operand)
 (ho:o.op=.call { callee:=.builtin .append,args:=#[s,x],argTypes:=#[40,40] }) {N:Nat→Prop} {B:Nat} {v:Value} {l:List Qy.Reg} {cs:List Value} {R:Qy.Reg}
 (hs:a.eval s=v) (h:KR 42 N B w v l) (hx:a.eval x=.slice (some ⟨w.heap.size,0,none⟩) 1 1) (hR:RegAt w (fun g=>N g∧g<B) cs R) (hlen:l.length≤900000) (hB:B≤w.heap.size)
 (h':∀ v' w',KR 42 N B w' v' (l++[R])→Below B w w'→wpList Tryd.prog ops Q rest (a.put o.dst v') w'):wpList Tryd.prog ops Q (o :: rest) a (w.alloc (.cells cs.toArray 42)):=by
 obtain ⟨i0_,hi_,hz0,hz1,hz2⟩:=info_parts reg_infoP
 have kn:=below_new w (.cells cs.toArray 42)
 have HO:=own_news (Own.new w 42 cs)
 obtain ⟨h9,h1⟩:=reg_one9 hR
 obtain ⟨css,q1,q2,q3⟩:=h.on kn
 have hb:=owns_own q2
 refine wpList_append_own_at (P:=Tryd.prog) _ hgd s x _ ho B 42 i0_ _ 9 96 Tryd.underlying40 hi_ hz0 hz1 hz2 rfl (by decide) v l.length _ hs q2 ⟨w.heap.size,0,none⟩ 1 1 cs hx (by omega) HO h1 (by unfold maxLen;omega) (by omega) (Nat.le_trans hB kn.size) ?_
 intro v' w' h3 h4 _ _
 refine h' v' w' (KR.app q1 (css2:=[cs]) rfl hb q3 (fun j cs' R' hj hR'=>?_) (by simpa using h3) h4) (Below.grown (kn.mono hB) h4 (Nat.le_trans hB kn.size) hb)
 match j,hj,hR' with
 | 0,hj,hR'=>
  simp only [List.getElem?_cons_zero,Option.some.injEq] at hj hR'
  subst hj
  subst hR'
  exact ⟨h9,hR.on kn⟩
 | j+1,hj,_=>simp at hj
end Go.Proofs.YtmlpibdincfgbaaDoor
