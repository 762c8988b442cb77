/-
  Package claim: ValidView, of every view.
-/
import Derived.Test.YtmlpibdincfgbaaGreatDoorM37
import Derived.Test.YtmlpibdincfgbaaGreatDoorQS1
namespace Go.Proofs.YtmlpibdincfgbaaGreatDoor
open Go.RowKit
set_option linter.unusedSimpArgs false
set_option linter.unusedVariables false
theorem view_split (k:Int) (l:List Int):Qy.viewOK k l=(decide ((k=0∧l.length=1)∨(k=1∧1≤l.length∧l.length≤8)∨(k=2∧l.length=0))&&(decide l.Nodup&&!(l.any noOff))):=by
 have e:decide ((∀ n∈l,0≤n∧n≤63)∧l.Nodup)=(decide l.Nodup&&!(l.any noOff)):=by
  rw [Bool.eq_iff_iff]
  simp only [Bool.and_eq_true,decide_eq_true_eq,Bool.not_eq_true',List.any_eq_false,noOff,Bool.not_eq_false',Bool.not_eq_true]
  constructor
  ·rintro ⟨h1,h2⟩
   exact ⟨h2,fun x hx=>by have:=h1 x hx;simp [this]⟩
  ·rintro ⟨h2,h1⟩
   exact ⟨fun x hx=>by have:=h1 x hx;simpa using this,h2⟩
 unfold Qy.viewOK
 rw [e]
 by_cases h1:k=0∧l.length=1
 ·simp [h1]
 by_cases h2:k=1∧1≤l.length∧l.length≤8
 ·simp [h2]
 by_cases h3:k=2∧l.length=0
 ·simp [h3]
 ·simp only [h1,h2,h3,decide_false,Bool.or_self,Bool.false_and,or_self]
set_option maxRecDepth 100000 in
set_option maxHeartbeats 6400000 in
theorem pView_any {w:World} {S:Nat→Prop} {A:Option Addr} {k:Int} {l:List Int} {c:Nat} (hI:IntsAt w S A l) (hlen:l.length≤1000000) :
 Calls Tryz.prog 23 #[.agg #[.int .i64 k,.slice A l.length c]] w (RetInt w (if Qy.viewOK k l=true then 0 else 1)):=by
 obtain ⟨E,hE⟩:∃ E:Int,(if Qy.viewOK k l=true then (0:Int) else 1)=E:=⟨_,rfl⟩
 rw [hE]
 rw [view_split] at hE
 have HI:=Lib.hid hI
 have HL:=Lib.hid hlen
 obtain ⟨n,hn⟩:∃ n,l.length=n:=⟨_,rfl⟩
 have HN:=Lib.hid hn
 rw [hn] at hE hlen ⊢
 have HE:=Lib.hid hE
 have HQ:=Lib.hid (compact_lt (srt l) (srt_sorted l))
 clear hI hn hE
 rcases (by omega:k=0∨k=1∨k=2∨(k<0∨2<k)) with rfl | rfl | rfl | hk
 ·
  go_enter Tryz.func23,Tryz.ntmps23
  go_upto_region 1 with fail
  refine wp_new1 fun W0 hA hB=>?_
  have y0:=hA.c0
  have y1:=hA.c1
  have HA:=Lib.hid (And.intro hA hB)
  clear hA hB
  go_wp2_with fail
  refine (values_any A n c W0).mono ?_
  rintro e w1 ⟨rfl,hO,k1⟩
  have hI1:=HI.out.on (Below.call HA.out.2 k1)
  have HSO:=Lib.hid (sorted_any A l HL.out c W0.heap.size _ w1 hI1 hO.lt (by rw [HN.out];exact hO.c0))
  have HA1:=Lib.hid (And.intro (HA.out.1.on k1) (Below.call HA.out.2 k1))
  have HB1:Hid (w.heap.size<w1.heap.size):=Lib.hid (HA1.out.1.lt)
  rw [HN.out] at HSO
  clear k1 hO hI1 y0 y1
  go_wp2_with fail
  refine HSO.out.mono ?_
  rintro e w3 ⟨v,rfl,hrow,k3⟩
  obtain ⟨A5,c5,rfl⟩:=owns_sliceV hrow
  obtain ⟨B,hBd⟩:∃ B,w1.heap.size=B:=⟨_,rfl⟩
  rw [hBd] at hrow HB1
  have kd:=Below.drew (Below.refl w3.heap.size w3)
  have hJ0:JV w [.int .i64 0,.slice A n c] (.slice A5 n c5) n ((srt l).map i64) B (fun _=>False) w3.drew:=⟨Below.call (Below.call HA1.out.2 k3) kd,(HA1.out.1.on k3).on kd,fun _=>hrow⟩
  have HCMP:Hid (∀ u,u.ownsRow B 3 1 (.slice A5 n c5) n ((srt l).map i64)→Calls Tryz.prog 54 #[.slice A5 n c5] u fun e w'=>e=.returned (.slice A5 (Lib.compact (srt l)).length c5)∧Below B u w'):=Lib.hid fun u h=>compact_any h (by have:=HN.out;have:=HL.out;omega)
  obtain ⟨q,hq⟩:∃ q,(Lib.compact (srt l)).length=q:=⟨_,rfl⟩
  have hq2:=HQ.out
  rw [hq,srt_len,srt_nodup,HN.out] at hq2
  rw [hq] at HCMP
  have HIN:=Lib.hid fun u=>inC_any (n:Int) 1 1 u
  have HQ2:=Lib.hid hq2.2
  have hqn:=hq2.1
  clear hq hq2 hrow k3 kd hBd HSO
  go_upto_region 10 with fail
  by_cases hin:n=1
  rotate_left
  ·
   rw [show (decide ((1:Int)≤(n:Int))&&decide ((n:Int)≤1))=false by simp;omega] at HIN
   have HF:Hid (E=1):=Lib.hid (by rw [← HE.out,if_neg (by simp;omega)])
   refine wp_region_allA (JV w [.int .i64 0,.slice A n c] (.slice A5 n c5) n ((srt l).map i64) B) [Spec.eq (.slice A5 n c5),Spec.eq (.int .i64 (n:Int)),Spec.eq (.int .i64 1),Spec.eq (.int .i64 1),Spec.eq (.bool false),Spec.eq (.bool true),Spec.eq (.bool true),Spec.eq undef,Spec.eq undef,Spec.eq undef,Spec.eq undef,Spec.eq undef,Spec.eq undef,Spec.eq undef,Spec.eq (.bool true)]
    (by kernel_rfl) (by kernel_rfl) rfl (by kernel_rfl) hJ0 ?_ ?_
   ·
    refine RegStepsA.cons ?_ ?_
    ·intro DD az wz hcl hw hnd hC hdf hF hD K hK;replace hdf:=Lib.hid hdf
     have q5:az.tmps[5]? = some (.slice A5 n c5):=hF 5 rfl
     clear hF hD
     refine want_none rfl ?_
     go_simp
     exact hK _ _ (hC.pure (by decide)) UpE15 rfl
    refine RegStepsA.cons ?_ ?_
    ·intro DD az wz hcl hw hnd hC hdf hF hD K hK;replace hdf:=Lib.hid hdf
     obtain ⟨_,q18,rfl⟩:=dep hD 0 rfl rfl rfl rfl
     clear hF hD
     refine want_none rfl ?_
     go_simp
     exact hK _ _ (hC.pure (by decide)) UpE15 rfl
    refine RegStepsA.cons ?_ ?_
    ·intro DD az wz hcl hw hnd hC hdf hF hD K hK;replace hdf:=Lib.hid hdf
     have q3:az.tmps[3]? = some (.int .i64 1):=hF 3 rfl
     clear hF hD
     refine want_none rfl ?_
     go_simp
     exact hK _ _ (hC.pure (by decide)) UpE15 rfl
    refine RegStepsA.cons ?_ ?_
    ·intro DD az wz hcl hw hnd hC hdf hF hD K hK;replace hdf:=Lib.hid hdf
     have q4:az.tmps[4]? = some (.int .i64 1):=hF 4 rfl
     clear hF hD
     refine want_none rfl ?_
     go_simp
     exact hK _ _ (hC.pure (by decide)) UpE15 rfl
    refine RegStepsA.cons ?_ ?_
    ·intro DD az wz hcl hw hnd hC hdf hF hD K hK;replace hdf:=Lib.hid hdf
     obtain ⟨_,q19,rfl⟩:=dep hD 1 rfl rfl rfl rfl
     obtain ⟨_,q20,rfl⟩:=dep hD 2 rfl rfl rfl rfl
     obtain ⟨_,q21,rfl⟩:=dep hD 3 rfl rfl rfl rfl
     clear hF hD
     refine want_none rfl ?_
     go_simp
     refine (HIN.out _).mono ?_
     rintro e wy ⟨rfl,e_⟩
     subst e_
     exact hK _ _ (hC.pure (by decide)) UpE15 rfl
    refine RegStepsA.cons ?_ ?_
    ·intro DD az wz hcl hw hnd hC hdf hF hD K hK;replace hdf:=Lib.hid hdf
     obtain ⟨_,q22,rfl⟩:=dep hD 4 rfl rfl rfl rfl
     clear hF hD
     refine want_none rfl ?_
     go_simp
     exact hK _ _ (hC.pure (by decide)) UpE15 rfl
    refine RegStepsA.cons ?_ ?_
    ·intro DD az wz hcl hw hnd hC hdf hF hD K hK;replace hdf:=Lib.hid hdf
     obtain ⟨_,q23,rfl⟩:=dep hD 5 rfl rfl rfl rfl
     clear hF hD
     refine want_none rfl ?_
     go_simp
     exact hK _ _ (hC.pure (by decide)) UpE15 rfl
    refine RegStepsA.cons ?_ ?_
    ·intro DD az wz hcl hw hnd hC hdf hF hD K hK;obtain ⟨_,qg,rfl⟩:=dep hD 6 rfl rfl rfl rfl;exact want_no rfl rfl rfl qg rfl (hK _ wz (by first | exact hC.pure (by decide) | exact hC.skip) UpE15 rfl)
    refine RegStepsA.cons ?_ ?_
    ·intro DD az wz hcl hw hnd hC hdf hF hD K hK;obtain ⟨_,qg,rfl⟩:=dep hD 6 rfl rfl rfl rfl;exact want_no rfl rfl rfl qg rfl (hK _ wz (by first | exact hC.pure (by decide) | exact hC.skip) UpE15 rfl)
    refine RegStepsA.cons ?_ ?_
    ·intro DD az wz hcl hw hnd hC hdf hF hD K hK;obtain ⟨_,qg,rfl⟩:=dep hD 6 rfl rfl rfl rfl;exact want_no rfl rfl rfl qg rfl (hK _ wz (by first | exact hC.pure (by decide) | exact hC.skip) UpE15 rfl)
    refine RegStepsA.cons ?_ ?_
    ·intro DD az wz hcl hw hnd hC hdf hF hD K hK;obtain ⟨_,qg,rfl⟩:=dep hD 6 rfl rfl rfl rfl;exact want_no rfl rfl rfl qg rfl (hK _ wz (by first | exact hC.pure (by decide) | exact hC.skip) UpE15 rfl)
    refine RegStepsA.cons ?_ ?_
    ·intro DD az wz hcl hw hnd hC hdf hF hD K hK;obtain ⟨_,qg,rfl⟩:=dep hD 6 rfl rfl rfl rfl;exact want_no rfl rfl rfl qg rfl (hK _ wz (by first | exact hC.pure (by decide) | exact hC.skip) UpE15 rfl)
    refine RegStepsA.cons ?_ ?_
    ·intro DD az wz hcl hw hnd hC hdf hF hD K hK;obtain ⟨_,qg,rfl⟩:=dep hD 6 rfl rfl rfl rfl;exact want_no rfl rfl rfl qg rfl (hK _ wz (by first | exact hC.pure (by decide) | exact hC.skip) UpE15 rfl)
    refine RegStepsA.cons ?_ ?_
    ·intro DD az wz hcl hw hnd hC hdf hF hD K hK;obtain ⟨_,qg,rfl⟩:=dep hD 6 rfl rfl rfl rfl;exact want_no rfl rfl rfl qg rfl (hK _ wz (by first | exact hC.pure (by decide) | exact hC.skip) UpE15 rfl)
    refine RegStepsA.cons ?_ ?_
    ·intro DD az wz hcl hw hnd hC hdf hF hD K hK;replace hdf:=Lib.hid hdf
     obtain ⟨_,q24,rfl⟩:=dep hD 6 rfl rfl rfl rfl
     obtain ⟨_,q31,rfl⟩:=dep hD 13 rfl rfl rfl rfl
     clear hF hD
     refine want_none rfl ?_
     go_simp
     exact hK _ _ (hC.pure (by decide)) UpE15 rfl
    exact RegStepsA.nil
   intro w4 hJ
   rintro _ rfl _ rfl _ rfl _ rfl _ rfl _ rfl _ rfl _ rfl _ rfl _ rfl _ rfl _ rfl _ rfl _ rfl _ rfl
   simp only [FinOK,Act.put,List.setIfInBounds_toArray,List.set_cons_zero,List.set_cons_succ]
   have HB4:=Lib.hid hJ.1
   clear hJ hJ0
   go_wp2
   go_returns
   exact ⟨by rw [HF.out];simp,HB4.out⟩
  rw [show (decide ((1:Int)≤(n:Int))&&decide ((n:Int)≤1))=true by simp;omega] at HIN
  have HE2:Hid (E=if (decide l.Nodup&&!(l.any noOff))=true then 0 else 1):=Lib.hid (by rw [← HE.out];simp [hin])
  have HIN9:=Lib.hid hin
  clear hin
  by_cases hd:q<n
  ·
   have HDD:Hid ((q:Int)<(n:Int)):=Lib.hid (by omega)
   have HF:Hid (E=1):=Lib.hid (by rw [HE2.out,decide_eq_false (HQ2.out.1 hd)];rfl)
   refine wp_region_allA (JV w [.int .i64 0,.slice A n c] (.slice A5 n c5) n ((srt l).map i64) B) [Spec.eq (.slice A5 n c5),Spec.eq (.int .i64 (n:Int)),Spec.eq (.int .i64 1),Spec.eq (.int .i64 1),Spec.eq (.bool true),Spec.eq (.bool false),Spec.eq (.bool false),Spec.eq (.slice A5 n c5),Spec.eq (.slice A5 q c5),Spec.eq (.int .i64 (q:Int)),Spec.eq (.pointer (some ⟨w.heap.size,1,none⟩)),Spec.eq (.slice A n c),Spec.eq (.int .i64 (n:Int)),Spec.eq (.bool true),Spec.eq (.bool true)]
    (by kernel_rfl) (by kernel_rfl) rfl (by kernel_rfl) hJ0 ?_ ?_
   ·
    refine RegStepsA.cons ?_ ?_
    ·intro DD az wz hcl hw hnd hC hdf hF hD K hK;replace hdf:=Lib.hid hdf
     have q5:az.tmps[5]? = some (.slice A5 n c5):=hF 5 rfl
     clear hF hD
     refine want_none rfl ?_
     go_simp
     exact hK _ _ (hC.pure (by decide)) UpE15 rfl
    refine RegStepsA.cons ?_ ?_
    ·intro DD az wz hcl hw hnd hC hdf hF hD K hK;replace hdf:=Lib.hid hdf
     obtain ⟨_,q18,rfl⟩:=dep hD 0 rfl rfl rfl rfl
     clear hF hD
     refine want_none rfl ?_
     go_simp
     exact hK _ _ (hC.pure (by decide)) UpE15 rfl
    refine RegStepsA.cons ?_ ?_
    ·intro DD az wz hcl hw hnd hC hdf hF hD K hK;replace hdf:=Lib.hid hdf
     have q3:az.tmps[3]? = some (.int .i64 1):=hF 3 rfl
     clear hF hD
     refine want_none rfl ?_
     go_simp
     exact hK _ _ (hC.pure (by decide)) UpE15 rfl
    refine RegStepsA.cons ?_ ?_
    ·intro DD az wz hcl hw hnd hC hdf hF hD K hK;replace hdf:=Lib.hid hdf
     have q4:az.tmps[4]? = some (.int .i64 1):=hF 4 rfl
     clear hF hD
     refine want_none rfl ?_
     go_simp
     exact hK _ _ (hC.pure (by decide)) UpE15 rfl
    refine RegStepsA.cons ?_ ?_
    ·intro DD az wz hcl hw hnd hC hdf hF hD K hK;replace hdf:=Lib.hid hdf
     obtain ⟨_,q19,rfl⟩:=dep hD 1 rfl rfl rfl rfl
     obtain ⟨_,q20,rfl⟩:=dep hD 2 rfl rfl rfl rfl
     obtain ⟨_,q21,rfl⟩:=dep hD 3 rfl rfl rfl rfl
     clear hF hD
     refine want_none rfl ?_
     go_simp
     refine (HIN.out _).mono ?_
     rintro e wy ⟨rfl,e_⟩
     subst e_
     exact hK _ _ (hC.pure (by decide)) UpE15 rfl
    refine RegStepsA.cons ?_ ?_
    ·intro DD az wz hcl hw hnd hC hdf hF hD K hK;replace hdf:=Lib.hid hdf
     obtain ⟨_,q22,rfl⟩:=dep hD 4 rfl rfl rfl rfl
     clear hF hD
     refine want_none rfl ?_
     go_simp
     exact hK _ _ (hC.pure (by decide)) UpE15 rfl
    refine RegStepsA.cons ?_ ?_
    ·intro DD az wz hcl hw hnd hC hdf hF hD K hK;replace hdf:=Lib.hid hdf
     obtain ⟨_,q23,rfl⟩:=dep hD 5 rfl rfl rfl rfl
     clear hF hD
     refine want_none rfl ?_
     go_simp
     exact hK _ _ (hC.pure (by decide)) UpE15 rfl
    refine RegStepsA.cons ?_ ?_
    ·intro DD az wz hcl hw hnd hC hdf hF hD K hK;replace hdf:=Lib.hid hdf
     have q5:az.tmps[5]? = some (.slice A5 n c5):=hF 5 rfl
     obtain ⟨_,qg,rfl⟩:=dep hD 6 rfl rfl rfl rfl
     clear hF hD
     refine want_yes rfl rfl rfl qg ?_
     go_simp
     exact hK _ _ (hC.pure (by decide)) UpE15 rfl
    refine RegStepsA.cons ?_ ?_
    ·intro DD az wz hcl hw hnd hC hdf hF hD K hK;replace hdf:=Lib.hid hdf
     obtain ⟨_,q25,rfl⟩:=dep hD 7 rfl rfl rfl rfl
     obtain ⟨_,qg,rfl⟩:=dep hD 6 rfl rfl rfl rfl
     have hr:=hC.2.2 hnd
     have hb2:=hC.1
     have ho2:=hC.2.1
     clear hF hD hC
     refine want_yes rfl rfl rfl qg ?_
     go_simp
     refine (HCMP.out wz hr).mono ?_
     rintro e wy ⟨rfl,k⟩
     exact hK _ _ (JV.cmp hb2 ho2 k HB1.out) UpE15 rfl
    refine RegStepsA.cons ?_ ?_
    ·intro DD az wz hcl hw hnd hC hdf hF hD K hK;replace hdf:=Lib.hid hdf
     obtain ⟨_,q26,rfl⟩:=dep hD 8 rfl rfl rfl rfl
     obtain ⟨_,qg,rfl⟩:=dep hD 6 rfl rfl rfl rfl
     clear hF hD
     refine want_yes rfl rfl rfl qg ?_
     go_simp
     exact hK _ _ (hC.pure (by decide)) UpE15 rfl
    refine RegStepsA.cons ?_ ?_
    ·intro DD az wz hcl hw hnd hC hdf hF hD K hK;replace hdf:=Lib.hid hdf
     have q1:az.tmps[1]? = some (.pointer (some ⟨w.heap.size,0,none⟩)):=hF 1 rfl
     obtain ⟨_,qg,rfl⟩:=dep hD 6 rfl rfl rfl rfl
     clear hF hD
     refine want_yes rfl rfl rfl qg ?_
     go_simp
     exact hK _ _ (hC.pure (by decide)) UpE15 rfl
    refine RegStepsA.cons ?_ ?_
    ·intro DD az wz hcl hw hnd hC hdf hF hD K hK;replace hdf:=Lib.hid hdf
     obtain ⟨_,q28,rfl⟩:=dep hD 10 rfl rfl rfl rfl
     obtain ⟨_,qg,rfl⟩:=dep hD 6 rfl rfl rfl rfl
     have z1:wz.cell? ⟨w.heap.size,1,none⟩=some (.slice A n c):=hC.2.1.cell 1
     clear hF hD
     refine want_yes rfl rfl rfl qg ?_
     go_simp
     exact hK _ _ (hC.pure (by decide)) UpE15 rfl
    refine RegStepsA.cons ?_ ?_
    ·intro DD az wz hcl hw hnd hC hdf hF hD K hK;replace hdf:=Lib.hid hdf
     obtain ⟨_,q29,rfl⟩:=dep hD 11 rfl rfl rfl rfl
     obtain ⟨_,qg,rfl⟩:=dep hD 6 rfl rfl rfl rfl
     clear hF hD
     refine want_yes rfl rfl rfl qg ?_
     go_simp
     exact hK _ _ (hC.pure (by decide)) UpE15 rfl
    refine RegStepsA.cons ?_ ?_
    ·intro DD az wz hcl hw hnd hC hdf hF hD K hK;replace hdf:=Lib.hid hdf
     obtain ⟨_,q27,rfl⟩:=dep hD 9 rfl rfl rfl rfl
     obtain ⟨_,q30,rfl⟩:=dep hD 12 rfl rfl rfl rfl
     obtain ⟨_,qg,rfl⟩:=dep hD 6 rfl rfl rfl rfl
     have hdd_:=HDD.out
     clear hF hD
     refine want_yes rfl rfl rfl qg ?_
     go_simp
     exact hK _ _ (hC.pure (by decide)) UpE15 rfl
    refine RegStepsA.cons ?_ ?_
    ·intro DD az wz hcl hw hnd hC hdf hF hD K hK;replace hdf:=Lib.hid hdf
     obtain ⟨_,q24,rfl⟩:=dep hD 6 rfl rfl rfl rfl
     obtain ⟨_,q31,rfl⟩:=dep hD 13 rfl rfl rfl rfl
     clear hF hD
     refine want_none rfl ?_
     go_simp
     exact hK _ _ (hC.pure (by decide)) UpE15 rfl
    exact RegStepsA.nil
   intro w4 hJ
   rintro _ rfl _ rfl _ rfl _ rfl _ rfl _ rfl _ rfl _ rfl _ rfl _ rfl _ rfl _ rfl _ rfl _ rfl _ rfl
   simp only [FinOK,Act.put,List.setIfInBounds_toArray,List.set_cons_zero,List.set_cons_succ]
   have HB4:=Lib.hid hJ.1
   clear hJ hJ0
   go_wp2
   go_returns
   exact ⟨by rw [HF.out];simp,HB4.out⟩
  have hnd2:l.Nodup:=Classical.byContradiction fun h=>hd (HQ2.out.2 h)
  have HDD:Hid (¬ (q:Int)<(n:Int)):=Lib.hid (by omega)
  have HE3:Hid (E=if (l.any noOff)=true then 1 else 0):=Lib.hid (by rw [HE2.out,decide_eq_true hnd2];cases l.any noOff <;> rfl)
  clear hnd2
  refine wp_region_allA (JV w [.int .i64 0,.slice A n c] (.slice A5 n c5) n ((srt l).map i64) B) [Spec.eq (.slice A5 n c5),Spec.eq (.int .i64 (n:Int)),Spec.eq (.int .i64 1),Spec.eq (.int .i64 1),Spec.eq (.bool true),Spec.eq (.bool false),Spec.eq (.bool false),Spec.eq (.slice A5 n c5),Spec.eq (.slice A5 q c5),Spec.eq (.int .i64 (q:Int)),Spec.eq (.pointer (some ⟨w.heap.size,1,none⟩)),Spec.eq (.slice A n c),Spec.eq (.int .i64 (n:Int)),Spec.eq (.bool false),Spec.eq (.bool false)]
   (by kernel_rfl) (by kernel_rfl) rfl (by kernel_rfl) hJ0 ?_ ?_
  ·
   refine RegStepsA.cons ?_ ?_
   ·intro DD az wz hcl hw hnd hC hdf hF hD K hK;replace hdf:=Lib.hid hdf
    have q5:az.tmps[5]? = some (.slice A5 n c5):=hF 5 rfl
    clear hF hD
    refine want_none rfl ?_
    go_simp
    exact hK _ _ (hC.pure (by decide)) UpE15 rfl
   refine RegStepsA.cons ?_ ?_
   ·intro DD az wz hcl hw hnd hC hdf hF hD K hK;replace hdf:=Lib.hid hdf
    obtain ⟨_,q18,rfl⟩:=dep hD 0 rfl rfl rfl rfl
    clear hF hD
    refine want_none rfl ?_
    go_simp
    exact hK _ _ (hC.pure (by decide)) UpE15 rfl
   refine RegStepsA.cons ?_ ?_
   ·intro DD az wz hcl hw hnd hC hdf hF hD K hK;replace hdf:=Lib.hid hdf
    have q3:az.tmps[3]? = some (.int .i64 1):=hF 3 rfl
    clear hF hD
    refine want_none rfl ?_
    go_simp
    exact hK _ _ (hC.pure (by decide)) UpE15 rfl
   refine RegStepsA.cons ?_ ?_
   ·intro DD az wz hcl hw hnd hC hdf hF hD K hK;replace hdf:=Lib.hid hdf
    have q4:az.tmps[4]? = some (.int .i64 1):=hF 4 rfl
    clear hF hD
    refine want_none rfl ?_
    go_simp
    exact hK _ _ (hC.pure (by decide)) UpE15 rfl
   refine RegStepsA.cons ?_ ?_
   ·intro DD az wz hcl hw hnd hC hdf hF hD K hK;replace hdf:=Lib.hid hdf
    obtain ⟨_,q19,rfl⟩:=dep hD 1 rfl rfl rfl rfl
    obtain ⟨_,q20,rfl⟩:=dep hD 2 rfl rfl rfl rfl
    obtain ⟨_,q21,rfl⟩:=dep hD 3 rfl rfl rfl rfl
    clear hF hD
    refine want_none rfl ?_
    go_simp
    refine (HIN.out _).mono ?_
    rintro e wy ⟨rfl,e_⟩
    subst e_
    exact hK _ _ (hC.pure (by decide)) UpE15 rfl
   refine RegStepsA.cons ?_ ?_
   ·intro DD az wz hcl hw hnd hC hdf hF hD K hK;replace hdf:=Lib.hid hdf
    obtain ⟨_,q22,rfl⟩:=dep hD 4 rfl rfl rfl rfl
    clear hF hD
    refine want_none rfl ?_
    go_simp
    exact hK _ _ (hC.pure (by decide)) UpE15 rfl
   refine RegStepsA.cons ?_ ?_
   ·intro DD az wz hcl hw hnd hC hdf hF hD K hK;replace hdf:=Lib.hid hdf
    obtain ⟨_,q23,rfl⟩:=dep hD 5 rfl rfl rfl rfl
    clear hF hD
    refine want_none rfl ?_
    go_simp
    exact hK _ _ (hC.pure (by decide)) UpE15 rfl
   refine RegStepsA.cons ?_ ?_
   ·intro DD az wz hcl hw hnd hC hdf hF hD K hK;replace hdf:=Lib.hid hdf
    have q5:az.tmps[5]? = some (.slice A5 n c5):=hF 5 rfl
    obtain ⟨_,qg,rfl⟩:=dep hD 6 rfl rfl rfl rfl
    clear hF hD
    refine want_yes rfl rfl rfl qg ?_
    go_simp
    exact hK _ _ (hC.pure (by decide)) UpE15 rfl
   refine RegStepsA.cons ?_ ?_
   ·intro DD az wz hcl hw hnd hC hdf hF hD K hK;replace hdf:=Lib.hid hdf
    obtain ⟨_,q25,rfl⟩:=dep hD 7 rfl rfl rfl rfl
    obtain ⟨_,qg,rfl⟩:=dep hD 6 rfl rfl rfl rfl
    have hr:=hC.2.2 hnd
    have hb2:=hC.1
    have ho2:=hC.2.1
    clear hF hD hC
    refine want_yes rfl rfl rfl qg ?_
    go_simp
    refine (HCMP.out wz hr).mono ?_
    rintro e wy ⟨rfl,k⟩
    exact hK _ _ (JV.cmp hb2 ho2 k HB1.out) UpE15 rfl
   refine RegStepsA.cons ?_ ?_
   ·intro DD az wz hcl hw hnd hC hdf hF hD K hK;replace hdf:=Lib.hid hdf
    obtain ⟨_,q26,rfl⟩:=dep hD 8 rfl rfl rfl rfl
    obtain ⟨_,qg,rfl⟩:=dep hD 6 rfl rfl rfl rfl
    clear hF hD
    refine want_yes rfl rfl rfl qg ?_
    go_simp
    exact hK _ _ (hC.pure (by decide)) UpE15 rfl
   refine RegStepsA.cons ?_ ?_
   ·intro DD az wz hcl hw hnd hC hdf hF hD K hK;replace hdf:=Lib.hid hdf
    have q1:az.tmps[1]? = some (.pointer (some ⟨w.heap.size,0,none⟩)):=hF 1 rfl
    obtain ⟨_,qg,rfl⟩:=dep hD 6 rfl rfl rfl rfl
    clear hF hD
    refine want_yes rfl rfl rfl qg ?_
    go_simp
    exact hK _ _ (hC.pure (by decide)) UpE15 rfl
   refine RegStepsA.cons ?_ ?_
   ·intro DD az wz hcl hw hnd hC hdf hF hD K hK;replace hdf:=Lib.hid hdf
    obtain ⟨_,q28,rfl⟩:=dep hD 10 rfl rfl rfl rfl
    obtain ⟨_,qg,rfl⟩:=dep hD 6 rfl rfl rfl rfl
    have z1:wz.cell? ⟨w.heap.size,1,none⟩=some (.slice A n c):=hC.2.1.cell 1
    clear hF hD
    refine want_yes rfl rfl rfl qg ?_
    go_simp
    exact hK _ _ (hC.pure (by decide)) UpE15 rfl
   refine RegStepsA.cons ?_ ?_
   ·intro DD az wz hcl hw hnd hC hdf hF hD K hK;replace hdf:=Lib.hid hdf
    obtain ⟨_,q29,rfl⟩:=dep hD 11 rfl rfl rfl rfl
    obtain ⟨_,qg,rfl⟩:=dep hD 6 rfl rfl rfl rfl
    clear hF hD
    refine want_yes rfl rfl rfl qg ?_
    go_simp
    exact hK _ _ (hC.pure (by decide)) UpE15 rfl
   refine RegStepsA.cons ?_ ?_
   ·intro DD az wz hcl hw hnd hC hdf hF hD K hK;replace hdf:=Lib.hid hdf
    obtain ⟨_,q27,rfl⟩:=dep hD 9 rfl rfl rfl rfl
    obtain ⟨_,q30,rfl⟩:=dep hD 12 rfl rfl rfl rfl
    obtain ⟨_,qg,rfl⟩:=dep hD 6 rfl rfl rfl rfl
    have hdd_:=HDD.out
    clear hF hD
    refine want_yes rfl rfl rfl qg ?_
    go_simp
    exact hK _ _ (hC.pure (by decide)) UpE15 rfl
   refine RegStepsA.cons ?_ ?_
   ·intro DD az wz hcl hw hnd hC hdf hF hD K hK;replace hdf:=Lib.hid hdf
    obtain ⟨_,q24,rfl⟩:=dep hD 6 rfl rfl rfl rfl
    obtain ⟨_,q31,rfl⟩:=dep hD 13 rfl rfl rfl rfl
    clear hF hD
    refine want_none rfl ?_
    go_simp
    exact hK _ _ (hC.pure (by decide)) UpE15 rfl
   exact RegStepsA.nil
  intro w4 hJ
  rintro _ rfl _ rfl _ rfl _ rfl _ rfl _ rfl _ rfl _ rfl _ rfl _ rfl _ rfl _ rfl _ rfl _ rfl _ rfl
  simp only [FinOK,Act.put,List.setIfInBounds_toArray,List.set_cons_zero,List.set_cons_succ]
  have HA4:=Lib.hid hJ
  clear hJ hJ0
  obtain ⟨ab,hab⟩:∃ b,l.any noOff=b:=⟨_,rfl⟩
  have HCO:=Lib.hid (containsI_any (c:=c) HL.out (HI.out.on HA4.out.1))
  rw [hab,HN.out] at HCO
  rw [hab] at HE3
  have y1:=HA4.out.2.1.c1
  clear hab
  go_wp2_with fail
  refine HCO.out.mono ?_
  rintro e w5 ⟨rfl,k5⟩
  have HB5:=Lib.hid (Below.call HA4.out.1 k5)
  clear k5 y1
  cases ab
  ·have HF:Hid (E=0):=Lib.hid (by rw [HE3.out];rfl)
   go_wp2
   go_returns
   exact ⟨by rw [HF.out];simp,HB5.out⟩
  ·have HF:Hid (E=1):=Lib.hid (by rw [HE3.out];rfl)
   go_wp2
   go_returns
   exact ⟨by rw [HF.out];simp,HB5.out⟩
 ·
  go_enter Tryz.func23,Tryz.ntmps23
  go_upto_region 1 with fail
  refine wp_new1 fun W0 hA hB=>?_
  have y0:=hA.c0
  have y1:=hA.c1
  have HA:=Lib.hid (And.intro hA hB)
  clear hA hB
  go_wp2_with fail
  refine (values_any A n c W0).mono ?_
  rintro e w1 ⟨rfl,hO,k1⟩
  have hI1:=HI.out.on (Below.call HA.out.2 k1)
  have HSO:=Lib.hid (sorted_any A l HL.out c W0.heap.size _ w1 hI1 hO.lt (by rw [HN.out];exact hO.c0))
  have HA1:=Lib.hid (And.intro (HA.out.1.on k1) (Below.call HA.out.2 k1))
  have HB1:Hid (w.heap.size<w1.heap.size):=Lib.hid (HA1.out.1.lt)
  rw [HN.out] at HSO
  clear k1 hO hI1 y0 y1
  go_wp2_with fail
  refine HSO.out.mono ?_
  rintro e w3 ⟨v,rfl,hrow,k3⟩
  obtain ⟨A5,c5,rfl⟩:=owns_sliceV hrow
  obtain ⟨B,hBd⟩:∃ B,w1.heap.size=B:=⟨_,rfl⟩
  rw [hBd] at hrow HB1
  have kd:=Below.drew (Below.refl w3.heap.size w3)
  have hJ0:JV w [.int .i64 1,.slice A n c] (.slice A5 n c5) n ((srt l).map i64) B (fun _=>False) w3.drew:=⟨Below.call (Below.call HA1.out.2 k3) kd,(HA1.out.1.on k3).on kd,fun _=>hrow⟩
  have HCMP:Hid (∀ u,u.ownsRow B 3 1 (.slice A5 n c5) n ((srt l).map i64)→Calls Tryz.prog 54 #[.slice A5 n c5] u fun e w'=>e=.returned (.slice A5 (Lib.compact (srt l)).length c5)∧Below B u w'):=Lib.hid fun u h=>compact_any h (by have:=HN.out;have:=HL.out;omega)
  obtain ⟨q,hq⟩:∃ q,(Lib.compact (srt l)).length=q:=⟨_,rfl⟩
  have hq2:=HQ.out
  rw [hq,srt_len,srt_nodup,HN.out] at hq2
  rw [hq] at HCMP
  have HIN:=Lib.hid fun u=>inC_any (n:Int) 1 8 u
  have HQ2:=Lib.hid hq2.2
  have hqn:=hq2.1
  clear hq hq2 hrow k3 kd hBd HSO
  go_upto_region 10 with fail
  by_cases hin:1≤n∧n≤8
  rotate_left
  ·
   rw [show (decide ((1:Int)≤(n:Int))&&decide ((n:Int)≤8))=false by simp;omega] at HIN
   have HF:Hid (E=1):=Lib.hid (by rw [← HE.out,if_neg (by simp;omega)])
   refine wp_region_allA (JV w [.int .i64 1,.slice A n c] (.slice A5 n c5) n ((srt l).map i64) B) [Spec.eq (.slice A5 n c5),Spec.eq (.int .i64 (n:Int)),Spec.eq (.int .i64 1),Spec.eq (.int .i64 8),Spec.eq (.bool false),Spec.eq (.bool true),Spec.eq (.bool true),Spec.eq undef,Spec.eq undef,Spec.eq undef,Spec.eq undef,Spec.eq undef,Spec.eq undef,Spec.eq undef,Spec.eq (.bool true)]
    (by kernel_rfl) (by kernel_rfl) rfl (by kernel_rfl) hJ0 ?_ ?_
   ·
    refine RegStepsA.cons ?_ ?_
    ·intro DD az wz hcl hw hnd hC hdf hF hD K hK;replace hdf:=Lib.hid hdf
     have q5:az.tmps[5]? = some (.slice A5 n c5):=hF 5 rfl
     clear hF hD
     refine want_none rfl ?_
     go_simp
     exact hK _ _ (hC.pure (by decide)) UpE15 rfl
    refine RegStepsA.cons ?_ ?_
    ·intro DD az wz hcl hw hnd hC hdf hF hD K hK;replace hdf:=Lib.hid hdf
     obtain ⟨_,q18,rfl⟩:=dep hD 0 rfl rfl rfl rfl
     clear hF hD
     refine want_none rfl ?_
     go_simp
     exact hK _ _ (hC.pure (by decide)) UpE15 rfl
    refine RegStepsA.cons ?_ ?_
    ·intro DD az wz hcl hw hnd hC hdf hF hD K hK;replace hdf:=Lib.hid hdf
     have q3:az.tmps[3]? = some (.int .i64 1):=hF 3 rfl
     clear hF hD
     refine want_none rfl ?_
     go_simp
     exact hK _ _ (hC.pure (by decide)) UpE15 rfl
    refine RegStepsA.cons ?_ ?_
    ·intro DD az wz hcl hw hnd hC hdf hF hD K hK;replace hdf:=Lib.hid hdf
     have q4:az.tmps[4]? = some (.int .i64 8):=hF 4 rfl
     clear hF hD
     refine want_none rfl ?_
     go_simp
     exact hK _ _ (hC.pure (by decide)) UpE15 rfl
    refine RegStepsA.cons ?_ ?_
    ·intro DD az wz hcl hw hnd hC hdf hF hD K hK;replace hdf:=Lib.hid hdf
     obtain ⟨_,q19,rfl⟩:=dep hD 1 rfl rfl rfl rfl
     obtain ⟨_,q20,rfl⟩:=dep hD 2 rfl rfl rfl rfl
     obtain ⟨_,q21,rfl⟩:=dep hD 3 rfl rfl rfl rfl
     clear hF hD
     refine want_none rfl ?_
     go_simp
     refine (HIN.out _).mono ?_
     rintro e wy ⟨rfl,e_⟩
     subst e_
     exact hK _ _ (hC.pure (by decide)) UpE15 rfl
    refine RegStepsA.cons ?_ ?_
    ·intro DD az wz hcl hw hnd hC hdf hF hD K hK;replace hdf:=Lib.hid hdf
     obtain ⟨_,q22,rfl⟩:=dep hD 4 rfl rfl rfl rfl
     clear hF hD
     refine want_none rfl ?_
     go_simp
     exact hK _ _ (hC.pure (by decide)) UpE15 rfl
    refine RegStepsA.cons ?_ ?_
    ·intro DD az wz hcl hw hnd hC hdf hF hD K hK;replace hdf:=Lib.hid hdf
     obtain ⟨_,q23,rfl⟩:=dep hD 5 rfl rfl rfl rfl
     clear hF hD
     refine want_none rfl ?_
     go_simp
     exact hK _ _ (hC.pure (by decide)) UpE15 rfl
    refine RegStepsA.cons ?_ ?_
    ·intro DD az wz hcl hw hnd hC hdf hF hD K hK;obtain ⟨_,qg,rfl⟩:=dep hD 6 rfl rfl rfl rfl;exact want_no rfl rfl rfl qg rfl (hK _ wz (by first | exact hC.pure (by decide) | exact hC.skip) UpE15 rfl)
    refine RegStepsA.cons ?_ ?_
    ·intro DD az wz hcl hw hnd hC hdf hF hD K hK;obtain ⟨_,qg,rfl⟩:=dep hD 6 rfl rfl rfl rfl;exact want_no rfl rfl rfl qg rfl (hK _ wz (by first | exact hC.pure (by decide) | exact hC.skip) UpE15 rfl)
    refine RegStepsA.cons ?_ ?_
    ·intro DD az wz hcl hw hnd hC hdf hF hD K hK;obtain ⟨_,qg,rfl⟩:=dep hD 6 rfl rfl rfl rfl;exact want_no rfl rfl rfl qg rfl (hK _ wz (by first | exact hC.pure (by decide) | exact hC.skip) UpE15 rfl)
    refine RegStepsA.cons ?_ ?_
    ·intro DD az wz hcl hw hnd hC hdf hF hD K hK;obtain ⟨_,qg,rfl⟩:=dep hD 6 rfl rfl rfl rfl;exact want_no rfl rfl rfl qg rfl (hK _ wz (by first | exact hC.pure (by decide) | exact hC.skip) UpE15 rfl)
    refine RegStepsA.cons ?_ ?_
    ·intro DD az wz hcl hw hnd hC hdf hF hD K hK;obtain ⟨_,qg,rfl⟩:=dep hD 6 rfl rfl rfl rfl;exact want_no rfl rfl rfl qg rfl (hK _ wz (by first | exact hC.pure (by decide) | exact hC.skip) UpE15 rfl)
    refine RegStepsA.cons ?_ ?_
    ·intro DD az wz hcl hw hnd hC hdf hF hD K hK;obtain ⟨_,qg,rfl⟩:=dep hD 6 rfl rfl rfl rfl;exact want_no rfl rfl rfl qg rfl (hK _ wz (by first | exact hC.pure (by decide) | exact hC.skip) UpE15 rfl)
    refine RegStepsA.cons ?_ ?_
    ·intro DD az wz hcl hw hnd hC hdf hF hD K hK;obtain ⟨_,qg,rfl⟩:=dep hD 6 rfl rfl rfl rfl;exact want_no rfl rfl rfl qg rfl (hK _ wz (by first | exact hC.pure (by decide) | exact hC.skip) UpE15 rfl)
    refine RegStepsA.cons ?_ ?_
    ·intro DD az wz hcl hw hnd hC hdf hF hD K hK;replace hdf:=Lib.hid hdf
     obtain ⟨_,q24,rfl⟩:=dep hD 6 rfl rfl rfl rfl
     obtain ⟨_,q31,rfl⟩:=dep hD 13 rfl rfl rfl rfl
     clear hF hD
     refine want_none rfl ?_
     go_simp
     exact hK _ _ (hC.pure (by decide)) UpE15 rfl
    exact RegStepsA.nil
   intro w4 hJ
   rintro _ rfl _ rfl _ rfl _ rfl _ rfl _ rfl _ rfl _ rfl _ rfl _ rfl _ rfl _ rfl _ rfl _ rfl _ rfl
   simp only [FinOK,Act.put,List.setIfInBounds_toArray,List.set_cons_zero,List.set_cons_succ]
   have HB4:=Lib.hid hJ.1
   clear hJ hJ0
   go_wp2
   go_returns
   exact ⟨by rw [HF.out];simp,HB4.out⟩
  rw [show (decide ((1:Int)≤(n:Int))&&decide ((n:Int)≤8))=true by simp;omega] at HIN
  have HE2:Hid (E=if (decide l.Nodup&&!(l.any noOff))=true then 0 else 1):=Lib.hid (by rw [← HE.out];simp [hin])
  have HIN9:=Lib.hid hin
  clear hin
  by_cases hd:q<n
  ·
   have HDD:Hid ((q:Int)<(n:Int)):=Lib.hid (by omega)
   have HF:Hid (E=1):=Lib.hid (by rw [HE2.out,decide_eq_false (HQ2.out.1 hd)];rfl)
   refine wp_region_allA (JV w [.int .i64 1,.slice A n c] (.slice A5 n c5) n ((srt l).map i64) B) [Spec.eq (.slice A5 n c5),Spec.eq (.int .i64 (n:Int)),Spec.eq (.int .i64 1),Spec.eq (.int .i64 8),Spec.eq (.bool true),Spec.eq (.bool false),Spec.eq (.bool false),Spec.eq (.slice A5 n c5),Spec.eq (.slice A5 q c5),Spec.eq (.int .i64 (q:Int)),Spec.eq (.pointer (some ⟨w.heap.size,1,none⟩)),Spec.eq (.slice A n c),Spec.eq (.int .i64 (n:Int)),Spec.eq (.bool true),Spec.eq (.bool true)]
    (by kernel_rfl) (by kernel_rfl) rfl (by kernel_rfl) hJ0 ?_ ?_
   ·
    refine RegStepsA.cons ?_ ?_
    ·intro DD az wz hcl hw hnd hC hdf hF hD K hK;replace hdf:=Lib.hid hdf
     have q5:az.tmps[5]? = some (.slice A5 n c5):=hF 5 rfl
     clear hF hD
     refine want_none rfl ?_
     go_simp
     exact hK _ _ (hC.pure (by decide)) UpE15 rfl
    refine RegStepsA.cons ?_ ?_
    ·intro DD az wz hcl hw hnd hC hdf hF hD K hK;replace hdf:=Lib.hid hdf
     obtain ⟨_,q18,rfl⟩:=dep hD 0 rfl rfl rfl rfl
     clear hF hD
     refine want_none rfl ?_
     go_simp
     exact hK _ _ (hC.pure (by decide)) UpE15 rfl
    refine RegStepsA.cons ?_ ?_
    ·intro DD az wz hcl hw hnd hC hdf hF hD K hK;replace hdf:=Lib.hid hdf
     have q3:az.tmps[3]? = some (.int .i64 1):=hF 3 rfl
     clear hF hD
     refine want_none rfl ?_
     go_simp
     exact hK _ _ (hC.pure (by decide)) UpE15 rfl
    refine RegStepsA.cons ?_ ?_
    ·intro DD az wz hcl hw hnd hC hdf hF hD K hK;replace hdf:=Lib.hid hdf
     have q4:az.tmps[4]? = some (.int .i64 8):=hF 4 rfl
     clear hF hD
     refine want_none rfl ?_
     go_simp
     exact hK _ _ (hC.pure (by decide)) UpE15 rfl
    refine RegStepsA.cons ?_ ?_
    ·intro DD az wz hcl hw hnd hC hdf hF hD K hK;replace hdf:=Lib.hid hdf
     obtain ⟨_,q19,rfl⟩:=dep hD 1 rfl rfl rfl rfl
     obtain ⟨_,q20,rfl⟩:=dep hD 2 rfl rfl rfl rfl
     obtain ⟨_,q21,rfl⟩:=dep hD 3 rfl rfl rfl rfl
     clear hF hD
     refine want_none rfl ?_
     go_simp
     refine (HIN.out _).mono ?_
     rintro e wy ⟨rfl,e_⟩
     subst e_
     exact hK _ _ (hC.pure (by decide)) UpE15 rfl
    refine RegStepsA.cons ?_ ?_
    ·intro DD az wz hcl hw hnd hC hdf hF hD K hK;replace hdf:=Lib.hid hdf
     obtain ⟨_,q22,rfl⟩:=dep hD 4 rfl rfl rfl rfl
     clear hF hD
     refine want_none rfl ?_
     go_simp
     exact hK _ _ (hC.pure (by decide)) UpE15 rfl
    refine RegStepsA.cons ?_ ?_
    ·intro DD az wz hcl hw hnd hC hdf hF hD K hK;replace hdf:=Lib.hid hdf
     obtain ⟨_,q23,rfl⟩:=dep hD 5 rfl rfl rfl rfl
     clear hF hD
     refine want_none rfl ?_
     go_simp
     exact hK _ _ (hC.pure (by decide)) UpE15 rfl
    refine RegStepsA.cons ?_ ?_
    ·intro DD az wz hcl hw hnd hC hdf hF hD K hK;replace hdf:=Lib.hid hdf
     have q5:az.tmps[5]? = some (.slice A5 n c5):=hF 5 rfl
     obtain ⟨_,qg,rfl⟩:=dep hD 6 rfl rfl rfl rfl
     clear hF hD
     refine want_yes rfl rfl rfl qg ?_
     go_simp
     exact hK _ _ (hC.pure (by decide)) UpE15 rfl
    refine RegStepsA.cons ?_ ?_
    ·intro DD az wz hcl hw hnd hC hdf hF hD K hK;replace hdf:=Lib.hid hdf
     obtain ⟨_,q25,rfl⟩:=dep hD 7 rfl rfl rfl rfl
     obtain ⟨_,qg,rfl⟩:=dep hD 6 rfl rfl rfl rfl
     have hr:=hC.2.2 hnd
     have hb2:=hC.1
     have ho2:=hC.2.1
     clear hF hD hC
     refine want_yes rfl rfl rfl qg ?_
     go_simp
     refine (HCMP.out wz hr).mono ?_
     rintro e wy ⟨rfl,k⟩
     exact hK _ _ (JV.cmp hb2 ho2 k HB1.out) UpE15 rfl
    refine RegStepsA.cons ?_ ?_
    ·intro DD az wz hcl hw hnd hC hdf hF hD K hK;replace hdf:=Lib.hid hdf
     obtain ⟨_,q26,rfl⟩:=dep hD 8 rfl rfl rfl rfl
     obtain ⟨_,qg,rfl⟩:=dep hD 6 rfl rfl rfl rfl
     clear hF hD
     refine want_yes rfl rfl rfl qg ?_
     go_simp
     exact hK _ _ (hC.pure (by decide)) UpE15 rfl
    refine RegStepsA.cons ?_ ?_
    ·intro DD az wz hcl hw hnd hC hdf hF hD K hK;replace hdf:=Lib.hid hdf
     have q1:az.tmps[1]? = some (.pointer (some ⟨w.heap.size,0,none⟩)):=hF 1 rfl
     obtain ⟨_,qg,rfl⟩:=dep hD 6 rfl rfl rfl rfl
     clear hF hD
     refine want_yes rfl rfl rfl qg ?_
     go_simp
     exact hK _ _ (hC.pure (by decide)) UpE15 rfl
    refine RegStepsA.cons ?_ ?_
    ·intro DD az wz hcl hw hnd hC hdf hF hD K hK;replace hdf:=Lib.hid hdf
     obtain ⟨_,q28,rfl⟩:=dep hD 10 rfl rfl rfl rfl
     obtain ⟨_,qg,rfl⟩:=dep hD 6 rfl rfl rfl rfl
     have z1:wz.cell? ⟨w.heap.size,1,none⟩=some (.slice A n c):=hC.2.1.cell 1
     clear hF hD
     refine want_yes rfl rfl rfl qg ?_
     go_simp
     exact hK _ _ (hC.pure (by decide)) UpE15 rfl
    refine RegStepsA.cons ?_ ?_
    ·intro DD az wz hcl hw hnd hC hdf hF hD K hK;replace hdf:=Lib.hid hdf
     obtain ⟨_,q29,rfl⟩:=dep hD 11 rfl rfl rfl rfl
     obtain ⟨_,qg,rfl⟩:=dep hD 6 rfl rfl rfl rfl
     clear hF hD
     refine want_yes rfl rfl rfl qg ?_
     go_simp
     exact hK _ _ (hC.pure (by decide)) UpE15 rfl
    refine RegStepsA.cons ?_ ?_
    ·intro DD az wz hcl hw hnd hC hdf hF hD K hK;replace hdf:=Lib.hid hdf
     obtain ⟨_,q27,rfl⟩:=dep hD 9 rfl rfl rfl rfl
     obtain ⟨_,q30,rfl⟩:=dep hD 12 rfl rfl rfl rfl
     obtain ⟨_,qg,rfl⟩:=dep hD 6 rfl rfl rfl rfl
     have hdd_:=HDD.out
     clear hF hD
     refine want_yes rfl rfl rfl qg ?_
     go_simp
     exact hK _ _ (hC.pure (by decide)) UpE15 rfl
    refine RegStepsA.cons ?_ ?_
    ·intro DD az wz hcl hw hnd hC hdf hF hD K hK;replace hdf:=Lib.hid hdf
     obtain ⟨_,q24,rfl⟩:=dep hD 6 rfl rfl rfl rfl
     obtain ⟨_,q31,rfl⟩:=dep hD 13 rfl rfl rfl rfl
     clear hF hD
     refine want_none rfl ?_
     go_simp
     exact hK _ _ (hC.pure (by decide)) UpE15 rfl
    exact RegStepsA.nil
   intro w4 hJ
   rintro _ rfl _ rfl _ rfl _ rfl _ rfl _ rfl _ rfl _ rfl _ rfl _ rfl _ rfl _ rfl _ rfl _ rfl _ rfl
   simp only [FinOK,Act.put,List.setIfInBounds_toArray,List.set_cons_zero,List.set_cons_succ]
   have HB4:=Lib.hid hJ.1
   clear hJ hJ0
   go_wp2
   go_returns
   exact ⟨by rw [HF.out];simp,HB4.out⟩
  have hnd2:l.Nodup:=Classical.byContradiction fun h=>hd (HQ2.out.2 h)
  have HDD:Hid (¬ (q:Int)<(n:Int)):=Lib.hid (by omega)
  have HE3:Hid (E=if (l.any noOff)=true then 1 else 0):=Lib.hid (by rw [HE2.out,decide_eq_true hnd2];cases l.any noOff <;> rfl)
  clear hnd2
  refine wp_region_allA (JV w [.int .i64 1,.slice A n c] (.slice A5 n c5) n ((srt l).map i64) B) [Spec.eq (.slice A5 n c5),Spec.eq (.int .i64 (n:Int)),Spec.eq (.int .i64 1),Spec.eq (.int .i64 8),Spec.eq (.bool true),Spec.eq (.bool false),Spec.eq (.bool false),Spec.eq (.slice A5 n c5),Spec.eq (.slice A5 q c5),Spec.eq (.int .i64 (q:Int)),Spec.eq (.pointer (some ⟨w.heap.size,1,none⟩)),Spec.eq (.slice A n c),Spec.eq (.int .i64 (n:Int)),Spec.eq (.bool false),Spec.eq (.bool false)]
   (by kernel_rfl) (by kernel_rfl) rfl (by kernel_rfl) hJ0 ?_ ?_
  ·
   refine RegStepsA.cons ?_ ?_
   ·intro DD az wz hcl hw hnd hC hdf hF hD K hK;replace hdf:=Lib.hid hdf
    have q5:az.tmps[5]? = some (.slice A5 n c5):=hF 5 rfl
    clear hF hD
    refine want_none rfl ?_
    go_simp
    exact hK _ _ (hC.pure (by decide)) UpE15 rfl
   refine RegStepsA.cons ?_ ?_
   ·intro DD az wz hcl hw hnd hC hdf hF hD K hK;replace hdf:=Lib.hid hdf
    obtain ⟨_,q18,rfl⟩:=dep hD 0 rfl rfl rfl rfl
    clear hF hD
    refine want_none rfl ?_
    go_simp
    exact hK _ _ (hC.pure (by decide)) UpE15 rfl
   refine RegStepsA.cons ?_ ?_
   ·intro DD az wz hcl hw hnd hC hdf hF hD K hK;replace hdf:=Lib.hid hdf
    have q3:az.tmps[3]? = some (.int .i64 1):=hF 3 rfl
    clear hF hD
    refine want_none rfl ?_
    go_simp
    exact hK _ _ (hC.pure (by decide)) UpE15 rfl
   refine RegStepsA.cons ?_ ?_
   ·intro DD az wz hcl hw hnd hC hdf hF hD K hK;replace hdf:=Lib.hid hdf
    have q4:az.tmps[4]? = some (.int .i64 8):=hF 4 rfl
    clear hF hD
    refine want_none rfl ?_
    go_simp
    exact hK _ _ (hC.pure (by decide)) UpE15 rfl
   refine RegStepsA.cons ?_ ?_
   ·intro DD az wz hcl hw hnd hC hdf hF hD K hK;replace hdf:=Lib.hid hdf
    obtain ⟨_,q19,rfl⟩:=dep hD 1 rfl rfl rfl rfl
    obtain ⟨_,q20,rfl⟩:=dep hD 2 rfl rfl rfl rfl
    obtain ⟨_,q21,rfl⟩:=dep hD 3 rfl rfl rfl rfl
    clear hF hD
    refine want_none rfl ?_
    go_simp
    refine (HIN.out _).mono ?_
    rintro e wy ⟨rfl,e_⟩
    subst e_
    exact hK _ _ (hC.pure (by decide)) UpE15 rfl
   refine RegStepsA.cons ?_ ?_
   ·intro DD az wz hcl hw hnd hC hdf hF hD K hK;replace hdf:=Lib.hid hdf
    obtain ⟨_,q22,rfl⟩:=dep hD 4 rfl rfl rfl rfl
    clear hF hD
    refine want_none rfl ?_
    go_simp
    exact hK _ _ (hC.pure (by decide)) UpE15 rfl
   refine RegStepsA.cons ?_ ?_
   ·intro DD az wz hcl hw hnd hC hdf hF hD K hK;replace hdf:=Lib.hid hdf
    obtain ⟨_,q23,rfl⟩:=dep hD 5 rfl rfl rfl rfl
    clear hF hD
    refine want_none rfl ?_
    go_simp
    exact hK _ _ (hC.pure (by decide)) UpE15 rfl
   refine RegStepsA.cons ?_ ?_
   ·intro DD az wz hcl hw hnd hC hdf hF hD K hK;replace hdf:=Lib.hid hdf
    have q5:az.tmps[5]? = some (.slice A5 n c5):=hF 5 rfl
    obtain ⟨_,qg,rfl⟩:=dep hD 6 rfl rfl rfl rfl
    clear hF hD
    refine want_yes rfl rfl rfl qg ?_
    go_simp
    exact hK _ _ (hC.pure (by decide)) UpE15 rfl
   refine RegStepsA.cons ?_ ?_
   ·intro DD az wz hcl hw hnd hC hdf hF hD K hK;replace hdf:=Lib.hid hdf
    obtain ⟨_,q25,rfl⟩:=dep hD 7 rfl rfl rfl rfl
    obtain ⟨_,qg,rfl⟩:=dep hD 6 rfl rfl rfl rfl
    have hr:=hC.2.2 hnd
    have hb2:=hC.1
    have ho2:=hC.2.1
    clear hF hD hC
    refine want_yes rfl rfl rfl qg ?_
    go_simp
    refine (HCMP.out wz hr).mono ?_
    rintro e wy ⟨rfl,k⟩
    exact hK _ _ (JV.cmp hb2 ho2 k HB1.out) UpE15 rfl
   refine RegStepsA.cons ?_ ?_
   ·intro DD az wz hcl hw hnd hC hdf hF hD K hK;replace hdf:=Lib.hid hdf
    obtain ⟨_,q26,rfl⟩:=dep hD 8 rfl rfl rfl rfl
    obtain ⟨_,qg,rfl⟩:=dep hD 6 rfl rfl rfl rfl
    clear hF hD
    refine want_yes rfl rfl rfl qg ?_
    go_simp
    exact hK _ _ (hC.pure (by decide)) UpE15 rfl
   refine RegStepsA.cons ?_ ?_
   ·intro DD az wz hcl hw hnd hC hdf hF hD K hK;replace hdf:=Lib.hid hdf
    have q1:az.tmps[1]? = some (.pointer (some ⟨w.heap.size,0,none⟩)):=hF 1 rfl
    obtain ⟨_,qg,rfl⟩:=dep hD 6 rfl rfl rfl rfl
    clear hF hD
    refine want_yes rfl rfl rfl qg ?_
    go_simp
    exact hK _ _ (hC.pure (by decide)) UpE15 rfl
   refine RegStepsA.cons ?_ ?_
   ·intro DD az wz hcl hw hnd hC hdf hF hD K hK;replace hdf:=Lib.hid hdf
    obtain ⟨_,q28,rfl⟩:=dep hD 10 rfl rfl rfl rfl
    obtain ⟨_,qg,rfl⟩:=dep hD 6 rfl rfl rfl rfl
    have z1:wz.cell? ⟨w.heap.size,1,none⟩=some (.slice A n c):=hC.2.1.cell 1
    clear hF hD
    refine want_yes rfl rfl rfl qg ?_
    go_simp
    exact hK _ _ (hC.pure (by decide)) UpE15 rfl
   refine RegStepsA.cons ?_ ?_
   ·intro DD az wz hcl hw hnd hC hdf hF hD K hK;replace hdf:=Lib.hid hdf
    obtain ⟨_,q29,rfl⟩:=dep hD 11 rfl rfl rfl rfl
    obtain ⟨_,qg,rfl⟩:=dep hD 6 rfl rfl rfl rfl
    clear hF hD
    refine want_yes rfl rfl rfl qg ?_
    go_simp
    exact hK _ _ (hC.pure (by decide)) UpE15 rfl
   refine RegStepsA.cons ?_ ?_
   ·intro DD az wz hcl hw hnd hC hdf hF hD K hK;replace hdf:=Lib.hid hdf
    obtain ⟨_,q27,rfl⟩:=dep hD 9 rfl rfl rfl rfl
    obtain ⟨_,q30,rfl⟩:=dep hD 12 rfl rfl rfl rfl
    obtain ⟨_,qg,rfl⟩:=dep hD 6 rfl rfl rfl rfl
    have hdd_:=HDD.out
    clear hF hD
    refine want_yes rfl rfl rfl qg ?_
    go_simp
    exact hK _ _ (hC.pure (by decide)) UpE15 rfl
   refine RegStepsA.cons ?_ ?_
   ·intro DD az wz hcl hw hnd hC hdf hF hD K hK;replace hdf:=Lib.hid hdf
    obtain ⟨_,q24,rfl⟩:=dep hD 6 rfl rfl rfl rfl
    obtain ⟨_,q31,rfl⟩:=dep hD 13 rfl rfl rfl rfl
    clear hF hD
    refine want_none rfl ?_
    go_simp
    exact hK _ _ (hC.pure (by decide)) UpE15 rfl
   exact RegStepsA.nil
  intro w4 hJ
  rintro _ rfl _ rfl _ rfl _ rfl _ rfl _ rfl _ rfl _ rfl _ rfl _ rfl _ rfl _ rfl _ rfl _ rfl _ rfl
  simp only [FinOK,Act.put,List.setIfInBounds_toArray,List.set_cons_zero,List.set_cons_succ]
  have HA4:=Lib.hid hJ
  clear hJ hJ0
  obtain ⟨ab,hab⟩:∃ b,l.any noOff=b:=⟨_,rfl⟩
  have HCO:=Lib.hid (containsI_any (c:=c) HL.out (HI.out.on HA4.out.1))
  rw [hab,HN.out] at HCO
  rw [hab] at HE3
  have y1:=HA4.out.2.1.c1
  clear hab
  go_wp2_with fail
  refine HCO.out.mono ?_
  rintro e w5 ⟨rfl,k5⟩
  have HB5:=Lib.hid (Below.call HA4.out.1 k5)
  clear k5 y1
  cases ab
  ·have HF:Hid (E=0):=Lib.hid (by rw [HE3.out];rfl)
   go_wp2
   go_returns
   exact ⟨by rw [HF.out];simp,HB5.out⟩
  ·have HF:Hid (E=1):=Lib.hid (by rw [HE3.out];rfl)
   go_wp2
   go_returns
   exact ⟨by rw [HF.out];simp,HB5.out⟩
 ·
  go_enter Tryz.func23,Tryz.ntmps23
  go_upto_region 1 with fail
  refine wp_new1 fun W0 hA hB=>?_
  have y0:=hA.c0
  have y1:=hA.c1
  have HA:=Lib.hid (And.intro hA hB)
  clear hA hB
  go_wp2_with fail
  refine (values_any A n c W0).mono ?_
  rintro e w1 ⟨rfl,hO,k1⟩
  have hI1:=HI.out.on (Below.call HA.out.2 k1)
  have HSO:=Lib.hid (sorted_any A l HL.out c W0.heap.size _ w1 hI1 hO.lt (by rw [HN.out];exact hO.c0))
  have HA1:=Lib.hid (And.intro (HA.out.1.on k1) (Below.call HA.out.2 k1))
  have HB1:Hid (w.heap.size<w1.heap.size):=Lib.hid (HA1.out.1.lt)
  rw [HN.out] at HSO
  clear k1 hO hI1 y0 y1
  go_wp2_with fail
  refine HSO.out.mono ?_
  rintro e w3 ⟨v,rfl,hrow,k3⟩
  obtain ⟨A5,c5,rfl⟩:=owns_sliceV hrow
  obtain ⟨B,hBd⟩:∃ B,w1.heap.size=B:=⟨_,rfl⟩
  rw [hBd] at hrow HB1
  have kd:=Below.drew (Below.refl w3.heap.size w3)
  have hJ0:JV w [.int .i64 2,.slice A n c] (.slice A5 n c5) n ((srt l).map i64) B (fun _=>False) w3.drew:=⟨Below.call (Below.call HA1.out.2 k3) kd,(HA1.out.1.on k3).on kd,fun _=>hrow⟩
  have HCMP:Hid (∀ u,u.ownsRow B 3 1 (.slice A5 n c5) n ((srt l).map i64)→Calls Tryz.prog 54 #[.slice A5 n c5] u fun e w'=>e=.returned (.slice A5 (Lib.compact (srt l)).length c5)∧Below B u w'):=Lib.hid fun u h=>compact_any h (by have:=HN.out;have:=HL.out;omega)
  obtain ⟨q,hq⟩:∃ q,(Lib.compact (srt l)).length=q:=⟨_,rfl⟩
  have hq2:=HQ.out
  rw [hq,srt_len,srt_nodup,HN.out] at hq2
  rw [hq] at HCMP
  have HIN:=Lib.hid fun u=>inC_any (n:Int) 0 0 u
  have HQ2:=Lib.hid hq2.2
  have hqn:=hq2.1
  clear hq hq2 hrow k3 kd hBd HSO
  go_upto_region 10 with fail
  by_cases hin:n=0
  rotate_left
  ·
   rw [show (decide ((0:Int)≤(n:Int))&&decide ((n:Int)≤0))=false by simp;omega] at HIN
   have HF:Hid (E=1):=Lib.hid (by rw [← HE.out,if_neg (by simp;omega)])
   refine wp_region_allA (JV w [.int .i64 2,.slice A n c] (.slice A5 n c5) n ((srt l).map i64) B) [Spec.eq (.slice A5 n c5),Spec.eq (.int .i64 (n:Int)),Spec.eq (.int .i64 0),Spec.eq (.int .i64 0),Spec.eq (.bool false),Spec.eq (.bool true),Spec.eq (.bool true),Spec.eq undef,Spec.eq undef,Spec.eq undef,Spec.eq undef,Spec.eq undef,Spec.eq undef,Spec.eq undef,Spec.eq (.bool true)]
    (by kernel_rfl) (by kernel_rfl) rfl (by kernel_rfl) hJ0 ?_ ?_
   ·
    refine RegStepsA.cons ?_ ?_
    ·intro DD az wz hcl hw hnd hC hdf hF hD K hK;replace hdf:=Lib.hid hdf
     have q5:az.tmps[5]? = some (.slice A5 n c5):=hF 5 rfl
     clear hF hD
     refine want_none rfl ?_
     go_simp
     exact hK _ _ (hC.pure (by decide)) UpE15 rfl
    refine RegStepsA.cons ?_ ?_
    ·intro DD az wz hcl hw hnd hC hdf hF hD K hK;replace hdf:=Lib.hid hdf
     obtain ⟨_,q18,rfl⟩:=dep hD 0 rfl rfl rfl rfl
     clear hF hD
     refine want_none rfl ?_
     go_simp
     exact hK _ _ (hC.pure (by decide)) UpE15 rfl
    refine RegStepsA.cons ?_ ?_
    ·intro DD az wz hcl hw hnd hC hdf hF hD K hK;replace hdf:=Lib.hid hdf
     have q3:az.tmps[3]? = some (.int .i64 0):=hF 3 rfl
     clear hF hD
     refine want_none rfl ?_
     go_simp
     exact hK _ _ (hC.pure (by decide)) UpE15 rfl
    refine RegStepsA.cons ?_ ?_
    ·intro DD az wz hcl hw hnd hC hdf hF hD K hK;replace hdf:=Lib.hid hdf
     have q4:az.tmps[4]? = some (.int .i64 0):=hF 4 rfl
     clear hF hD
     refine want_none rfl ?_
     go_simp
     exact hK _ _ (hC.pure (by decide)) UpE15 rfl
    refine RegStepsA.cons ?_ ?_
    ·intro DD az wz hcl hw hnd hC hdf hF hD K hK;replace hdf:=Lib.hid hdf
     obtain ⟨_,q19,rfl⟩:=dep hD 1 rfl rfl rfl rfl
     obtain ⟨_,q20,rfl⟩:=dep hD 2 rfl rfl rfl rfl
     obtain ⟨_,q21,rfl⟩:=dep hD 3 rfl rfl rfl rfl
     clear hF hD
     refine want_none rfl ?_
     go_simp
     refine (HIN.out _).mono ?_
     rintro e wy ⟨rfl,e_⟩
     subst e_
     exact hK _ _ (hC.pure (by decide)) UpE15 rfl
    refine RegStepsA.cons ?_ ?_
    ·intro DD az wz hcl hw hnd hC hdf hF hD K hK;replace hdf:=Lib.hid hdf
     obtain ⟨_,q22,rfl⟩:=dep hD 4 rfl rfl rfl rfl
     clear hF hD
     refine want_none rfl ?_
     go_simp
     exact hK _ _ (hC.pure (by decide)) UpE15 rfl
    refine RegStepsA.cons ?_ ?_
    ·intro DD az wz hcl hw hnd hC hdf hF hD K hK;replace hdf:=Lib.hid hdf
     obtain ⟨_,q23,rfl⟩:=dep hD 5 rfl rfl rfl rfl
     clear hF hD
     refine want_none rfl ?_
     go_simp
     exact hK _ _ (hC.pure (by decide)) UpE15 rfl
    refine RegStepsA.cons ?_ ?_
    ·intro DD az wz hcl hw hnd hC hdf hF hD K hK;obtain ⟨_,qg,rfl⟩:=dep hD 6 rfl rfl rfl rfl;exact want_no rfl rfl rfl qg rfl (hK _ wz (by first | exact hC.pure (by decide) | exact hC.skip) UpE15 rfl)
    refine RegStepsA.cons ?_ ?_
    ·intro DD az wz hcl hw hnd hC hdf hF hD K hK;obtain ⟨_,qg,rfl⟩:=dep hD 6 rfl rfl rfl rfl;exact want_no rfl rfl rfl qg rfl (hK _ wz (by first | exact hC.pure (by decide) | exact hC.skip) UpE15 rfl)
    refine RegStepsA.cons ?_ ?_
    ·intro DD az wz hcl hw hnd hC hdf hF hD K hK;obtain ⟨_,qg,rfl⟩:=dep hD 6 rfl rfl rfl rfl;exact want_no rfl rfl rfl qg rfl (hK _ wz (by first | exact hC.pure (by decide) | exact hC.skip) UpE15 rfl)
    refine RegStepsA.cons ?_ ?_
    ·intro DD az wz hcl hw hnd hC hdf hF hD K hK;obtain ⟨_,qg,rfl⟩:=dep hD 6 rfl rfl rfl rfl;exact want_no rfl rfl rfl qg rfl (hK _ wz (by first | exact hC.pure (by decide) | exact hC.skip) UpE15 rfl)
    refine RegStepsA.cons ?_ ?_
    ·intro DD az wz hcl hw hnd hC hdf hF hD K hK;obtain ⟨_,qg,rfl⟩:=dep hD 6 rfl rfl rfl rfl;exact want_no rfl rfl rfl qg rfl (hK _ wz (by first | exact hC.pure (by decide) | exact hC.skip) UpE15 rfl)
    refine RegStepsA.cons ?_ ?_
    ·intro DD az wz hcl hw hnd hC hdf hF hD K hK;obtain ⟨_,qg,rfl⟩:=dep hD 6 rfl rfl rfl rfl;exact want_no rfl rfl rfl qg rfl (hK _ wz (by first | exact hC.pure (by decide) | exact hC.skip) UpE15 rfl)
    refine RegStepsA.cons ?_ ?_
    ·intro DD az wz hcl hw hnd hC hdf hF hD K hK;obtain ⟨_,qg,rfl⟩:=dep hD 6 rfl rfl rfl rfl;exact want_no rfl rfl rfl qg rfl (hK _ wz (by first | exact hC.pure (by decide) | exact hC.skip) UpE15 rfl)
    refine RegStepsA.cons ?_ ?_
    ·intro DD az wz hcl hw hnd hC hdf hF hD K hK;replace hdf:=Lib.hid hdf
     obtain ⟨_,q24,rfl⟩:=dep hD 6 rfl rfl rfl rfl
     obtain ⟨_,q31,rfl⟩:=dep hD 13 rfl rfl rfl rfl
     clear hF hD
     refine want_none rfl ?_
     go_simp
     exact hK _ _ (hC.pure (by decide)) UpE15 rfl
    exact RegStepsA.nil
   intro w4 hJ
   rintro _ rfl _ rfl _ rfl _ rfl _ rfl _ rfl _ rfl _ rfl _ rfl _ rfl _ rfl _ rfl _ rfl _ rfl _ rfl
   simp only [FinOK,Act.put,List.setIfInBounds_toArray,List.set_cons_zero,List.set_cons_succ]
   have HB4:=Lib.hid hJ.1
   clear hJ hJ0
   go_wp2
   go_returns
   exact ⟨by rw [HF.out];simp,HB4.out⟩
  rw [show (decide ((0:Int)≤(n:Int))&&decide ((n:Int)≤0))=true by simp;omega] at HIN
  have HE2:Hid (E=if (decide l.Nodup&&!(l.any noOff))=true then 0 else 1):=Lib.hid (by rw [← HE.out];simp [hin])
  have HIN9:=Lib.hid hin
  clear hin
  by_cases hd:q<n
  ·
   have HDD:Hid ((q:Int)<(n:Int)):=Lib.hid (by omega)
   have HF:Hid (E=1):=Lib.hid (by rw [HE2.out,decide_eq_false (HQ2.out.1 hd)];rfl)
   refine wp_region_allA (JV w [.int .i64 2,.slice A n c] (.slice A5 n c5) n ((srt l).map i64) B) [Spec.eq (.slice A5 n c5),Spec.eq (.int .i64 (n:Int)),Spec.eq (.int .i64 0),Spec.eq (.int .i64 0),Spec.eq (.bool true),Spec.eq (.bool false),Spec.eq (.bool false),Spec.eq (.slice A5 n c5),Spec.eq (.slice A5 q c5),Spec.eq (.int .i64 (q:Int)),Spec.eq (.pointer (some ⟨w.heap.size,1,none⟩)),Spec.eq (.slice A n c),Spec.eq (.int .i64 (n:Int)),Spec.eq (.bool true),Spec.eq (.bool true)]
    (by kernel_rfl) (by kernel_rfl) rfl (by kernel_rfl) hJ0 ?_ ?_
   ·
    refine RegStepsA.cons ?_ ?_
    ·intro DD az wz hcl hw hnd hC hdf hF hD K hK;replace hdf:=Lib.hid hdf
     have q5:az.tmps[5]? = some (.slice A5 n c5):=hF 5 rfl
     clear hF hD
     refine want_none rfl ?_
     go_simp
     exact hK _ _ (hC.pure (by decide)) UpE15 rfl
    refine RegStepsA.cons ?_ ?_
    ·intro DD az wz hcl hw hnd hC hdf hF hD K hK;replace hdf:=Lib.hid hdf
     obtain ⟨_,q18,rfl⟩:=dep hD 0 rfl rfl rfl rfl
     clear hF hD
     refine want_none rfl ?_
     go_simp
     exact hK _ _ (hC.pure (by decide)) UpE15 rfl
    refine RegStepsA.cons ?_ ?_
    ·intro DD az wz hcl hw hnd hC hdf hF hD K hK;replace hdf:=Lib.hid hdf
     have q3:az.tmps[3]? = some (.int .i64 0):=hF 3 rfl
     clear hF hD
     refine want_none rfl ?_
     go_simp
     exact hK _ _ (hC.pure (by decide)) UpE15 rfl
    refine RegStepsA.cons ?_ ?_
    ·intro DD az wz hcl hw hnd hC hdf hF hD K hK;replace hdf:=Lib.hid hdf
     have q4:az.tmps[4]? = some (.int .i64 0):=hF 4 rfl
     clear hF hD
     refine want_none rfl ?_
     go_simp
     exact hK _ _ (hC.pure (by decide)) UpE15 rfl
    refine RegStepsA.cons ?_ ?_
    ·intro DD az wz hcl hw hnd hC hdf hF hD K hK;replace hdf:=Lib.hid hdf
     obtain ⟨_,q19,rfl⟩:=dep hD 1 rfl rfl rfl rfl
     obtain ⟨_,q20,rfl⟩:=dep hD 2 rfl rfl rfl rfl
     obtain ⟨_,q21,rfl⟩:=dep hD 3 rfl rfl rfl rfl
     clear hF hD
     refine want_none rfl ?_
     go_simp
     refine (HIN.out _).mono ?_
     rintro e wy ⟨rfl,e_⟩
     subst e_
     exact hK _ _ (hC.pure (by decide)) UpE15 rfl
    refine RegStepsA.cons ?_ ?_
    ·intro DD az wz hcl hw hnd hC hdf hF hD K hK;replace hdf:=Lib.hid hdf
     obtain ⟨_,q22,rfl⟩:=dep hD 4 rfl rfl rfl rfl
     clear hF hD
     refine want_none rfl ?_
     go_simp
     exact hK _ _ (hC.pure (by decide)) UpE15 rfl
    refine RegStepsA.cons ?_ ?_
    ·intro DD az wz hcl hw hnd hC hdf hF hD K hK;replace hdf:=Lib.hid hdf
     obtain ⟨_,q23,rfl⟩:=dep hD 5 rfl rfl rfl rfl
     clear hF hD
     refine want_none rfl ?_
     go_simp
     exact hK _ _ (hC.pure (by decide)) UpE15 rfl
    refine RegStepsA.cons ?_ ?_
    ·intro DD az wz hcl hw hnd hC hdf hF hD K hK;replace hdf:=Lib.hid hdf
     have q5:az.tmps[5]? = some (.slice A5 n c5):=hF 5 rfl
     obtain ⟨_,qg,rfl⟩:=dep hD 6 rfl rfl rfl rfl
     clear hF hD
     refine want_yes rfl rfl rfl qg ?_
     go_simp
     exact hK _ _ (hC.pure (by decide)) UpE15 rfl
    refine RegStepsA.cons ?_ ?_
    ·intro DD az wz hcl hw hnd hC hdf hF hD K hK;replace hdf:=Lib.hid hdf
     obtain ⟨_,q25,rfl⟩:=dep hD 7 rfl rfl rfl rfl
     obtain ⟨_,qg,rfl⟩:=dep hD 6 rfl rfl rfl rfl
     have hr:=hC.2.2 hnd
     have hb2:=hC.1
     have ho2:=hC.2.1
     clear hF hD hC
     refine want_yes rfl rfl rfl qg ?_
     go_simp
     refine (HCMP.out wz hr).mono ?_
     rintro e wy ⟨rfl,k⟩
     exact hK _ _ (JV.cmp hb2 ho2 k HB1.out) UpE15 rfl
    refine RegStepsA.cons ?_ ?_
    ·intro DD az wz hcl hw hnd hC hdf hF hD K hK;replace hdf:=Lib.hid hdf
     obtain ⟨_,q26,rfl⟩:=dep hD 8 rfl rfl rfl rfl
     obtain ⟨_,qg,rfl⟩:=dep hD 6 rfl rfl rfl rfl
     clear hF hD
     refine want_yes rfl rfl rfl qg ?_
     go_simp
     exact hK _ _ (hC.pure (by decide)) UpE15 rfl
    refine RegStepsA.cons ?_ ?_
    ·intro DD az wz hcl hw hnd hC hdf hF hD K hK;replace hdf:=Lib.hid hdf
     have q1:az.tmps[1]? = some (.pointer (some ⟨w.heap.size,0,none⟩)):=hF 1 rfl
     obtain ⟨_,qg,rfl⟩:=dep hD 6 rfl rfl rfl rfl
     clear hF hD
     refine want_yes rfl rfl rfl qg ?_
     go_simp
     exact hK _ _ (hC.pure (by decide)) UpE15 rfl
    refine RegStepsA.cons ?_ ?_
    ·intro DD az wz hcl hw hnd hC hdf hF hD K hK;replace hdf:=Lib.hid hdf
     obtain ⟨_,q28,rfl⟩:=dep hD 10 rfl rfl rfl rfl
     obtain ⟨_,qg,rfl⟩:=dep hD 6 rfl rfl rfl rfl
     have z1:wz.cell? ⟨w.heap.size,1,none⟩=some (.slice A n c):=hC.2.1.cell 1
     clear hF hD
     refine want_yes rfl rfl rfl qg ?_
     go_simp
     exact hK _ _ (hC.pure (by decide)) UpE15 rfl
    refine RegStepsA.cons ?_ ?_
    ·intro DD az wz hcl hw hnd hC hdf hF hD K hK;replace hdf:=Lib.hid hdf
     obtain ⟨_,q29,rfl⟩:=dep hD 11 rfl rfl rfl rfl
     obtain ⟨_,qg,rfl⟩:=dep hD 6 rfl rfl rfl rfl
     clear hF hD
     refine want_yes rfl rfl rfl qg ?_
     go_simp
     exact hK _ _ (hC.pure (by decide)) UpE15 rfl
    refine RegStepsA.cons ?_ ?_
    ·intro DD az wz hcl hw hnd hC hdf hF hD K hK;replace hdf:=Lib.hid hdf
     obtain ⟨_,q27,rfl⟩:=dep hD 9 rfl rfl rfl rfl
     obtain ⟨_,q30,rfl⟩:=dep hD 12 rfl rfl rfl rfl
     obtain ⟨_,qg,rfl⟩:=dep hD 6 rfl rfl rfl rfl
     have hdd_:=HDD.out
     clear hF hD
     refine want_yes rfl rfl rfl qg ?_
     go_simp
     exact hK _ _ (hC.pure (by decide)) UpE15 rfl
    refine RegStepsA.cons ?_ ?_
    ·intro DD az wz hcl hw hnd hC hdf hF hD K hK;replace hdf:=Lib.hid hdf
     obtain ⟨_,q24,rfl⟩:=dep hD 6 rfl rfl rfl rfl
     obtain ⟨_,q31,rfl⟩:=dep hD 13 rfl rfl rfl rfl
     clear hF hD
     refine want_none rfl ?_
     go_simp
     exact hK _ _ (hC.pure (by decide)) UpE15 rfl
    exact RegStepsA.nil
   intro w4 hJ
   rintro _ rfl _ rfl _ rfl _ rfl _ rfl _ rfl _ rfl _ rfl _ rfl _ rfl _ rfl _ rfl _ rfl _ rfl _ rfl
   simp only [FinOK,Act.put,List.setIfInBounds_toArray,List.set_cons_zero,List.set_cons_succ]
   have HB4:=Lib.hid hJ.1
   clear hJ hJ0
   go_wp2
   go_returns
   exact ⟨by rw [HF.out];simp,HB4.out⟩
  have hnd2:l.Nodup:=Classical.byContradiction fun h=>hd (HQ2.out.2 h)
  have HDD:Hid (¬ (q:Int)<(n:Int)):=Lib.hid (by omega)
  have HE3:Hid (E=if (l.any noOff)=true then 1 else 0):=Lib.hid (by rw [HE2.out,decide_eq_true hnd2];cases l.any noOff <;> rfl)
  clear hnd2
  refine wp_region_allA (JV w [.int .i64 2,.slice A n c] (.slice A5 n c5) n ((srt l).map i64) B) [Spec.eq (.slice A5 n c5),Spec.eq (.int .i64 (n:Int)),Spec.eq (.int .i64 0),Spec.eq (.int .i64 0),Spec.eq (.bool true),Spec.eq (.bool false),Spec.eq (.bool false),Spec.eq (.slice A5 n c5),Spec.eq (.slice A5 q c5),Spec.eq (.int .i64 (q:Int)),Spec.eq (.pointer (some ⟨w.heap.size,1,none⟩)),Spec.eq (.slice A n c),Spec.eq (.int .i64 (n:Int)),Spec.eq (.bool false),Spec.eq (.bool false)]
   (by kernel_rfl) (by kernel_rfl) rfl (by kernel_rfl) hJ0 ?_ ?_
  ·
   refine RegStepsA.cons ?_ ?_
   ·intro DD az wz hcl hw hnd hC hdf hF hD K hK;replace hdf:=Lib.hid hdf
    have q5:az.tmps[5]? = some (.slice A5 n c5):=hF 5 rfl
    clear hF hD
    refine want_none rfl ?_
    go_simp
    exact hK _ _ (hC.pure (by decide)) UpE15 rfl
   refine RegStepsA.cons ?_ ?_
   ·intro DD az wz hcl hw hnd hC hdf hF hD K hK;replace hdf:=Lib.hid hdf
    obtain ⟨_,q18,rfl⟩:=dep hD 0 rfl rfl rfl rfl
    clear hF hD
    refine want_none rfl ?_
    go_simp
    exact hK _ _ (hC.pure (by decide)) UpE15 rfl
   refine RegStepsA.cons ?_ ?_
   ·intro DD az wz hcl hw hnd hC hdf hF hD K hK;replace hdf:=Lib.hid hdf
    have q3:az.tmps[3]? = some (.int .i64 0):=hF 3 rfl
    clear hF hD
    refine want_none rfl ?_
    go_simp
    exact hK _ _ (hC.pure (by decide)) UpE15 rfl
   refine RegStepsA.cons ?_ ?_
   ·intro DD az wz hcl hw hnd hC hdf hF hD K hK;replace hdf:=Lib.hid hdf
    have q4:az.tmps[4]? = some (.int .i64 0):=hF 4 rfl
    clear hF hD
    refine want_none rfl ?_
    go_simp
    exact hK _ _ (hC.pure (by decide)) UpE15 rfl
   refine RegStepsA.cons ?_ ?_
   ·intro DD az wz hcl hw hnd hC hdf hF hD K hK;replace hdf:=Lib.hid hdf
    obtain ⟨_,q19,rfl⟩:=dep hD 1 rfl rfl rfl rfl
    obtain ⟨_,q20,rfl⟩:=dep hD 2 rfl rfl rfl rfl
    obtain ⟨_,q21,rfl⟩:=dep hD 3 rfl rfl rfl rfl
    clear hF hD
    refine want_none rfl ?_
    go_simp
    refine (HIN.out _).mono ?_
    rintro e wy ⟨rfl,e_⟩
    subst e_
    exact hK _ _ (hC.pure (by decide)) UpE15 rfl
   refine RegStepsA.cons ?_ ?_
   ·intro DD az wz hcl hw hnd hC hdf hF hD K hK;replace hdf:=Lib.hid hdf
    obtain ⟨_,q22,rfl⟩:=dep hD 4 rfl rfl rfl rfl
    clear hF hD
    refine want_none rfl ?_
    go_simp
    exact hK _ _ (hC.pure (by decide)) UpE15 rfl
   refine RegStepsA.cons ?_ ?_
   ·intro DD az wz hcl hw hnd hC hdf hF hD K hK;replace hdf:=Lib.hid hdf
    obtain ⟨_,q23,rfl⟩:=dep hD 5 rfl rfl rfl rfl
    clear hF hD
    refine want_none rfl ?_
    go_simp
    exact hK _ _ (hC.pure (by decide)) UpE15 rfl
   refine RegStepsA.cons ?_ ?_
   ·intro DD az wz hcl hw hnd hC hdf hF hD K hK;replace hdf:=Lib.hid hdf
    have q5:az.tmps[5]? = some (.slice A5 n c5):=hF 5 rfl
    obtain ⟨_,qg,rfl⟩:=dep hD 6 rfl rfl rfl rfl
    clear hF hD
    refine want_yes rfl rfl rfl qg ?_
    go_simp
    exact hK _ _ (hC.pure (by decide)) UpE15 rfl
   refine RegStepsA.cons ?_ ?_
   ·intro DD az wz hcl hw hnd hC hdf hF hD K hK;replace hdf:=Lib.hid hdf
    obtain ⟨_,q25,rfl⟩:=dep hD 7 rfl rfl rfl rfl
    obtain ⟨_,qg,rfl⟩:=dep hD 6 rfl rfl rfl rfl
    have hr:=hC.2.2 hnd
    have hb2:=hC.1
    have ho2:=hC.2.1
    clear hF hD hC
    refine want_yes rfl rfl rfl qg ?_
    go_simp
    refine (HCMP.out wz hr).mono ?_
    rintro e wy ⟨rfl,k⟩
    exact hK _ _ (JV.cmp hb2 ho2 k HB1.out) UpE15 rfl
   refine RegStepsA.cons ?_ ?_
   ·intro DD az wz hcl hw hnd hC hdf hF hD K hK;replace hdf:=Lib.hid hdf
    obtain ⟨_,q26,rfl⟩:=dep hD 8 rfl rfl rfl rfl
    obtain ⟨_,qg,rfl⟩:=dep hD 6 rfl rfl rfl rfl
    clear hF hD
    refine want_yes rfl rfl rfl qg ?_
    go_simp
    exact hK _ _ (hC.pure (by decide)) UpE15 rfl
   refine RegStepsA.cons ?_ ?_
   ·intro DD az wz hcl hw hnd hC hdf hF hD K hK;replace hdf:=Lib.hid hdf
    have q1:az.tmps[1]? = some (.pointer (some ⟨w.heap.size,0,none⟩)):=hF 1 rfl
    obtain ⟨_,qg,rfl⟩:=dep hD 6 rfl rfl rfl rfl
    clear hF hD
    refine want_yes rfl rfl rfl qg ?_
    go_simp
    exact hK _ _ (hC.pure (by decide)) UpE15 rfl
   refine RegStepsA.cons ?_ ?_
   ·intro DD az wz hcl hw hnd hC hdf hF hD K hK;replace hdf:=Lib.hid hdf
    obtain ⟨_,q28,rfl⟩:=dep hD 10 rfl rfl rfl rfl
    obtain ⟨_,qg,rfl⟩:=dep hD 6 rfl rfl rfl rfl
    have z1:wz.cell? ⟨w.heap.size,1,none⟩=some (.slice A n c):=hC.2.1.cell 1
    clear hF hD
    refine want_yes rfl rfl rfl qg ?_
    go_simp
    exact hK _ _ (hC.pure (by decide)) UpE15 rfl
   refine RegStepsA.cons ?_ ?_
   ·intro DD az wz hcl hw hnd hC hdf hF hD K hK;replace hdf:=Lib.hid hdf
    obtain ⟨_,q29,rfl⟩:=dep hD 11 rfl rfl rfl rfl
    obtain ⟨_,qg,rfl⟩:=dep hD 6 rfl rfl rfl rfl
    clear hF hD
    refine want_yes rfl rfl rfl qg ?_
    go_simp
    exact hK _ _ (hC.pure (by decide)) UpE15 rfl
   refine RegStepsA.cons ?_ ?_
   ·intro DD az wz hcl hw hnd hC hdf hF hD K hK;replace hdf:=Lib.hid hdf
    obtain ⟨_,q27,rfl⟩:=dep hD 9 rfl rfl rfl rfl
    obtain ⟨_,q30,rfl⟩:=dep hD 12 rfl rfl rfl rfl
    obtain ⟨_,qg,rfl⟩:=dep hD 6 rfl rfl rfl rfl
    have hdd_:=HDD.out
    clear hF hD
    refine want_yes rfl rfl rfl qg ?_
    go_simp
    exact hK _ _ (hC.pure (by decide)) UpE15 rfl
   refine RegStepsA.cons ?_ ?_
   ·intro DD az wz hcl hw hnd hC hdf hF hD K hK;replace hdf:=Lib.hid hdf
    obtain ⟨_,q24,rfl⟩:=dep hD 6 rfl rfl rfl rfl
    obtain ⟨_,q31,rfl⟩:=dep hD 13 rfl rfl rfl rfl
    clear hF hD
    refine want_none rfl ?_
    go_simp
    exact hK _ _ (hC.pure (by decide)) UpE15 rfl
   exact RegStepsA.nil
  intro w4 hJ
  rintro _ rfl _ rfl _ rfl _ rfl _ rfl _ rfl _ rfl _ rfl _ rfl _ rfl _ rfl _ rfl _ rfl _ rfl _ rfl
  simp only [FinOK,Act.put,List.setIfInBounds_toArray,List.set_cons_zero,List.set_cons_succ]
  have HA4:=Lib.hid hJ
  clear hJ hJ0
  obtain ⟨ab,hab⟩:∃ b,l.any noOff=b:=⟨_,rfl⟩
  have HCO:=Lib.hid (containsI_any (c:=c) HL.out (HI.out.on HA4.out.1))
  rw [hab,HN.out] at HCO
  rw [hab] at HE3
  have y1:=HA4.out.2.1.c1
  clear hab
  go_wp2_with fail
  refine HCO.out.mono ?_
  rintro e w5 ⟨rfl,k5⟩
  have HB5:=Lib.hid (Below.call HA4.out.1 k5)
  clear k5 y1
  cases ab
  ·have HF:Hid (E=0):=Lib.hid (by rw [HE3.out];rfl)
   go_wp2
   go_returns
   exact ⟨by rw [HF.out];simp,HB5.out⟩
  ·have HF:Hid (E=1):=Lib.hid (by rw [HE3.out];rfl)
   go_wp2
   go_returns
   exact ⟨by rw [HF.out];simp,HB5.out⟩
 ·
  have hk0:¬ k=0:=by omega
  have hk1:¬ k=1:=by omega
  have hk2:¬ k=2:=by omega
  have HF:Hid (E=1):=Lib.hid (by rw [← HE.out,if_neg (by simp;omega)])
  have z0:(k==0)=false:=by simp [hk0]
  have z1:(k==1)=false:=by simp [hk1]
  have z2:(k==2)=false:=by simp [hk2]
  clear hk
  go_enter Tryz.func23,Tryz.ntmps23
  go_upto_region 1 with fail
  refine wp_new1 fun W0 hA hB=>?_
  have y0:=hA.c0
  have y1:=hA.c1
  have HB:=Lib.hid hB
  clear hA hB
  go_wp2
  go_returns
  exact ⟨by rw [HF.out];simp,HB.out⟩
end Go.Proofs.YtmlpibdincfgbaaGreatDoor
