/- SpanCompose returns true for every input: two lists of edits and their composition make the same text; edits and their inverse make the text itself. No condition. -/
import Derived.Test.YtapginodpikijaaSpanComposes
import Derived.Deep.QuietTactic
import Derived.BigQuiet
namespace Go.Proofs.Ytapginodpikijaa
open Go.ChangeShapes Go.WideShapes Go.ChangeAt Go.RowKit
open Go.Lib hiding intOf

set_option maxRecDepth 100000 in
set_option maxHeartbeats 8000000 in
theorem spanCompose_few1 (src : List UInt8) (A B : Option Addr) (la ca lb cb : Nat) (ea : List ED) (w : World) (HA : Hid (EditsAt w A la ea)) (hla : la ≤ maxLen) (hfa : fewB src ea = false) : Calls Try.prog 9 #[.string (bs src), .slice A la ca, .slice B lb cb] w (RB true w) := by
  go_enter Try.func9, Try.ntmps9
  go_wp2_with fail
  refine (fewP_any src A la ca _ w HA.out hla).mono ?_
  rintro e w1 ⟨rfl, hb1⟩
  rw [hfa]
  go_wp2_with fail
  refine (livesP_any _).mono ?_
  rintro e w9 ⟨rfl, hb9⟩
  go_wp2_with fail
  go_ret
  exact ⟨rfl, (by with_reducible (repeat (first | exact Gr.refl _ | assumption | apply Gr.alloc | apply Gr.drew | apply Gr.drewN | refine Gr.setCell ?_ (by first | (simp; done) | (simp; omega)) _ | refine Gr.trans ?_ (by assumption))))⟩
set_option maxRecDepth 100000 in
set_option maxHeartbeats 8000000 in
theorem spanCompose_few2 (src : List UInt8) (A B : Option Addr) (la ca lb cb : Nat) (ea eb : List ED) (w : World) (HA : Hid (EditsAt w A la ea)) (hla : la ≤ maxLen) (HB : Hid (EditsAt w B lb eb)) (hlb : lb ≤ maxLen) (hfa : fewB src ea = true) (hfb : fewB src eb = false) : Calls Try.prog 9 #[.string (bs src), .slice A la ca, .slice B lb cb] w (RB true w) := by
  go_enter Try.func9, Try.ntmps9
  go_wp2_with fail
  refine (fewP_any src A la ca _ w HA.out hla).mono ?_
  rintro e w1 ⟨rfl, hb1⟩
  rw [hfa]
  go_wp2_with fail
  refine (fewP_any src B lb cb _ _ (HB.out.keep hb1) hlb).mono ?_
  rintro e w2 ⟨rfl, hb2⟩
  rw [hfb]
  have hb02 := hb1.trans hb2
  go_wp2_with fail
  refine (livesP_any _).mono ?_
  rintro e w9 ⟨rfl, hb9⟩
  go_wp2_with fail
  go_ret
  exact ⟨rfl, (by with_reducible (repeat (first | exact Gr.refl _ | assumption | apply Gr.alloc | apply Gr.drew | apply Gr.drewN | refine Gr.setCell ?_ (by first | (simp; done) | (simp; omega)) _ | refine Gr.trans ?_ (by assumption))))⟩
set_option maxRecDepth 100000 in
set_option maxHeartbeats 8000000 in
theorem spanCompose_bad1 (src : List UInt8) (A B : Option Addr) (la ca lb cb : Nat) (ea eb : List ED) (w : World) (HA : Hid (EditsAt w A la ea)) (hla : la ≤ maxLen) (HB : Hid (EditsAt w B lb eb)) (hlb : lb ≤ maxLen) (hfa : fewB src ea = true) (hfb : fewB src eb = true) (hl5 : la ≤ 5000) (HC : Hid (checkF ea src.length ≠ 0)) : Calls Try.prog 9 #[.string (bs src), .slice A la ca, .slice B lb cb] w (RB true w) := by
  generalize hK : checkF ea src.length = K
  have HK := Lib.hid hK
  have hk1 : (K == 0) = false := by rw [← hK]; simpa using HC.out
  have hk2 : (K != 0) = true := by rw [← hK]; simpa using HC.out
  clear hK
  go_enter Try.func9, Try.ntmps9
  go_wp2_with fail
  refine (fewP_any src A la ca _ w HA.out hla).mono ?_
  rintro e w1 ⟨rfl, hb1⟩
  rw [hfa]
  go_wp2_with fail
  refine (fewP_any src B lb cb _ _ (HB.out.keep hb1) hlb).mono ?_
  rintro e w2 ⟨rfl, hb2⟩
  rw [hfb]
  have hb02 := hb1.trans hb2
  go_wp2_with fail
  refine (applyP_bad src A la ca ea _ (HA.out.keep hb02) hl5 HC.out).mono ?_
  rw [HK.out]
  rintro e w3 ⟨rfl, hb3⟩
  go_wp2_with fail
  refine (livesP_any _).mono ?_
  rintro e w9 ⟨rfl, hb9⟩
  go_wp2_with fail
  go_ret
  exact ⟨rfl, (by with_reducible (repeat (first | exact Gr.refl _ | assumption | apply Gr.alloc | apply Gr.drew | apply Gr.drewN | refine Gr.setCell ?_ (by first | (simp; done) | (simp; omega)) _ | refine Gr.trans ?_ (by assumption))))⟩
set_option maxRecDepth 100000 in
set_option maxHeartbeats 8000000 in
theorem spanCompose_bad2 (src : List UInt8) (A B : Option Addr) (la ca lb cb : Nat) (a : List EN) (eb : List ED) (w : World) (HA : Hid (EditsAt w A la (a.map EN.ed))) (hla : la ≤ maxLen) (HB : Hid (EditsAt w B lb eb)) (hlb : lb ≤ maxLen) (hfb : fewB src eb = true) (hfa : fewB src (a.map EN.ed) = true) (hl5 : la ≤ 5000) (HCA : Hid (checkF (a.map EN.ed) src.length = 0)) (HOA : Hid (Ok src.length 0 a)) (h1 : src.length ≤ 300) (h3 : texts a ≤ 18000) (hl6 : lb ≤ 5000) (HC : Hid (checkF eb (appF src 0 a).length ≠ 0)) : Calls Try.prog 9 #[.string (bs src), .slice A la ca, .slice B lb cb] w (RB true w) := by
  generalize hK : checkF eb (appF src 0 a).length = K
  have HK := Lib.hid hK
  have hk1 : (K == 0) = false := by rw [← hK]; simpa using HC.out
  have hk2 : (K != 0) = true := by rw [← hK]; simpa using HC.out
  clear hK
  have hdl := appF_delta src a 0 HOA.out (Nat.zero_le _)
  have hdb := delta_le src.length a 0 HOA.out (Nat.zero_le _)
  have hTm : (appF src 0 a).length ≤ 18600 := by omega
  obtain ⟨i1, i2⟩ := inv_apply src a HOA.out
  obtain ⟨i3, i4⟩ := inv_sizes src a HOA.out
  obtain ⟨i5, i6⟩ := comp_apply src a (invF src a) HOA.out i1
  obtain ⟨i7, i8⟩ := comp_sizes src a (invF src a) HOA.out i1
  have i9 := inv_check src a HOA.out (by omega)
  have i0 := comp_check src a (invF src a) HOA.out i1 (by omega)
  rw [i2] at i6
  rw [i2] at i8
  have i4' : texts (invF src a) ≤ src.length := i4
  have i8' : texts (compF src a (invF src a)) ≤ src.length := i8
  have HI1 := Lib.hid i1
  have HI5 := Lib.hid i5
  have HI6 := Lib.hid i6
  have HI9 := Lib.hid i9
  have HI0 := Lib.hid i0
  clear i1 i2 i4 i5 i6 i8 i9 i0 hdl hdb
  go_enter Try.func9, Try.ntmps9
  go_wp2_with fail
  refine (fewP_any src A la ca _ w HA.out hla).mono ?_
  rintro e w1 ⟨rfl, hb1⟩
  rw [hfa]
  go_wp2_with fail
  refine (fewP_any src B lb cb _ _ (HB.out.keep hb1) hlb).mono ?_
  rintro e w2 ⟨rfl, hb2⟩
  rw [hfb]
  have hb02 := hb1.trans hb2
  go_wp2_with fail
  refine (applyP_ok src A la ca a _ (HA.out.keep hb02) hl5 HCA.out HOA.out (by omega)).mono ?_
  rintro e w3 ⟨rfl, hb3⟩
  have hb03 := hb02.trans hb3
  go_wp2_with fail
  refine (invertP_ok src A la ca a _ (HA.out.keep hb03) hl5 HCA.out HOA.out (by omega)).mono ?_
  rintro e w4 ⟨A4, n4, c4, rfl, _, _, he4, hb4⟩
  have hb04 := hb03.trans hb4
  have hl4 : (invF src a).length = n4 := by have := he4.1; simpa using this
  have HE4 := Lib.hid he4
  clear he4
  go_wp2_with fail
  refine (composeP_ok src A A4 la ca n4 c4 a (invF src a) _ (HA.out.keep hb04) hl5 HCA.out HOA.out (by omega) HE4.out (by omega) HI9.out HI1.out (by omega)).mono ?_
  rintro e w5 ⟨A5, n5, c5, rfl, _, _, he5, hb5⟩
  have hb05 := hb04.trans hb5
  have hl5' : (compF src a (invF src a)).length = n5 := by have := he5.1; simpa using this
  have HE5 := Lib.hid he5
  clear he5
  go_wp2_with fail
  refine (applyP_ok src A5 n5 c5 (compF src a (invF src a)) _ HE5.out (by omega) HI0.out HI5.out (by omega)).mono ?_
  rw [HI6.out]
  rintro e w6 ⟨rfl, hb6⟩
  have hb06 := hb05.trans hb6
  go_wp2_with fail
  refine (applyP_bad (appF src 0 a) B lb cb eb _ (HB.out.keep hb06) hl6 HC.out).mono ?_
  rw [HK.out]
  rintro e w7 ⟨rfl, hb7⟩
  go_wp2_with fail
  refine (livesP_any _).mono ?_
  rintro e w9 ⟨rfl, hb9⟩
  go_wp2_with fail
  go_ret
  exact ⟨rfl, (by with_reducible (repeat (first | exact Gr.refl _ | assumption | apply Gr.alloc | apply Gr.drew | apply Gr.drewN | refine Gr.setCell ?_ (by first | (simp; done) | (simp; omega)) _ | refine Gr.trans ?_ (by assumption))))⟩
set_option maxRecDepth 100000 in
set_option maxHeartbeats 8000000 in
theorem spanCompose_ok (src : List UInt8) (A B : Option Addr) (la ca lb cb : Nat) (a : List EN) (w : World) (HA : Hid (EditsAt w A la (a.map EN.ed))) (hla : la ≤ maxLen) (b : List EN) (HB : Hid (EditsAt w B lb (b.map EN.ed))) (hlb : lb ≤ maxLen) (hfa : fewB src (a.map EN.ed) = true) (hl5 : la ≤ 5000) (HCA : Hid (checkF (a.map EN.ed) src.length = 0)) (HOA : Hid (Ok src.length 0 a)) (h1 : src.length ≤ 300) (h3 : texts a ≤ 18000) (hfb : fewB src (b.map EN.ed) = true) (hl6 : lb ≤ 5000) (HCB : Hid (checkF (b.map EN.ed) (appF src 0 a).length = 0)) (HOB : Hid (Ok (appF src 0 a).length 0 b)) (h4 : texts b ≤ 18000) : Calls Try.prog 9 #[.string (bs src), .slice A la ca, .slice B lb cb] w (RB true w) := by
  have hdl := appF_delta src a 0 HOA.out (Nat.zero_le _)
  have hdb := delta_le src.length a 0 HOA.out (Nat.zero_le _)
  have hTm : (appF src 0 a).length ≤ 18600 := by omega
  obtain ⟨i1, i2⟩ := inv_apply src a HOA.out
  obtain ⟨i3, i4⟩ := inv_sizes src a HOA.out
  obtain ⟨i5, i6⟩ := comp_apply src a (invF src a) HOA.out i1
  obtain ⟨i7, i8⟩ := comp_sizes src a (invF src a) HOA.out i1
  have i9 := inv_check src a HOA.out (by omega)
  have i0 := comp_check src a (invF src a) HOA.out i1 (by omega)
  rw [i2] at i6
  rw [i2] at i8
  have i4' : texts (invF src a) ≤ src.length := i4
  have i8' : texts (compF src a (invF src a)) ≤ src.length := i8
  have HI1 := Lib.hid i1
  have HI5 := Lib.hid i5
  have HI6 := Lib.hid i6
  have HI9 := Lib.hid i9
  have HI0 := Lib.hid i0
  clear i1 i2 i4 i5 i6 i8 i9 i0 hdl hdb
  have hdl2 := appF_delta (appF src 0 a) b 0 HOB.out (Nat.zero_le _)
  have hdb2 := delta_le (appF src 0 a).length b 0 HOB.out (Nat.zero_le _)
  have hTd : (appF (appF src 0 a) 0 b).length ≤ 40000 := by omega
  obtain ⟨j5, j6⟩ := comp_apply src a b HOA.out HOB.out
  obtain ⟨j7, j8⟩ := comp_sizes src a b HOA.out HOB.out
  have j0 := comp_check src a b HOA.out HOB.out (by omega)
  have j8' : texts (compF src a b) ≤ (appF (appF src 0 a) 0 b).length := j8
  have HJ5 := Lib.hid j5
  have HJ6 := Lib.hid j6
  have HJ0 := Lib.hid j0
  clear j5 j6 j8 j0 hdl2 hdb2
  go_enter Try.func9, Try.ntmps9
  go_wp2_with fail
  refine (fewP_any src A la ca _ w HA.out hla).mono ?_
  rintro e w1 ⟨rfl, hb1⟩
  rw [hfa]
  go_wp2_with fail
  refine (fewP_any src B lb cb _ _ (HB.out.keep hb1) hlb).mono ?_
  rintro e w2 ⟨rfl, hb2⟩
  rw [hfb]
  have hb02 := hb1.trans hb2
  go_wp2_with fail
  refine (applyP_ok src A la ca a _ (HA.out.keep hb02) hl5 HCA.out HOA.out (by omega)).mono ?_
  rintro e w3 ⟨rfl, hb3⟩
  have hb03 := hb02.trans hb3
  go_wp2_with fail
  refine (invertP_ok src A la ca a _ (HA.out.keep hb03) hl5 HCA.out HOA.out (by omega)).mono ?_
  rintro e w4 ⟨A4, n4, c4, rfl, _, _, he4, hb4⟩
  have hb04 := hb03.trans hb4
  have hl4 : (invF src a).length = n4 := by have := he4.1; simpa using this
  have HE4 := Lib.hid he4
  clear he4
  go_wp2_with fail
  refine (composeP_ok src A A4 la ca n4 c4 a (invF src a) _ (HA.out.keep hb04) hl5 HCA.out HOA.out (by omega) HE4.out (by omega) HI9.out HI1.out (by omega)).mono ?_
  rintro e w5 ⟨A5, n5, c5, rfl, _, _, he5, hb5⟩
  have hb05 := hb04.trans hb5
  have hl5' : (compF src a (invF src a)).length = n5 := by have := he5.1; simpa using this
  have HE5 := Lib.hid he5
  clear he5
  go_wp2_with fail
  refine (applyP_ok src A5 n5 c5 (compF src a (invF src a)) _ HE5.out (by omega) HI0.out HI5.out (by omega)).mono ?_
  rw [HI6.out]
  rintro e w6 ⟨rfl, hb6⟩
  have hb06 := hb05.trans hb6
  go_wp2_with fail
  refine (applyP_ok (appF src 0 a) B lb cb b _ (HB.out.keep hb06) hl6 HCB.out HOB.out (by omega)).mono ?_
  rintro e w7 ⟨rfl, hb7⟩
  have hb07 := hb06.trans hb7
  go_wp2_with fail
  refine (composeP_ok src A B la ca lb cb a b _ (HA.out.keep hb07) hl5 HCA.out HOA.out (by omega) (HB.out.keep hb07) hl6 HCB.out HOB.out (by omega)).mono ?_
  rintro e w8 ⟨A8, n8, c8, rfl, _, _, he8, hb8⟩
  have hl8 : (compF src a b).length = n8 := by have := he8.1; simpa using this
  have HE8 := Lib.hid he8
  clear he8
  go_wp2_with fail
  refine (applyP_ok src A8 n8 c8 (compF src a b) _ HE8.out (by omega) HJ0.out HJ5.out (by omega)).mono ?_
  rw [HJ6.out]
  rintro e w10 ⟨rfl, hb10⟩
  go_wp2_with fail
  refine (livesP_any _).mono ?_
  rintro e w9 ⟨rfl, hb9⟩
  go_wp2_with fail
  go_ret
  exact ⟨rfl, (by with_reducible (repeat (first | exact Gr.refl _ | assumption | apply Gr.alloc | apply Gr.drew | apply Gr.drewN | refine Gr.setCell ?_ (by first | (simp; done) | (simp; omega)) _ | refine Gr.trans ?_ (by assumption))))⟩
theorem spanCompose_any (src : List UInt8) (A B : Option Addr) (la ca lb cb : Nat) (ea eb : List ED) (w : World) (ha : EditsAt w A la ea) (hla : la ≤ maxLen) (hb : EditsAt w B lb eb) (hlb : lb ≤ maxLen) : Calls Try.prog 9 #[.string (bs src), .slice A la ca, .slice B lb cb] w (RB true w) := by
  cases hfa : fewB src ea with
  | false => exact spanCompose_few1 src A B la ca lb cb ea w (Lib.hid ha) hla hfa
  | true =>
    cases hfb : fewB src eb with
    | false => exact spanCompose_few2 src A B la ca lb cb ea eb w (Lib.hid ha) hla (Lib.hid hb) hlb hfa hfb
    | true =>
      have hl60 := (few_facts hfa).2.1
      have hl61 := (few_facts hfb).2.1
      have hl : ea.length = la := ha.1
      have hl' : eb.length = lb := hb.1
      have hl5 : la ≤ 5000 := by omega
      have hl6 : lb ≤ 5000 := by omega
      by_cases hc : checkF ea src.length = 0
      · obtain ⟨a, rfl, hok, h1, h2, h3⟩ := few_ok hfa hc
        by_cases hc2 : checkF eb (appF src 0 a).length = 0
        · obtain ⟨b, rfl, hok2, h4⟩ := few_okm hfb hc2
          exact spanCompose_ok src A B la ca lb cb a w (Lib.hid ha) hla b (Lib.hid hb) hlb hfa hl5 (Lib.hid hc) (Lib.hid hok) h1 h3 hfb hl6 (Lib.hid hc2) (Lib.hid hok2) h4
        · exact spanCompose_bad2 src A B la ca lb cb a eb w (Lib.hid ha) hla (Lib.hid hb) hlb hfb hfa hl5 (Lib.hid hc) (Lib.hid hok) h1 h3 hl6 (Lib.hid hc2)
      · exact spanCompose_bad1 src A B la ca lb cb ea eb w (Lib.hid ha) hla (Lib.hid hb) hlb hfa hfb hl5 (Lib.hid hc)

namespace SpanCompose
set_option maxRecDepth 100000 in
theorem lifted (os : Os) (started : os.Started) (H : Type) (enc : TypeId × Value → H) :
    ReturnsInHanded {} Try.checked os 9 .any (Rows.spanComposeSpec.pre6 enc Try.prog Try.f9 Rows.spanComposeRow.domain false) (Rows.spanComposeSpec.post enc Try.prog Try.f9 false true false false) := by
  refine law_lifted (C := Try.checked) (tb := 4) own started (by kernel_rfl) Try.func9 laidOut rfl rfl Try.underlying4 (by kernel_rfl) ?_
    (ChangeSpec.witness6 (enc := enc) (C := Try.checked) false ⟨#[], #[.string ⟨#[]⟩, .slice none 0 0, .slice none 0 0], []⟩ 8 (by kernel_rfl) (by kernel_rfl) (by kernel_rfl) (by kernel_rfl)) ?_
  · intro ds hl
    match ds, hl with
    | [_, _, _], _ => rfl
  · intro W base args ds ps hval0 hA0 hlt
    have hval : ∀ (j : Nat) t v, Try.f9.params[j]? = some t → args[j]? = some v → Value.okWide Try.prog W .any base t v := hval0
    have hA : DataW.TrodAll enc Try.prog W 0 (fun _ => true) true Try.f9.params.toList args.toList ds ps := hA0
    rw [Try.params9] at hA hval
    obtain ⟨v0, v1, v2, d0, d1, d2, p0, p1, p2, rfl, rfl, rfl, h0, h1, h2⟩ := trodAll_three hA
    obtain ⟨v0', rfl⟩ := okWide_string Try.underlying9 (hval 0 9 v0 rfl rfl)
    obtain ⟨mv0, hrv0⟩ := Rd.of_trod h0
    obtain ⟨v0q, hcs, hzv0⟩ := Rd.string Try.underlying9 hrv0
    simp only [Value.cells, List.cons.injEq, Value.string.injEq, and_true] at hcs
    subst hcs
    obtain ⟨sv0, rfl⟩ : ∃ l, v0' = bs l := ⟨v0'.data.toList, rfl⟩
    obtain ⟨Av1, lenv1, capv1, rfl⟩ := okWide_slice Try.underlying22 (hval 1 22 v1 rfl rfl)
    obtain ⟨mv1, hrv1⟩ := Rd.of_trod h1
    obtain ⟨A', len', cap', esv1, hcs, hlcv1, hcmv1, hEv1⟩ := rd_edits hrv1
    simp only [Value.cells, List.cons.injEq, Value.slice.injEq, and_true] at hcs
    obtain ⟨rfl, rfl, rfl⟩ := hcs
    obtain ⟨Av2, lenv2, capv2, rfl⟩ := okWide_slice Try.underlying22 (hval 2 22 v2 rfl rfl)
    obtain ⟨mv2, hrv2⟩ := Rd.of_trod h2
    obtain ⟨A', len', cap', esv2, hcs, hlcv2, hcmv2, hEv2⟩ := rd_edits hrv2
    simp only [Value.cells, List.cons.injEq, Value.slice.injEq, and_true] at hcs
    obtain ⟨rfl, rfl, rfl⟩ := hcs
    exact spanCompose_any sv0 Av1 Av2 lenv1 capv1 lenv2 capv2 esv1 esv2 W hEv1 (by omega) hEv2 (by omega)

theorem proved : Rows.SpanComposeSaid :=
  OpenClaim.holds_of_wide 9 Try.f9 rfl rfl rfl rfl rfl rfl rfl ⟨rfl, rfl, rfl, rfl, rfl⟩ rfl rfl rfl rfl rfl (by kernel_rfl) Try.func9 (by kernel_rfl)
    (of_decide_eq_true (by kernel_rfl)) (by unfold Func.isWrapper; first | (rw [if_pos (by decide +kernel)]; kernel_rfl) | (rw [if_neg (by decide +kernel)]; exact ⟨rfl, rfl⟩))
    (fun os started H enc _ => lifted os started H enc)
end SpanCompose
end Go.Proofs.Ytapginodpikijaa
