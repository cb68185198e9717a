/- SpanInverts returns true for every input: the edits that undo are the reference's and undo. No condition. -/
import Derived.Test.YtapginodpikijaaSpanSame
import Derived.Deep.QuietTactic
import Derived.BigQuiet
namespace Go.Proofs.Ytapginodpikijaa
open Go.ChangeShapes Go.WideShapes Go.ChangeAt Go.RowKit
open Go.Lib hiding intOf

set_option maxRecDepth 100000 in
set_option maxHeartbeats 8000000 in
theorem inverts_few (src : List UInt8) (A : Option Addr) (len cap : Nat) (es : List ED) (w : World) (HE : Hid (EditsAt w A len es)) (hlen : len ≤ maxLen) (hfew : fewB src es = false) : Calls Try.prog 4 #[.string (bs src), .slice A len cap] w (RB true w) := by
  go_enter Try.func4, Try.ntmps4
  go_wp2_with fail
  refine (fewP_any src A len cap es w HE.out hlen).mono ?_
  rintro e w1 ⟨rfl, hb1⟩
  rw [hfew]
  go_wp2_with fail
  refine (livesP_any _).mono ?_
  rintro e w9 ⟨rfl, hb9⟩
  go_wp2_with fail
  go_ret
  exact ⟨rfl, (by with_reducible (repeat (first | exact Gr.refl _ | assumption | apply Gr.alloc | apply Gr.drew | apply Gr.drewN | refine Gr.setCell ?_ (by first | (simp; done) | (simp; omega)) _ | refine Gr.trans ?_ (by assumption))))⟩
set_option maxRecDepth 100000 in
set_option maxHeartbeats 8000000 in
theorem inverts_bad (src : List UInt8) (A : Option Addr) (len cap : Nat) (es : List ED) (w : World) (HE : Hid (EditsAt w A len es)) (hlen : len ≤ maxLen) (hfew : fewB src es = true) (hl5 : len ≤ 5000) (HC : Hid (checkF es src.length ≠ 0)) : Calls Try.prog 4 #[.string (bs src), .slice A len cap] w (RB true w) := by
  generalize hK : checkF es src.length = K
  have HK := Lib.hid hK
  have hk1 : (K == 0) = false := by rw [← hK]; simpa using HC.out
  have hk2 : (K != 0) = true := by rw [← hK]; simpa using HC.out
  clear hK
  go_enter Try.func4, Try.ntmps4
  go_wp2_with fail
  refine (fewP_any src A len cap es w HE.out hlen).mono ?_
  rintro e w1 ⟨rfl, hb1⟩
  rw [hfew]
  go_wp2_with fail
  refine (invertP_bad src A len cap es _ (HE.out.keep hb1) hl5 HC.out).mono ?_
  rw [HK.out]
  rintro e w2 ⟨rfl, hb2⟩
  have hb12 := hb1.trans hb2
  go_wp2_with fail
  refine (invertRP_bad src A len cap es _ (HE.out.keep hb12) hl5 HC.out).mono ?_
  rw [HK.out]
  rintro e w3 ⟨rfl, hb3⟩
  go_wp2_with fail
  refine (sameP_eq [] none none 0 0 0 _ (EditsAt.nil _ _) (EditsAt.nil _ _) (by omega)).mono ?_
  rintro e w4 ⟨rfl, hb4⟩
  go_wp2_with fail
  refine (livesP_any _).mono ?_
  rintro e w9 ⟨rfl, hb9⟩
  go_wp2_with fail
  go_ret
  exact ⟨rfl, (by with_reducible (repeat (first | exact Gr.refl _ | assumption | apply Gr.alloc | apply Gr.drew | apply Gr.drewN | refine Gr.setCell ?_ (by first | (simp; done) | (simp; omega)) _ | refine Gr.trans ?_ (by assumption))))⟩
set_option maxRecDepth 100000 in
set_option maxHeartbeats 8000000 in
theorem inverts_ok (src : List UInt8) (A : Option Addr) (len cap : Nat) (ns : List EN) (w : World) (HE : Hid (EditsAt w A len (ns.map EN.ed))) (hlen : len ≤ maxLen) (hfew : fewB src (ns.map EN.ed) = true) (hl5 : len ≤ 5000) (HC : Hid (checkF (ns.map EN.ed) src.length = 0)) (HOK : Hid (Ok src.length 0 ns)) (h1 : src.length ≤ 300) (h3 : texts ns ≤ 18000) : Calls Try.prog 4 #[.string (bs src), .slice A len cap] w (RB true w) := by
  have hdl := appF_delta src ns 0 HOK.out (Nat.zero_le _)
  have hdb := delta_le src.length ns 0 HOK.out (Nat.zero_le _)
  have hTb : (appF src 0 ns).length ≤ 18600 := by omega
  obtain ⟨i1, i2⟩ := inv_apply src ns HOK.out
  obtain ⟨i3, i4⟩ := inv_sizes src ns HOK.out
  have HI1 := Lib.hid i1
  have HI2 := Lib.hid i2
  have HI5 := Lib.hid (inv_check src ns HOK.out (by omega))
  have i4' : texts (invF src ns) ≤ src.length := i4
  clear i1 i2 i4 hdl hdb
  have es := ns.map EN.ed
  go_enter Try.func4, Try.ntmps4
  go_wp2_with fail
  refine (fewP_any src A len cap _ w HE.out hlen).mono ?_
  rintro e w1 ⟨rfl, hb1⟩
  rw [hfew]
  go_wp2_with fail
  refine (invertP_ok src A len cap ns _ (HE.out.keep hb1) hl5 HC.out HOK.out (by omega)).mono ?_
  rintro e w2 ⟨A2, n2, c2, rfl, hn2, hm2, he2, hb2⟩
  have hb12 := hb1.trans hb2
  have hl2 : (invF src ns).length = n2 := by have := he2.1; simpa using this
  have HE2 := Lib.hid he2
  clear he2
  go_wp2_with fail
  refine (invertRP_ok src A len cap ns _ (HE.out.keep hb12) hl5 HC.out HOK.out (by omega)).mono ?_
  rintro e w3 ⟨A3, n3, c3, rfl, hn3, hm3, he3, hb3⟩
  have hl3 : (invF src ns).length = n3 := by have := he3.1; simpa using this
  obtain rfl : n2 = n3 := by omega
  have hb13 := hb12.trans hb3
  have HE3 := Lib.hid he3
  clear he3
  go_wp2_with fail
  refine (sameP_eq _ A2 A3 n2 c2 c3 _ (HE2.out.keep hb3) HE3.out (by omega)).mono ?_
  rintro e w4 ⟨rfl, hb4⟩
  have hb14 := hb13.trans hb4
  go_wp2_with fail
  refine (applyRP_ok src A len cap ns _ (HE.out.keep hb14) hl5 HC.out HOK.out (by omega)).mono ?_
  rintro e w5 ⟨rfl, hb5⟩
  have hb25 := (hb3.trans hb4).trans hb5
  go_wp2_with fail
  refine (applyP_ok _ A2 n2 c2 (invF src ns) _ (HE2.out.keep hb25) (by omega) HI5.out HI1.out (by omega)).mono ?_
  rw [HI2.out]
  rintro e w6 ⟨rfl, hb6⟩
  go_wp2_with fail
  refine (livesP_any _).mono ?_
  rintro e w9 ⟨rfl, hb9⟩
  go_wp2_with fail
  go_ret
  exact ⟨rfl, (by with_reducible (repeat (first | exact Gr.refl _ | assumption | apply Gr.alloc | apply Gr.drew | apply Gr.drewN | refine Gr.setCell ?_ (by first | (simp; done) | (simp; omega)) _ | refine Gr.trans ?_ (by assumption))))⟩
theorem spanInverts_any (src : List UInt8) (A : Option Addr) (len cap : Nat) (es : List ED) (w : World) (he : EditsAt w A len es) (hlen : len ≤ maxLen) : Calls Try.prog 4 #[.string (bs src), .slice A len cap] w (RB true w) := by
  cases hfew : fewB src es with
  | false => exact inverts_few src A len cap es w (Lib.hid he) hlen hfew
  | true =>
    have hl60 := (few_facts hfew).2.1
    have hl : es.length = len := he.1
    have hl5 : len ≤ 5000 := by omega
    by_cases hc : checkF es src.length = 0
    · obtain ⟨ns, rfl, hok, h1, h2, h3⟩ := few_ok hfew hc
      exact inverts_ok src A len cap ns w (Lib.hid he) hlen hfew hl5 (Lib.hid hc) (Lib.hid hok) h1 h3
    · exact inverts_bad src A len cap es w (Lib.hid he) hlen hfew hl5 (Lib.hid hc)

namespace SpanInverts
set_option maxRecDepth 100000 in
theorem lifted (os : Os) (started : os.Started) (H : Type) (enc : TypeId × Value → H) :
    ReturnsInHanded {} Try.checked os 4 .any (Rows.spanInvertsSpec.pre6 enc Try.prog Try.f4 Rows.spanInvertsRow.domain false) (Rows.spanInvertsSpec.post enc Try.prog Try.f4 false true false false) := by
  refine law_lifted (C := Try.checked) (tb := 4) own started (by kernel_rfl) Try.func4 laidOut rfl rfl Try.underlying4 (by kernel_rfl) ?_
    (ChangeSpec.witness6 (enc := enc) (C := Try.checked) false ⟨#[], #[.string ⟨#[]⟩, .slice none 0 0], []⟩ 8 (by kernel_rfl) (by kernel_rfl) (by kernel_rfl) (by kernel_rfl)) ?_
  · intro ds hl
    match ds, hl with
    | [_, _], _ => rfl
  · intro W base args ds ps hval0 hA0 hlt
    have hval : ∀ (j : Nat) t v, Try.f4.params[j]? = some t → args[j]? = some v → Value.okWide Try.prog W .any base t v := hval0
    have hA : DataW.TrodAll enc Try.prog W 0 (fun _ => true) true Try.f4.params.toList args.toList ds ps := hA0
    rw [Try.params4] at hA hval
    obtain ⟨v0, v1, d0, d1, p0, p1, rfl, rfl, rfl, h0, h1⟩ := trodAll_two hA
    obtain ⟨v0', rfl⟩ := okWide_string Try.underlying9 (hval 0 9 v0 rfl rfl)
    obtain ⟨mv0, hrv0⟩ := Rd.of_trod h0
    obtain ⟨v0q, hcs, hzv0⟩ := Rd.string Try.underlying9 hrv0
    simp only [Value.cells, List.cons.injEq, Value.string.injEq, and_true] at hcs
    subst hcs
    obtain ⟨sv0, rfl⟩ : ∃ l, v0' = bs l := ⟨v0'.data.toList, rfl⟩
    obtain ⟨Av1, lenv1, capv1, rfl⟩ := okWide_slice Try.underlying22 (hval 1 22 v1 rfl rfl)
    obtain ⟨mv1, hrv1⟩ := Rd.of_trod h1
    obtain ⟨A', len', cap', esv1, hcs, hlcv1, hcmv1, hEv1⟩ := rd_edits hrv1
    simp only [Value.cells, List.cons.injEq, Value.slice.injEq, and_true] at hcs
    obtain ⟨rfl, rfl, rfl⟩ := hcs
    exact spanInverts_any sv0 Av1 lenv1 capv1 esv1 W hEv1 (by omega)

theorem proved : Rows.SpanInvertsSaid :=
  OpenClaim.holds_of_wide 4 Try.f4 rfl rfl rfl rfl rfl rfl rfl ⟨rfl, rfl, rfl, rfl, rfl⟩ rfl rfl rfl rfl rfl (by kernel_rfl) Try.func4 (by kernel_rfl)
    (of_decide_eq_true (by kernel_rfl)) (by unfold Func.isWrapper; first | (rw [if_pos (by decide +kernel)]; kernel_rfl) | (rw [if_neg (by decide +kernel)]; exact ⟨rfl, rfl⟩))
    (fun os started H enc _ => lifted os started H enc)
end SpanInverts
end Go.Proofs.Ytapginodpikijaa
