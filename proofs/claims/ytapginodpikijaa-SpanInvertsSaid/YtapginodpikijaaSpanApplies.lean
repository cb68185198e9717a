/- SpanApplies returns true for every input: the edited text is the reference's. No condition. -/
import Derived.Test.YtapginodpikijaaSpanApplyR
import Derived.Deep.QuietTactic
import Derived.BigQuiet
namespace Go.Proofs.Ytapginodpikijaa
open Go.ChangeShapes Go.WideShapes Go.ChangeAt Go.RowKit
open Go.Lib hiding intOf


theorem few_facts {src : List UInt8} {es : List ED} (h : fewB src es = true) : src.length ≤ 300 ∧ es.length ≤ 60 ∧ ∀ e ∈ es, e.s.length ≤ 300 := by
  unfold fewB at h
  simpa using h
theorem texts_few : ∀ (ns : List EN), (∀ e ∈ ns, e.s.length ≤ 300) → texts ns ≤ ns.length * 300
  | [], _ => by simp [texts]
  | e :: r, h => by
    have h1 := texts_few r (fun x hx => h x (by simp [hx]))
    have h2 := h e (by simp)
    simp only [texts, List.map_cons, List.sum_cons, List.length_cons] at h1 ⊢
    omega
/-- A few edits that are checked: their sizes. -/
theorem few_ok {src : List UInt8} {es : List ED} (h : fewB src es = true) (hc : checkF es src.length = 0) : ∃ ns : List EN, es = ns.map EN.ed ∧ Ok src.length 0 ns ∧ src.length ≤ 300 ∧ ns.length ≤ 60 ∧ texts ns ≤ 18000 := by
  obtain ⟨h1, h2, h3⟩ := few_facts h
  obtain ⟨ns, rfl, h4⟩ := ok_of_check _ _ hc
  have h5 : ns.length ≤ 60 := by simpa using h2
  have h6 := texts_few ns (fun e he => h3 e.ed (List.mem_map.2 ⟨e, he, rfl⟩))
  exact ⟨ns, rfl, h4, h1, h5, by omega⟩
set_option maxRecDepth 100000 in
set_option maxHeartbeats 4000000 in
theorem spanApplies_any (src : List UInt8) (A : Option Addr) (len cap : Nat) (es : List ED) (w : World) (he : EditsAt w A len es) (hlen : len ≤ maxLen) : Calls Try.prog 3 #[.string (bs src), .slice A len cap] w (RB true w) := by
  have hl : es.length = len := he.1
  have HE := Lib.hid he
  clear he
  cases hfew : fewB src es with
  | false =>
    go_enter Try.func3, Try.ntmps3
    go_wp2_with fail
    refine (fewP_any src A len cap es w HE.out hlen).mono ?_
    rintro e w1 ⟨rfl, hb1⟩
    rw [hfew]
    go_wp2_with fail
    refine (livesP_any _).mono ?_
    rintro e w2 ⟨rfl, hb2⟩
    go_wp2_with fail
    go_ret
    exact ⟨rfl, (by with_reducible (repeat (first | exact Gr.refl _ | assumption | apply Gr.alloc | apply Gr.drew | apply Gr.drewN | refine Gr.setCell ?_ (by first | (simp; done) | (simp; omega)) _ | refine Gr.trans ?_ (by assumption))))⟩
  | true =>
    have hl60 := (few_facts hfew).2.1
    have hl5 : len ≤ 5000 := by omega
    by_cases hc : checkF es src.length = 0
    · obtain ⟨ns, rfl, hok, h1, h2, h3⟩ := few_ok hfew hc
      have HC := Lib.hid hc
      have HOK := Lib.hid hok
      clear hc hok
      go_enter Try.func3, Try.ntmps3
      go_wp2_with fail
      refine (fewP_any src A len cap _ w HE.out hlen).mono ?_
      rintro e w1 ⟨rfl, hb1⟩
      rw [hfew]
      go_wp2_with fail
      refine (applyP_ok src A len cap ns _ (HE.out.keep hb1) hl5 HC.out HOK.out (by omega)).mono ?_
      rintro e w2 ⟨rfl, hb2⟩
      have hb12 := hb1.trans hb2
      go_wp2_with fail
      refine (applyRP_ok src A len cap ns _ (HE.out.keep hb12) hl5 HC.out HOK.out (by omega)).mono ?_
      rintro e w3 ⟨rfl, hb3⟩
      go_wp2_with fail
      refine (livesP_any _).mono ?_
      rintro e w4 ⟨rfl, hb4⟩
      go_wp2_with fail
      go_ret
      exact ⟨rfl, (by with_reducible (repeat (first | exact Gr.refl _ | assumption | apply Gr.alloc | apply Gr.drew | apply Gr.drewN | refine Gr.setCell ?_ (by first | (simp; done) | (simp; omega)) _ | refine Gr.trans ?_ (by assumption))))⟩
    · have HC := Lib.hid hc
      clear hc
      go_enter Try.func3, Try.ntmps3
      go_wp2_with fail
      refine (fewP_any src A len cap _ w HE.out hlen).mono ?_
      rintro e w1 ⟨rfl, hb1⟩
      rw [hfew]
      go_wp2_with fail
      refine (applyP_bad src A len cap es _ (HE.out.keep hb1) hl5 HC.out).mono ?_
      rintro e w2 ⟨rfl, hb2⟩
      have hb12 := hb1.trans hb2
      go_wp2_with fail
      refine (applyRP_bad src A len cap es _ (HE.out.keep hb12) hl5 HC.out).mono ?_
      rintro e w3 ⟨rfl, hb3⟩
      go_wp2_with fail
      refine (livesP_any _).mono ?_
      rintro e w4 ⟨rfl, hb4⟩
      go_wp2_with fail
      go_ret
      exact ⟨rfl, (by with_reducible (repeat (first | exact Gr.refl _ | assumption | apply Gr.alloc | apply Gr.drew | apply Gr.drewN | refine Gr.setCell ?_ (by first | (simp; done) | (simp; omega)) _ | refine Gr.trans ?_ (by assumption))))⟩

namespace SpanApplies
set_option maxRecDepth 100000 in
theorem lifted (os : Os) (started : os.Started) (H : Type) (enc : TypeId × Value → H) :
    ReturnsInHanded {} Try.checked os 3 .any (Rows.spanAppliesSpec.pre6 enc Try.prog Try.f3 Rows.spanAppliesRow.domain false) (Rows.spanAppliesSpec.post enc Try.prog Try.f3 false true false false) := by
  refine law_lifted (C := Try.checked) (tb := 4) own started (by kernel_rfl) Try.func3 laidOut rfl rfl Try.underlying4 (by kernel_rfl) ?_
    (ChangeSpec.witness6 (enc := enc) (C := Try.checked) false ⟨#[], #[.string ⟨#[]⟩, .slice none 0 0], []⟩ 8 (by kernel_rfl) (by kernel_rfl) (by kernel_rfl) (by kernel_rfl)) ?_
  · intro ds hl
    match ds, hl with
    | [_, _], _ => rfl
  · intro W base args ds ps hval0 hA0 hlt
    have hval : ∀ (j : Nat) t v, Try.f3.params[j]? = some t → args[j]? = some v → Value.okWide Try.prog W .any base t v := hval0
    have hA : DataW.TrodAll enc Try.prog W 0 (fun _ => true) true Try.f3.params.toList args.toList ds ps := hA0
    rw [Try.params3] at hA hval
    obtain ⟨v0, v1, d0, d1, p0, p1, rfl, rfl, rfl, h0, h1⟩ := trodAll_two hA
    obtain ⟨v0', rfl⟩ := okWide_string Try.underlying9 (hval 0 9 v0 rfl rfl)
    obtain ⟨mv0, hrv0⟩ := Rd.of_trod h0
    obtain ⟨v0q, hcs, hzv0⟩ := Rd.string Try.underlying9 hrv0
    simp only [Value.cells, List.cons.injEq, Value.string.injEq, and_true] at hcs
    subst hcs
    obtain ⟨sv0, rfl⟩ : ∃ l, v0' = bs l := ⟨v0'.data.toList, rfl⟩
    obtain ⟨Av1, lenv1, capv1, rfl⟩ := okWide_slice Try.underlying22 (hval 1 22 v1 rfl rfl)
    obtain ⟨mv1, hrv1⟩ := Rd.of_trod h1
    obtain ⟨A', len', cap', esv1, hcs, hlcv1, hcmv1, hEv1⟩ := rd_edits hrv1
    simp only [Value.cells, List.cons.injEq, Value.slice.injEq, and_true] at hcs
    obtain ⟨rfl, rfl, rfl⟩ := hcs
    exact spanApplies_any sv0 Av1 lenv1 capv1 esv1 W hEv1 (by omega)

theorem proved : Rows.SpanAppliesSaid :=
  OpenClaim.holds_of_wide 3 Try.f3 rfl rfl rfl rfl rfl rfl rfl ⟨rfl, rfl, rfl, rfl, rfl⟩ rfl rfl rfl rfl rfl (by kernel_rfl) Try.func3 (by kernel_rfl)
    (of_decide_eq_true (by kernel_rfl)) (by unfold Func.isWrapper; first | (rw [if_pos (by decide +kernel)]; kernel_rfl) | (rw [if_neg (by decide +kernel)]; exact ⟨rfl, rfl⟩))
    (fun os started H enc _ => lifted os started H enc)
end SpanApplies
end Go.Proofs.Ytapginodpikijaa
