/- SpanChecks returns true for every input: Valid, Cut, Check are the reference's. No condition. -/
import Derived.Test.YtapginodpikijaaSpanApplies
import Derived.Deep.QuietTactic
import Derived.BigQuiet
import Derived.Deep.RegionHeld3
import Derived.Deep.DrawnRows
namespace Go.Proofs.Ytapginodpikijaa
attribute [local go_sem ↓] Go.wp_at_zero Go.wp_at_succ
open Go.ChangeShapes Go.WideShapes Go.ChangeAt Go.RowKit
open Go.Lib hiding intOf


set_option maxRecDepth 100000 in
set_option maxHeartbeats 8000000 in
theorem spanChecks_any (src : List UInt8) (A : Option Addr) (len cap : Nat) (es : List ED) (f t : Int) (w : World) (he : EditsAt w A len es) (_hlen : len ≤ maxLen) (_hsz : src.length ≤ maxLen) :
    Calls Try.prog 5 #[.string (bs src), .slice A len cap, .agg #[.int .i64 f, .int .i64 t]] w (RB true w) := by
  have hl : es.length = len := he.1
  have HE := Lib.hid he
  have hs : ((bs src).size : Int) = src.length := rfl
  clear he
  by_cases hfew : src.length ≤ 2000 ∧ len ≤ 5000
  · obtain ⟨h1, h2⟩ := hfew
    generalize hV : validS f t src.length = V
    have HV := Lib.hid hV
    generalize hK : checkF es src.length = K
    have HK := Lib.hid hK
    clear hV hK
    have hC1 : ∀ w, Calls Try.prog 17 #[.string (bs src), .agg #[.int .i64 f, .int .i64 t]] w (R2 (.string (bs (if V = true then cut src f.toNat t.toNat else []))) (.int .i64 (if V = true then 0 else 2)) w) := fun w => by
      have := cutP_any src f t w (by unfold maxLen; omega)
      rw [HV.out] at this
      exact this
    have hC2 : ∀ w, Calls Try.prog 18 #[.string (bs src), .agg #[.int .i64 f, .int .i64 t]] w (R2 (.string (bs (if V = true then cut src f.toNat t.toNat else []))) (.int .i64 (if V = true then 0 else 2)) w) := fun w => by
      have := cutRP_any src f t w (by unfold maxLen; omega)
      rw [HV.out] at this
      exact this
    generalize (if V = true then cut src f.toNat t.toNat else []) = X at hC1 hC2
    generalize (if V = true then (0 : Int) else 2) = Y at hC1 hC2
    have HC1 := Lib.hid hC1
    have HC2 := Lib.hid hC2
    clear hC1 hC2
    go_enter Try.func5, Try.ntmps5
    go_wp2_with fail
    refine (HC1.out _).mono ?_
    rintro e w1 ⟨rfl, hb1⟩
    obtain ⟨hc1, _, hs1⟩ := Gr.cells hb1
    have c1_0 := fun o => hc1 (w.heap.size) o (by first | assumption | (simp; done) | (simp; omega))
    clear hc1
    try simp at hs1
    have l1_0 : w.heap.size < w1.heap.size := by omega
    go_wp2_with fail
    refine (HC2.out _).mono ?_
    rintro e w2 ⟨rfl, hb2⟩
    obtain ⟨hc2, _, hs2⟩ := Gr.cells hb2
    have c2_0 := fun o => hc2 (w.heap.size) o (by first | assumption | (simp; done) | (simp; omega))
    clear hc2
    try simp at hs2
    have l2_0 : w.heap.size < w2.heap.size := by omega
    go_wp2_with fail
    go_region_held3 (fun w' => w'.cell? ⟨w.heap.size, 0, none⟩ = some (.int .i64 f) ∧ w'.cell? ⟨w.heap.size, 1, none⟩ = some (.int .i64 t))
      (go_keep)
      (first
        | (go_at_call 19; refine (validP_eq _ _ _ V _ HV.out).mono ?_; rintro e w3 ⟨rfl, hb3⟩; obtain ⟨hc3, _, _⟩ := Gr.cells hb3; have c3_0 := fun o => hc3 (w.heap.size) o (by first | assumption | (simp; done) | (simp; omega)); clear hc3; have l3_0 : w.heap.size < w3.heap.size := Gr.lt hb3 (by first | assumption | (simp; done) | (simp; omega)))
        | (go_at_call 20; refine (validRP_eq _ _ _ V _ HV.out).mono ?_; rintro e w4 ⟨rfl, hb4⟩; obtain ⟨hc4, _, _⟩ := Gr.cells hb4; have c4_0 := fun o => hc4 (w.heap.size) o (by first | assumption | (simp; done) | (simp; omega)); clear hc4; have l4_0 : w.heap.size < w4.heap.size := Gr.lt hb4 (by first | assumption | (simp; done) | (simp; omega)))
        | (go_at_call 21; refine (checkP_any A len cap es _ _ (HE.out.keep (by with_reducible (repeat (first | exact Gr.refl _ | assumption | apply Gr.alloc | apply Gr.drew | apply Gr.drewN | refine Gr.setCell ?_ (by first | (simp; done) | (simp; omega)) _ | refine Gr.trans ?_ (by assumption))))) h2).mono ?_; rw [HK.out]; rintro e w5 ⟨rfl, hb5⟩; obtain ⟨hc5, _, _⟩ := Gr.cells hb5; have c5_0 := fun o => hc5 (w.heap.size) o (by first | assumption | (simp; done) | (simp; omega)); clear hc5; have l5_0 : w.heap.size < w5.heap.size := Gr.lt hb5 (by first | assumption | (simp; done) | (simp; omega)))
        | (go_at_call 22; refine (checkRP_any A len cap es _ _ (HE.out.keep (by with_reducible (repeat (first | exact Gr.refl _ | assumption | apply Gr.alloc | apply Gr.drew | apply Gr.drewN | refine Gr.setCell ?_ (by first | (simp; done) | (simp; omega)) _ | refine Gr.trans ?_ (by assumption))))) h2).mono ?_; rw [HK.out]; rintro e w6 ⟨rfl, hb6⟩; obtain ⟨hc6, _, _⟩ := Gr.cells hb6; have c6_0 := fun o => hc6 (w.heap.size) o (by first | assumption | (simp; done) | (simp; omega)); clear hc6; have l6_0 : w.heap.size < w6.heap.size := Gr.lt hb6 (by first | assumption | (simp; done) | (simp; omega)))
        | (go_at_call 11; refine (livesP_any _).mono ?_; rintro e w7 ⟨rfl, hb7⟩; obtain ⟨hc7, _, _⟩ := Gr.cells hb7; have c7_0 := fun o => hc7 (w.heap.size) o (by first | assumption | (simp; done) | (simp; omega)); clear hc7; have l7_0 : w.heap.size < w7.heap.size := Gr.lt hb7 (by first | assumption | (simp; done) | (simp; omega))))
    all_goals go_wp2_with fail
    all_goals go_ret
    all_goals exact ⟨rfl, (by with_reducible (repeat (first | exact Gr.refl _ | assumption | apply Gr.alloc | apply Gr.drew | apply Gr.drewN | refine Gr.setCell ?_ (by first | (simp; done) | (simp; omega)) _ | refine Gr.trans ?_ (by assumption))))⟩
  · have h2 : 2000 < src.length ∨ 5000 < len := by omega
    go_enter Try.func5, Try.ntmps5
    go_wp2_with fail
    all_goals (
      refine (livesP_any _).mono ?_
      rintro e w2 ⟨rfl, hb2⟩)
    all_goals go_wp2_with fail
    all_goals (go_ret; exact ⟨rfl, (by with_reducible (repeat (first | exact Gr.refl _ | assumption | apply Gr.alloc | apply Gr.drew | apply Gr.drewN | refine Gr.setCell ?_ (by first | (simp; done) | (simp; omega)) _ | refine Gr.trans ?_ (by assumption))))⟩)

namespace SpanChecks
set_option maxRecDepth 100000 in
theorem lifted (os : Os) (started : os.Started) (H : Type) (enc : TypeId × Value → H) :
    ReturnsInHanded {} Try.checked os 5 .any (Rows.spanChecksSpec.pre6 enc Try.prog Try.f5 Rows.spanChecksRow.domain false) (Rows.spanChecksSpec.post enc Try.prog Try.f5 false true false false) := by
  refine law_lifted (C := Try.checked) (tb := 4) own started (by kernel_rfl) Try.func5 laidOut rfl rfl Try.underlying4 (by kernel_rfl) ?_
    (ChangeSpec.witness6 (enc := enc) (C := Try.checked) false ⟨#[], #[.string ⟨#[]⟩, .slice none 0 0, .agg #[.int .i64 0, .int .i64 0]], []⟩ 8 (by kernel_rfl) (by kernel_rfl) (by kernel_rfl) (by kernel_rfl)) ?_
  · intro ds hl
    match ds, hl with
    | [_, _, _], _ => rfl
  · intro W base args ds ps hval0 hA0 hlt
    have hval : ∀ (j : Nat) t v, Try.f5.params[j]? = some t → args[j]? = some v → Value.okWide Try.prog W .any base t v := hval0
    have hA : DataW.TrodAll enc Try.prog W 0 (fun _ => true) true Try.f5.params.toList args.toList ds ps := hA0
    rw [Try.params5] at hA hval
    obtain ⟨v0, v1, v2, d0, d1, d2, p0, p1, p2, rfl, rfl, rfl, h0, h1, h2⟩ := trodAll_three hA
    obtain ⟨v0', rfl⟩ := okWide_string Try.underlying9 (hval 0 9 v0 rfl rfl)
    obtain ⟨mv0, hrv0⟩ := Rd.of_trod h0
    obtain ⟨v0q, hcs, hzv0⟩ := Rd.string Try.underlying9 hrv0
    simp only [Value.cells, List.cons.injEq, Value.string.injEq, and_true] at hcs
    subst hcs
    obtain ⟨sv0, rfl⟩ : ∃ l, v0' = bs l := ⟨v0'.data.toList, rfl⟩
    obtain ⟨Av1, lenv1, capv1, rfl⟩ := okWide_slice Try.underlying22 (hval 1 22 v1 rfl rfl)
    obtain ⟨mv1, hrv1⟩ := Rd.of_trod h1
    obtain ⟨A', len', cap', esv1, hcs, hlcv1, hcmv1, hEv1⟩ := rd_edits hrv1
    simp only [Value.cells, List.cons.injEq, Value.slice.injEq, and_true] at hcs
    obtain ⟨rfl, rfl, rfl⟩ := hcs
    obtain ⟨csv2, rfl, _⟩ := okWide_struct Try.underlying36 (hval 2 36 v2 rfl rfl)
    obtain ⟨mv2, hrv2⟩ := Rd.of_trod h2
    obtain ⟨fv2, tv2, hcs, hw1v2, hw2v2⟩ := rd_span hrv2
    obtain ⟨csv2⟩ := csv2
    simp only [Value.cells] at hcs
    subst hcs
    exact spanChecks_any sv0 Av1 lenv1 capv1 esv1 fv2 tv2 W hEv1 (by omega) hzv0

theorem proved : Rows.SpanChecksSaid :=
  OpenClaim.holds_of_wide 5 Try.f5 rfl rfl rfl rfl rfl rfl rfl ⟨rfl, rfl, rfl, rfl, rfl⟩ rfl rfl rfl rfl rfl (by kernel_rfl) Try.func5 (by kernel_rfl)
    (of_decide_eq_true (by kernel_rfl)) (by unfold Func.isWrapper; first | (rw [if_pos (by decide +kernel)]; kernel_rfl) | (rw [if_neg (by decide +kernel)]; exact ⟨rfl, rfl⟩))
    (fun os started H enc _ => lifted os started H enc)
end SpanChecks
end Go.Proofs.Ytapginodpikijaa
