/- LimitValid returns true for every input: which limits are valid, and which usages are within them, is as the reference says. No condition. -/
import Derived.Test.YtlfhiolngpoamaaLimAwake
import Derived.Deep.RegionHeld3
import Derived.Deep.DrawnRows
namespace Go.Proofs.Ytlfhiolngpoamaa
attribute [local go_sem ↓] Go.wp_at_zero Go.wp_at_succ
open Go.ChangeShapes Go.WideShapes Go.ChangeAt Go.RowKit

set_option maxHeartbeats 400000 in
theorem usualP_any (w : World) : Calls Try.prog 14 #[] w fun e w' => e = .returned (.agg #[.int .i64 48, .int .i64 65536, .int .i64 1048576, .int .i64 1024, .int .i64 65536]) ∧ Gr w w' := by
  go_enter Try.func14, Try.ntmps14
  go_wp2
  refine bodyPost_ret (v := .agg #[.int .i64 48, .int .i64 65536, .int .i64 1048576, .int .i64 1024, .int .i64 65536]) (by simp [results, Try.results14, go_sem]; done) rfl ⟨rfl, (by with_reducible (repeat (first | exact Gr.refl _ | assumption | apply Gr.alloc | apply Gr.drew | apply Gr.drewN | refine Gr.setCell ?_ (by first | (simp; done) | (simp; omega)) _ | refine Gr.trans ?_ (by assumption))))⟩
set_option maxHeartbeats 400000 in
theorem usualR_any (w : World) : Calls Try.prog 15 #[] w fun e w' => e = .returned (.agg #[.int .i64 48, .int .i64 65536, .int .i64 1048576, .int .i64 1024, .int .i64 65536]) ∧ Gr w w' := by
  go_enter Try.func15, Try.ntmps15
  go_wp2
  refine bodyPost_ret (v := .agg #[.int .i64 48, .int .i64 65536, .int .i64 1048576, .int .i64 1024, .int .i64 65536]) (by simp [results, Try.results15, go_sem]; done) rfl ⟨rfl, (by with_reducible (repeat (first | exact Gr.refl _ | assumption | apply Gr.alloc | apply Gr.drew | apply Gr.drewN | refine Gr.setCell ?_ (by first | (simp; done) | (simp; omega)) _ | refine Gr.trans ?_ (by assumption))))⟩
theorem Gr.ltX {W w1 : World} (h : Gr W w1) {k : Nat} (hk : k < W.heap.size) : k < w1.heap.size := Nat.lt_of_lt_of_le hk (Below.size h)
set_option maxHeartbeats 2000000 in
theorem limitValid_any (d n b a x d' n' b' a' x' : Int) (w : World) :
    Calls Try.prog 4 #[.agg #[.int .i64 d, .int .i64 n, .int .i64 b, .int .i64 a, .int .i64 x], .agg #[.int .i64 d', .int .i64 n', .int .i64 b', .int .i64 a', .int .i64 x']] w (RB true w) := by
  go_enter Try.func4, Try.ntmps4
  go_wp2_with fail
  go_region_held3 (fun w' => w'.cell? ⟨w.heap.size, 0, none⟩ = some (.int .i64 d) ∧ w'.cell? ⟨w.heap.size, 1, none⟩ = some (.int .i64 n) ∧ w'.cell? ⟨w.heap.size, 2, none⟩ = some (.int .i64 b) ∧ w'.cell? ⟨w.heap.size, 3, none⟩ = some (.int .i64 a) ∧ w'.cell? ⟨w.heap.size, 4, none⟩ = some (.int .i64 x) ∧ w'.cell? ⟨w.heap.size + 1, 0, none⟩ = some (.int .i64 d') ∧ w'.cell? ⟨w.heap.size + 1, 1, none⟩ = some (.int .i64 n') ∧ w'.cell? ⟨w.heap.size + 1, 2, none⟩ = some (.int .i64 b') ∧ w'.cell? ⟨w.heap.size + 1, 3, none⟩ = some (.int .i64 a') ∧ w'.cell? ⟨w.heap.size + 1, 4, none⟩ = some (.int .i64 x'))
    (go_keep)
    (first | (go_at_call 14; refine (usualP_any _).mono ?_; rintro e w1 ⟨rfl, hb1⟩; obtain ⟨hc1, _, _⟩ := Gr.cells hb1; have c1_0 := fun o => hc1 (w.heap.size) o (by first | assumption | (simp; done) | (simp; omega)); have c1_1 := fun o => hc1 (w.heap.size + 1) o (by first | assumption | (simp; done) | (simp; omega)); clear hc1; have l1_0 : w.heap.size < w1.heap.size := Gr.ltX hb1 (by first | assumption | (simp; done) | (simp; omega)); have l1_1 : w.heap.size + 1 < w1.heap.size := Gr.ltX hb1 (by first | assumption | (simp; done) | (simp; omega))) | (go_at_call 15; refine (usualR_any _).mono ?_; rintro e w2 ⟨rfl, hb2⟩; obtain ⟨hc2, _, _⟩ := Gr.cells hb2; have c2_0 := fun o => hc2 (w.heap.size) o (by first | assumption | (simp; done) | (simp; omega)); have c2_1 := fun o => hc2 (w.heap.size + 1) o (by first | assumption | (simp; done) | (simp; omega)); clear hc2; have l2_0 : w.heap.size < w2.heap.size := Gr.ltX hb2 (by first | assumption | (simp; done) | (simp; omega)); have l2_1 : w.heap.size + 1 < w2.heap.size := Gr.ltX hb2 (by first | assumption | (simp; done) | (simp; omega))) | (go_at_call 16; refine (validP_any _ _ _ _ _ _).mono ?_; rintro e w3 ⟨rfl, hb3⟩; obtain ⟨hc3, _, _⟩ := Gr.cells hb3; have c3_0 := fun o => hc3 (w.heap.size) o (by first | assumption | (simp; done) | (simp; omega)); have c3_1 := fun o => hc3 (w.heap.size + 1) o (by first | assumption | (simp; done) | (simp; omega)); clear hc3; have l3_0 : w.heap.size < w3.heap.size := Gr.ltX hb3 (by first | assumption | (simp; done) | (simp; omega)); have l3_1 : w.heap.size + 1 < w3.heap.size := Gr.ltX hb3 (by first | assumption | (simp; done) | (simp; omega))) | (go_at_call 17; refine (validR_any _ _ _ _ _ _).mono ?_; rintro e w4 ⟨rfl, hb4⟩; obtain ⟨hc4, _, _⟩ := Gr.cells hb4; have c4_0 := fun o => hc4 (w.heap.size) o (by first | assumption | (simp; done) | (simp; omega)); have c4_1 := fun o => hc4 (w.heap.size + 1) o (by first | assumption | (simp; done) | (simp; omega)); clear hc4; have l4_0 : w.heap.size < w4.heap.size := Gr.ltX hb4 (by first | assumption | (simp; done) | (simp; omega)); have l4_1 : w.heap.size + 1 < w4.heap.size := Gr.ltX hb4 (by first | assumption | (simp; done) | (simp; omega))) | (go_at_call 18; refine (withinP_any _ _ _ _ _ _ _ _ _ _ _).mono ?_; rintro e w5 ⟨rfl, hb5⟩; obtain ⟨hc5, _, _⟩ := Gr.cells hb5; have c5_0 := fun o => hc5 (w.heap.size) o (by first | assumption | (simp; done) | (simp; omega)); have c5_1 := fun o => hc5 (w.heap.size + 1) o (by first | assumption | (simp; done) | (simp; omega)); clear hc5; have l5_0 : w.heap.size < w5.heap.size := Gr.ltX hb5 (by first | assumption | (simp; done) | (simp; omega)); have l5_1 : w.heap.size + 1 < w5.heap.size := Gr.ltX hb5 (by first | assumption | (simp; done) | (simp; omega))) | (go_at_call 19; refine (withinR_any _ _ _ _ _ _ _ _ _ _ _).mono ?_; rintro e w6 ⟨rfl, hb6⟩; obtain ⟨hc6, _, _⟩ := Gr.cells hb6; have c6_0 := fun o => hc6 (w.heap.size) o (by first | assumption | (simp; done) | (simp; omega)); have c6_1 := fun o => hc6 (w.heap.size + 1) o (by first | assumption | (simp; done) | (simp; omega)); clear hc6; have l6_0 : w.heap.size < w6.heap.size := Gr.ltX hb6 (by first | assumption | (simp; done) | (simp; omega)); have l6_1 : w.heap.size + 1 < w6.heap.size := Gr.ltX hb6 (by first | assumption | (simp; done) | (simp; omega))) | (go_at_call 13; refine (awake_any _).mono ?_; rintro e w9 ⟨rfl, hb9⟩; obtain ⟨hc9, _, _⟩ := Gr.cells hb9; have c9_0 := fun o => hc9 (w.heap.size) o (by first | assumption | (simp; done) | (simp; omega)); have c9_1 := fun o => hc9 (w.heap.size + 1) o (by first | assumption | (simp; done) | (simp; omega)); clear hc9; have l9_0 : w.heap.size < w9.heap.size := Gr.ltX hb9 (by first | assumption | (simp; done) | (simp; omega)); have l9_1 : w.heap.size + 1 < w9.heap.size := Gr.ltX hb9 (by first | assumption | (simp; done) | (simp; omega))))
  all_goals go_wp2_with fail
  all_goals go_ret
  all_goals exact ⟨rfl, (by with_reducible (repeat (first | exact Gr.refl _ | assumption | apply Gr.alloc | apply Gr.drew | apply Gr.drewN | refine Gr.setCell ?_ (by first | (simp; done) | (simp; omega)) _ | refine Gr.trans ?_ (by assumption))))⟩

namespace LimitValid
set_option maxRecDepth 100000 in
theorem lifted (os : Os) (started : os.Started) (H : Type) (enc : TypeId × Value → H) :
    ReturnsInHanded {} Try.checked os 4 .any (Rows.limitValidSpec.pre6 enc Try.prog Try.f4 Rows.limitValidRow.domain false) (Rows.limitValidSpec.post enc Try.prog Try.f4 false true false false) := by
  refine law_lifted (C := Try.checked) (tb := 4) own started (by kernel_rfl) Try.func4 laidOut rfl rfl Try.underlying4 (by kernel_rfl) ?_
    (ChangeSpec.witness6 (enc := enc) (C := Try.checked) false ⟨#[], #[.agg #[.int .i64 0, .int .i64 0, .int .i64 0, .int .i64 0, .int .i64 0], .agg #[.int .i64 0, .int .i64 0, .int .i64 0, .int .i64 0, .int .i64 0]], []⟩ 8 (by kernel_rfl) (by kernel_rfl) (by kernel_rfl) (by kernel_rfl)) ?_
  · intro ds hl
    match ds, hl with
    | [_, _], _ => rfl
  · intro W base args ds ps hval0 hA0 hlt
    have hval : ∀ (j : Nat) t v, Try.f4.params[j]? = some t → args[j]? = some v → Value.okWide Try.prog W .any base t v := hval0
    have hA : DataW.TrodAll enc Try.prog W 0 (fun _ => true) true Try.f4.params.toList args.toList ds ps := hA0
    rw [Try.params4] at hA hval
    obtain ⟨v0, v1, d0, d1, p0, p1, rfl, rfl, rfl, h0, h1⟩ := trodAll_two hA
    obtain ⟨d, n, b, a, x, rfl, wL⟩ := open_int5 Try.underlying23 Try.underlying3 (by kernel_rfl) (hval 0 23 v0 rfl rfl) h0
    obtain ⟨d', n', b', a', x', rfl, wU⟩ := open_int5 Try.underlying24 Try.underlying3 (by kernel_rfl) (hval 1 24 v1 rfl rfl) h1
    exact limitValid_any d n b a x d' n' b' a' x' W

theorem proved : Rows.LimitValidSaid :=
  OpenClaim.holds_of_wide 4 Try.f4 rfl rfl rfl rfl rfl rfl rfl ⟨rfl, rfl, rfl, rfl, rfl⟩ rfl rfl rfl rfl rfl (by kernel_rfl) Try.func4 (by kernel_rfl)
    (of_decide_eq_true (by kernel_rfl)) (by unfold Func.isWrapper; first | (rw [if_pos (by decide +kernel)]; kernel_rfl) | (rw [if_neg (by decide +kernel)]; exact ⟨rfl, rfl⟩))
    (fun os started H enc _ => lifted os started H enc)
end LimitValid
end Go.Proofs.Ytlfhiolngpoamaa
