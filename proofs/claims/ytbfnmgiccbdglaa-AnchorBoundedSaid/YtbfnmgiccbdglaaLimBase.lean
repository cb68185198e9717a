/- Small facts on worlds, and the contracts of limit.Valid, limit.Within, limit.ready and of their references. -/
import Derived.Test.YtbfnmgiccbdglaaBase
namespace Go.Proofs.Ytbfnmgiccbdglaa
open Go.RowKit

def validB (d n b a x : Int) : Bool := decide (1 ≤ d ∧ d ≤ 48 ∧ 1 ≤ n ∧ n ≤ 65536 ∧ 1 ≤ b ∧ b ≤ 1048576 ∧ 0 ≤ a ∧ a ≤ 1024 ∧ 0 ≤ x ∧ x ≤ 65536)
def withinB (d n b a x d' n' b' a' x' : Int) : Bool := decide (0 ≤ d' ∧ d' ≤ d ∧ 0 ≤ n' ∧ n' ≤ n ∧ 0 ≤ b' ∧ b' ≤ b ∧ 0 ≤ a' ∧ a' ≤ a ∧ 0 ≤ x' ∧ x' ≤ x)
def readyB (d n b a x d' n' b' a' x' k : Int) : Bool := validB d n b a x && withinB d n b a x d' n' b' a' x' && decide (0 ≤ k)
def rightB (d n b a x d' n' b' a' x' : Int) : Bool := validB d n b a x && withinB d n b a x d' n' b' a' x'

set_option maxHeartbeats 1000000 in
theorem validP_any (d n b a x : Int) (w : World) :
    Calls Try.prog 47 #[.agg #[.int .i64 d, .int .i64 n, .int .i64 b, .int .i64 a, .int .i64 x]] w (RB (validB d n b a x) w) := by
  go_enter Try.func47, Try.ntmps47
  go_wp2
  all_goals
    go_ret
    exact ⟨ret_bool (by rw [Bool.eq_iff_iff]; unfold validB; simp; omega), (Gr.refl _).alloc _⟩
set_option maxHeartbeats 1000000 in
theorem validR_any (d n b a x : Int) (w : World) :
    Calls Try.prog 34 #[.agg #[.int .i64 d, .int .i64 n, .int .i64 b, .int .i64 a, .int .i64 x]] w (RB (validB d n b a x) w) := by
  go_enter Try.func34, Try.ntmps34
  go_wp2
  all_goals
    go_ret
    exact ⟨ret_bool (by rw [Bool.eq_iff_iff]; unfold validB; simp; omega), (Gr.refl _).alloc _⟩
set_option maxHeartbeats 1000000 in
theorem withinP_any (d n b a x d' n' b' a' x' : Int) (w : World) :
    Calls Try.prog 65 #[.agg #[.int .i64 d, .int .i64 n, .int .i64 b, .int .i64 a, .int .i64 x], .agg #[.int .i64 d', .int .i64 n', .int .i64 b', .int .i64 a', .int .i64 x']] w (RB (withinB d n b a x d' n' b' a' x') w) := by
  go_enter Try.func65, Try.ntmps65
  go_wp2
  all_goals
    go_ret
    exact ⟨ret_bool (by rw [Bool.eq_iff_iff]; unfold withinB; simp; omega), ((Gr.refl _).alloc _).alloc _⟩
set_option maxHeartbeats 1000000 in
theorem withinR_any (d n b a x d' n' b' a' x' : Int) (w : World) :
    Calls Try.prog 66 #[.agg #[.int .i64 d, .int .i64 n, .int .i64 b, .int .i64 a, .int .i64 x], .agg #[.int .i64 d', .int .i64 n', .int .i64 b', .int .i64 a', .int .i64 x']] w (RB (withinB d n b a x d' n' b' a' x') w) := by
  go_enter Try.func66, Try.ntmps66
  go_wp2
  all_goals
    go_ret
    exact ⟨ret_bool (by rw [Bool.eq_iff_iff]; unfold withinB; simp; omega), ((Gr.refl _).alloc _).alloc _⟩

set_option maxHeartbeats 1000000 in
theorem ready_any (d n b a x d' n' b' a' x' k : Int) (w : World) :
    Calls Try.prog 61 #[.agg #[.int .i64 d, .int .i64 n, .int .i64 b, .int .i64 a, .int .i64 x], .agg #[.int .i64 d', .int .i64 n', .int .i64 b', .int .i64 a', .int .i64 x'], .int .i64 k] w (RB (readyB d n b a x d' n' b' a' x' k) w) := by
  by_cases hv : validB d n b a x = true
  · by_cases hw : withinB d n b a x d' n' b' a' x' = true
    · go_enter Try.func61, Try.ntmps61
      go_wp2_with (first
        | (go_at_call 47; refine (validP_any _ _ _ _ _ _).mono ?_; rintro e w1 ⟨rfl, hb1⟩; obtain ⟨hc1, hf1, hs1⟩ := Gr.cells hb1)
        | (go_at_call 65; refine (withinP_any _ _ _ _ _ _ _ _ _ _ _).mono ?_; rintro e w2 ⟨rfl, hb2⟩))
      go_ret
      exact ⟨ret_bool (by simp [readyB, hv, hw]), Gr.trans (Gr.trans (((Gr.refl _).alloc _).alloc _) hb1) hb2⟩
    · simp only [Bool.not_eq_true] at hw
      go_enter Try.func61, Try.ntmps61
      go_wp2_with (first
        | (go_at_call 47; refine (validP_any _ _ _ _ _ _).mono ?_; rintro e w1 ⟨rfl, hb1⟩; obtain ⟨hc1, hf1, hs1⟩ := Gr.cells hb1)
        | (go_at_call 65; refine (withinP_any _ _ _ _ _ _ _ _ _ _ _).mono ?_; rintro e w2 ⟨rfl, hb2⟩))
      go_ret
      exact ⟨ret_bool (by simp [readyB, hv, hw]), Gr.trans (Gr.trans (((Gr.refl _).alloc _).alloc _) hb1) hb2⟩
  · simp only [Bool.not_eq_true] at hv
    go_enter Try.func61, Try.ntmps61
    go_wp2_with (go_at_call 47; refine (validP_any _ _ _ _ _ _).mono ?_; rintro e w1 ⟨rfl, hb1⟩; obtain ⟨hc1, hf1, hs1⟩ := Gr.cells hb1)
    go_ret
    exact ⟨ret_bool (by simp [readyB, hv]), Gr.trans (((Gr.refl _).alloc _).alloc _) hb1⟩
set_option maxHeartbeats 1000000 in
theorem right_any (d n b a x d' n' b' a' x' : Int) (w : World) :
    Calls Try.prog 62 #[.agg #[.int .i64 d, .int .i64 n, .int .i64 b, .int .i64 a, .int .i64 x], .agg #[.int .i64 d', .int .i64 n', .int .i64 b', .int .i64 a', .int .i64 x']] w (RB (rightB d n b a x d' n' b' a' x') w) := by
  by_cases hv : validB d n b a x = true
  · go_enter Try.func62, Try.ntmps62
    go_wp2_with (first
        | (go_at_call 34; refine (validR_any _ _ _ _ _ _).mono ?_; rintro e w1 ⟨rfl, hb1⟩; obtain ⟨hc1, hf1, hs1⟩ := Gr.cells hb1)
        | (go_at_call 66; refine (withinR_any _ _ _ _ _ _ _ _ _ _ _).mono ?_; rintro e w2 ⟨rfl, hb2⟩))
    go_ret
    exact ⟨ret_bool (by simp [rightB, hv]), Gr.trans (Gr.trans (((Gr.refl _).alloc _).alloc _) hb1) hb2⟩
  · simp only [Bool.not_eq_true] at hv
    go_enter Try.func62, Try.ntmps62
    go_wp2_with (go_at_call 34; refine (validR_any _ _ _ _ _ _).mono ?_; rintro e w1 ⟨rfl, hb1⟩; obtain ⟨hc1, hf1, hs1⟩ := Gr.cells hb1)
    go_ret
    exact ⟨ret_bool (by simp [rightB, hv]), Gr.trans (((Gr.refl _).alloc _).alloc _) hb1⟩
end Go.Proofs.Ytbfnmgiccbdglaa
