/- The contracts of the functions of limit and of its reference that add to a usage: each returns what one plain function says. -/
import Derived.Test.YtlfhiolngpoamaaLimBase
namespace Go.Proofs.Ytlfhiolngpoamaa
open Go.RowKit

/-- a usage and a code -/
structure Res where
  (d n b a x c : Int)
def RU (r : Res) (w : World) (e : Ending) (w' : World) : Prop :=
  e = .returned (.tuple #[.agg #[.int .i64 r.d, .int .i64 r.n, .int .i64 r.b, .int .i64 r.a, .int .i64 r.x], .int .i64 r.c]) ∧ Gr w w'
def aliasF (d n b a x d' n' b' a' x' k : Int) : Res :=
  if readyB d n b a x d' n' b' a' x' k = false then ⟨0, 0, 0, 0, 0, 1⟩
  else if a' = a then ⟨0, 0, 0, 0, 0, 11⟩ else if x - x' < k then ⟨0, 0, 0, 0, 0, 12⟩ else ⟨d', n', b', a' + 1, x' + k, 0⟩
def nodeF (d n b a x d' n' b' a' x' k : Int) : Res :=
  if readyB d n b a x d' n' b' a' x' k = false then ⟨0, 0, 0, 0, 0, 1⟩
  else if n - n' < k then ⟨0, 0, 0, 0, 0, 10⟩ else ⟨d', n' + k, b', a', x', 0⟩
def bytesF (d n b a x d' n' b' a' x' k : Int) : Res :=
  if readyB d n b a x d' n' b' a' x' k = false then ⟨0, 0, 0, 0, 0, 1⟩
  else if b - b' < k then ⟨0, 0, 0, 0, 0, 10⟩ else ⟨d', n', b' + k, a', x', 0⟩
def openF (d n b a x d' n' b' a' x' : Int) : Res :=
  if readyB d n b a x d' n' b' a' x' 0 = false then ⟨0, 0, 0, 0, 0, 1⟩
  else if d' = d then ⟨0, 0, 0, 0, 0, 9⟩ else ⟨d' + 1, n', b', a', x', 0⟩
def closeF (d' n' b' a' x' : Int) : Res := if d' < 1 then ⟨0, 0, 0, 0, 0, 29⟩ else ⟨d' - 1, n', b', a', x', 0⟩
theorem ready_facts {d n b a x d' n' b' a' x' k : Int} (h : readyB d n b a x d' n' b' a' x' k = true) :
    ((1 ≤ d ∧ d ≤ 48 ∧ 1 ≤ n ∧ n ≤ 65536 ∧ 1 ≤ b ∧ b ≤ 1048576 ∧ 0 ≤ a ∧ a ≤ 1024 ∧ 0 ≤ x ∧ x ≤ 65536) ∧ 0 ≤ d' ∧ d' ≤ d ∧ 0 ≤ n' ∧ n' ≤ n ∧ 0 ≤ b' ∧ b' ≤ b ∧ 0 ≤ a' ∧ a' ≤ a ∧ 0 ≤ x' ∧ x' ≤ x) ∧ 0 ≤ k := by
  simpa only [readyB, validB, withinB, Bool.and_eq_true, decide_eq_true_eq] using h
theorem ready_right {d n b a x d' n' b' a' x' k : Int} (h : readyB d n b a x d' n' b' a' x' k = true) : rightB d n b a x d' n' b' a' x' = true := by
  unfold readyB at h; unfold rightB; simp only [Bool.and_eq_true] at h ⊢; exact h.1
theorem not_ready {d n b a x d' n' b' a' x' k : Int} (h : readyB d n b a x d' n' b' a' x' k = false) : rightB d n b a x d' n' b' a' x' = false ∨ (rightB d n b a x d' n' b' a' x' = true ∧ k < 0) := by
  unfold readyB at h; unfold rightB
  by_cases hx : (validB d n b a x && withinB d n b a x d' n' b' a' x') = true
  · right; refine ⟨hx, ?_⟩; rw [hx] at h; simpa using h
  · left; simpa using hx

set_option maxHeartbeats 1000000 in
theorem aliasP_a0 (d n b a x d' n' b' a' x' k : Int) (w : World) (hr : readyB d n b a x d' n' b' a' x' k = false) :
    Calls Try.prog 11 #[.agg #[.int .i64 d, .int .i64 n, .int .i64 b, .int .i64 a, .int .i64 x], .agg #[.int .i64 d', .int .i64 n', .int .i64 b', .int .i64 a', .int .i64 x'], .int .i64 k] w (RU ⟨0, 0, 0, 0, 0, 1⟩ w) := by
  go_enter Try.func11, Try.ntmps11
  go_wp2_with (first | (go_at_call 31; refine (ready_any _ _ _ _ _ _ _ _ _ _ _ _).mono ?_; rintro e w1 ⟨rfl, hb1⟩; obtain ⟨hc1, hf1, hs1⟩ := Gr.cells hb1))
  refine bodyPost_ret (v := .tuple #[.agg #[.int .i64 0, .int .i64 0, .int .i64 0, .int .i64 0, .int .i64 0], .int .i64 1]) (by first | (simp [results, Try.results11, go_sem]; done) | (simp [results, Try.results11, go_sem, hc1]; done) | (simp [results, Try.results11, go_sem, hc1, hs1]; done)) rfl ⟨rfl, (by with_reducible (repeat (first | exact Gr.refl _ | assumption | apply Gr.alloc | apply Gr.drew | apply Gr.drewN | refine Gr.setCell ?_ (by first | (simp; done) | (simp; omega)) _ | refine Gr.trans ?_ (by assumption))))⟩

set_option maxHeartbeats 1000000 in
theorem aliasP_b (d n b a x d' n' b' a' x' k : Int) (w : World) (hr : readyB d n b a x d' n' b' a' x' k = true) (_hf : ((1 ≤ d ∧ d ≤ 48 ∧ 1 ≤ n ∧ n ≤ 65536 ∧ 1 ≤ b ∧ b ≤ 1048576 ∧ 0 ≤ a ∧ a ≤ 1024 ∧ 0 ≤ x ∧ x ≤ 65536) ∧ 0 ≤ d' ∧ d' ≤ d ∧ 0 ≤ n' ∧ n' ≤ n ∧ 0 ≤ b' ∧ b' ≤ b ∧ 0 ≤ a' ∧ a' ≤ a ∧ 0 ≤ x' ∧ x' ≤ x) ∧ 0 ≤ k) (ha : (a' == a) = true) :
    Calls Try.prog 11 #[.agg #[.int .i64 d, .int .i64 n, .int .i64 b, .int .i64 a, .int .i64 x], .agg #[.int .i64 d', .int .i64 n', .int .i64 b', .int .i64 a', .int .i64 x'], .int .i64 k] w (RU ⟨0, 0, 0, 0, 0, 11⟩ w) := by
  go_enter Try.func11, Try.ntmps11
  go_wp2_with (first | (go_at_call 31; refine (ready_any _ _ _ _ _ _ _ _ _ _ _ _).mono ?_; rintro e w1 ⟨rfl, hb1⟩; obtain ⟨hc1, hf1, hs1⟩ := Gr.cells hb1))
  refine bodyPost_ret (v := .tuple #[.agg #[.int .i64 0, .int .i64 0, .int .i64 0, .int .i64 0, .int .i64 0], .int .i64 11]) (by first | (simp [results, Try.results11, go_sem]; done) | (simp [results, Try.results11, go_sem, hc1]; done) | (simp [results, Try.results11, go_sem, hc1, hs1]; done)) rfl ⟨rfl, (by with_reducible (repeat (first | exact Gr.refl _ | assumption | apply Gr.alloc | apply Gr.drew | apply Gr.drewN | refine Gr.setCell ?_ (by first | (simp; done) | (simp; omega)) _ | refine Gr.trans ?_ (by assumption))))⟩

set_option maxHeartbeats 1000000 in
theorem aliasP_c (d n b a x d' n' b' a' x' k : Int) (w : World) (hr : readyB d n b a x d' n' b' a' x' k = true) (_hf : ((1 ≤ d ∧ d ≤ 48 ∧ 1 ≤ n ∧ n ≤ 65536 ∧ 1 ≤ b ∧ b ≤ 1048576 ∧ 0 ≤ a ∧ a ≤ 1024 ∧ 0 ≤ x ∧ x ≤ 65536) ∧ 0 ≤ d' ∧ d' ≤ d ∧ 0 ≤ n' ∧ n' ≤ n ∧ 0 ≤ b' ∧ b' ≤ b ∧ 0 ≤ a' ∧ a' ≤ a ∧ 0 ≤ x' ∧ x' ≤ x) ∧ 0 ≤ k) (ha : (a' == a) = false) (hx : x - x' < k) :
    Calls Try.prog 11 #[.agg #[.int .i64 d, .int .i64 n, .int .i64 b, .int .i64 a, .int .i64 x], .agg #[.int .i64 d', .int .i64 n', .int .i64 b', .int .i64 a', .int .i64 x'], .int .i64 k] w (RU ⟨0, 0, 0, 0, 0, 12⟩ w) := by
  go_enter Try.func11, Try.ntmps11
  go_wp2_with (first | (go_at_call 31; refine (ready_any _ _ _ _ _ _ _ _ _ _ _ _).mono ?_; rintro e w1 ⟨rfl, hb1⟩; obtain ⟨hc1, hf1, hs1⟩ := Gr.cells hb1))
  refine bodyPost_ret (v := .tuple #[.agg #[.int .i64 0, .int .i64 0, .int .i64 0, .int .i64 0, .int .i64 0], .int .i64 12]) (by first | (simp [results, Try.results11, go_sem]; done) | (simp [results, Try.results11, go_sem, hc1]; done) | (simp [results, Try.results11, go_sem, hc1, hs1]; done)) rfl ⟨rfl, (by with_reducible (repeat (first | exact Gr.refl _ | assumption | apply Gr.alloc | apply Gr.drew | apply Gr.drewN | refine Gr.setCell ?_ (by first | (simp; done) | (simp; omega)) _ | refine Gr.trans ?_ (by assumption))))⟩

set_option maxHeartbeats 1000000 in
theorem aliasP_d (d n b a x d' n' b' a' x' k : Int) (w : World) (hr : readyB d n b a x d' n' b' a' x' k = true) (_hf : ((1 ≤ d ∧ d ≤ 48 ∧ 1 ≤ n ∧ n ≤ 65536 ∧ 1 ≤ b ∧ b ≤ 1048576 ∧ 0 ≤ a ∧ a ≤ 1024 ∧ 0 ≤ x ∧ x ≤ 65536) ∧ 0 ≤ d' ∧ d' ≤ d ∧ 0 ≤ n' ∧ n' ≤ n ∧ 0 ≤ b' ∧ b' ≤ b ∧ 0 ≤ a' ∧ a' ≤ a ∧ 0 ≤ x' ∧ x' ≤ x) ∧ 0 ≤ k) (ha : (a' == a) = false) (hx : ¬ x - x' < k) :
    Calls Try.prog 11 #[.agg #[.int .i64 d, .int .i64 n, .int .i64 b, .int .i64 a, .int .i64 x], .agg #[.int .i64 d', .int .i64 n', .int .i64 b', .int .i64 a', .int .i64 x'], .int .i64 k] w (RU ⟨d', n', b', a' + 1, x' + k, 0⟩ w) := by
  go_enter Try.func11, Try.ntmps11
  go_wp2_with (first | (go_at_call 31; refine (ready_any _ _ _ _ _ _ _ _ _ _ _ _).mono ?_; rintro e w1 ⟨rfl, hb1⟩; obtain ⟨hc1, hf1, hs1⟩ := Gr.cells hb1))
  refine bodyPost_ret (v := .tuple #[.agg #[.int .i64 d', .int .i64 n', .int .i64 b', .int .i64 (a' + 1), .int .i64 (x' + k)], .int .i64 0]) (by first | (simp [results, Try.results11, go_sem]; done) | (simp [results, Try.results11, go_sem, hc1]; done) | (simp [results, Try.results11, go_sem, hc1, hs1]; done)) rfl ⟨rfl, (by with_reducible (repeat (first | exact Gr.refl _ | assumption | apply Gr.alloc | apply Gr.drew | apply Gr.drewN | refine Gr.setCell ?_ (by first | (simp; done) | (simp; omega)) _ | refine Gr.trans ?_ (by assumption))))⟩

theorem aliasP_any (d n b a x d' n' b' a' x' k : Int) (w : World) : Calls Try.prog 11 #[.agg #[.int .i64 d, .int .i64 n, .int .i64 b, .int .i64 a, .int .i64 x], .agg #[.int .i64 d', .int .i64 n', .int .i64 b', .int .i64 a', .int .i64 x'], .int .i64 k] w (RU (aliasF d n b a x d' n' b' a' x' k) w) := by
  unfold aliasF
  split
  · rename_i h0
    exact aliasP_a0 _ _ _ _ _ _ _ _ _ _ _ _ h0
  · rename_i h0
    simp only [Bool.not_eq_false] at h0
    have hf := ready_facts h0
    split
    · rename_i h1; exact aliasP_b _ _ _ _ _ _ _ _ _ _ _ _ h0 hf (by simpa using h1)
    · rename_i h1
      split
      · rename_i h2; exact aliasP_c _ _ _ _ _ _ _ _ _ _ _ _ h0 hf (by simpa using h1) h2
      · rename_i h2; exact aliasP_d _ _ _ _ _ _ _ _ _ _ _ _ h0 hf (by simpa using h1) h2

set_option maxHeartbeats 1000000 in
theorem aliasR_a0 (d n b a x d' n' b' a' x' k : Int) (w : World) (hr : rightB d n b a x d' n' b' a' x' = false) :
    Calls Try.prog 12 #[.agg #[.int .i64 d, .int .i64 n, .int .i64 b, .int .i64 a, .int .i64 x], .agg #[.int .i64 d', .int .i64 n', .int .i64 b', .int .i64 a', .int .i64 x'], .int .i64 k] w (RU ⟨0, 0, 0, 0, 0, 1⟩ w) := by
  go_enter Try.func12, Try.ntmps12
  go_wp2_with (first | (go_at_call 32; refine (right_any _ _ _ _ _ _ _ _ _ _ _).mono ?_; rintro e w1 ⟨rfl, hb1⟩; obtain ⟨hc1, hf1, hs1⟩ := Gr.cells hb1))
  refine bodyPost_ret (v := .tuple #[.agg #[.int .i64 0, .int .i64 0, .int .i64 0, .int .i64 0, .int .i64 0], .int .i64 1]) (by first | (simp [results, Try.results12, go_sem]; done) | (simp [results, Try.results12, go_sem, hc1]; done) | (simp [results, Try.results12, go_sem, hc1, hs1]; done)) rfl ⟨rfl, (by with_reducible (repeat (first | exact Gr.refl _ | assumption | apply Gr.alloc | apply Gr.drew | apply Gr.drewN | refine Gr.setCell ?_ (by first | (simp; done) | (simp; omega)) _ | refine Gr.trans ?_ (by assumption))))⟩

set_option maxHeartbeats 1000000 in
theorem aliasR_a1 (d n b a x d' n' b' a' x' k : Int) (w : World) (hr : rightB d n b a x d' n' b' a' x' = true) (hk : k < 0) :
    Calls Try.prog 12 #[.agg #[.int .i64 d, .int .i64 n, .int .i64 b, .int .i64 a, .int .i64 x], .agg #[.int .i64 d', .int .i64 n', .int .i64 b', .int .i64 a', .int .i64 x'], .int .i64 k] w (RU ⟨0, 0, 0, 0, 0, 1⟩ w) := by
  go_enter Try.func12, Try.ntmps12
  go_wp2_with (first | (go_at_call 32; refine (right_any _ _ _ _ _ _ _ _ _ _ _).mono ?_; rintro e w1 ⟨rfl, hb1⟩; obtain ⟨hc1, hf1, hs1⟩ := Gr.cells hb1))
  refine bodyPost_ret (v := .tuple #[.agg #[.int .i64 0, .int .i64 0, .int .i64 0, .int .i64 0, .int .i64 0], .int .i64 1]) (by first | (simp [results, Try.results12, go_sem]; done) | (simp [results, Try.results12, go_sem, hc1]; done) | (simp [results, Try.results12, go_sem, hc1, hs1]; done)) rfl ⟨rfl, (by with_reducible (repeat (first | exact Gr.refl _ | assumption | apply Gr.alloc | apply Gr.drew | apply Gr.drewN | refine Gr.setCell ?_ (by first | (simp; done) | (simp; omega)) _ | refine Gr.trans ?_ (by assumption))))⟩

set_option maxHeartbeats 1000000 in
theorem aliasR_b (d n b a x d' n' b' a' x' k : Int) (w : World) (hr : rightB d n b a x d' n' b' a' x' = true) (_hf : ((1 ≤ d ∧ d ≤ 48 ∧ 1 ≤ n ∧ n ≤ 65536 ∧ 1 ≤ b ∧ b ≤ 1048576 ∧ 0 ≤ a ∧ a ≤ 1024 ∧ 0 ≤ x ∧ x ≤ 65536) ∧ 0 ≤ d' ∧ d' ≤ d ∧ 0 ≤ n' ∧ n' ≤ n ∧ 0 ≤ b' ∧ b' ≤ b ∧ 0 ≤ a' ∧ a' ≤ a ∧ 0 ≤ x' ∧ x' ≤ x) ∧ 0 ≤ k) (ha : (a' == a) = true) :
    Calls Try.prog 12 #[.agg #[.int .i64 d, .int .i64 n, .int .i64 b, .int .i64 a, .int .i64 x], .agg #[.int .i64 d', .int .i64 n', .int .i64 b', .int .i64 a', .int .i64 x'], .int .i64 k] w (RU ⟨0, 0, 0, 0, 0, 11⟩ w) := by
  go_enter Try.func12, Try.ntmps12
  go_wp2_with (first | (go_at_call 32; refine (right_any _ _ _ _ _ _ _ _ _ _ _).mono ?_; rintro e w1 ⟨rfl, hb1⟩; obtain ⟨hc1, hf1, hs1⟩ := Gr.cells hb1))
  refine bodyPost_ret (v := .tuple #[.agg #[.int .i64 0, .int .i64 0, .int .i64 0, .int .i64 0, .int .i64 0], .int .i64 11]) (by first | (simp [results, Try.results12, go_sem]; done) | (simp [results, Try.results12, go_sem, hc1]; done) | (simp [results, Try.results12, go_sem, hc1, hs1]; done)) rfl ⟨rfl, (by with_reducible (repeat (first | exact Gr.refl _ | assumption | apply Gr.alloc | apply Gr.drew | apply Gr.drewN | refine Gr.setCell ?_ (by first | (simp; done) | (simp; omega)) _ | refine Gr.trans ?_ (by assumption))))⟩

set_option maxHeartbeats 1000000 in
theorem aliasR_c (d n b a x d' n' b' a' x' k : Int) (w : World) (hr : rightB d n b a x d' n' b' a' x' = true) (_hf : ((1 ≤ d ∧ d ≤ 48 ∧ 1 ≤ n ∧ n ≤ 65536 ∧ 1 ≤ b ∧ b ≤ 1048576 ∧ 0 ≤ a ∧ a ≤ 1024 ∧ 0 ≤ x ∧ x ≤ 65536) ∧ 0 ≤ d' ∧ d' ≤ d ∧ 0 ≤ n' ∧ n' ≤ n ∧ 0 ≤ b' ∧ b' ≤ b ∧ 0 ≤ a' ∧ a' ≤ a ∧ 0 ≤ x' ∧ x' ≤ x) ∧ 0 ≤ k) (ha : (a' == a) = false) (hx : x - x' < k) :
    Calls Try.prog 12 #[.agg #[.int .i64 d, .int .i64 n, .int .i64 b, .int .i64 a, .int .i64 x], .agg #[.int .i64 d', .int .i64 n', .int .i64 b', .int .i64 a', .int .i64 x'], .int .i64 k] w (RU ⟨0, 0, 0, 0, 0, 12⟩ w) := by
  go_enter Try.func12, Try.ntmps12
  go_wp2_with (first | (go_at_call 32; refine (right_any _ _ _ _ _ _ _ _ _ _ _).mono ?_; rintro e w1 ⟨rfl, hb1⟩; obtain ⟨hc1, hf1, hs1⟩ := Gr.cells hb1))
  refine bodyPost_ret (v := .tuple #[.agg #[.int .i64 0, .int .i64 0, .int .i64 0, .int .i64 0, .int .i64 0], .int .i64 12]) (by first | (simp [results, Try.results12, go_sem]; done) | (simp [results, Try.results12, go_sem, hc1]; done) | (simp [results, Try.results12, go_sem, hc1, hs1]; done)) rfl ⟨rfl, (by with_reducible (repeat (first | exact Gr.refl _ | assumption | apply Gr.alloc | apply Gr.drew | apply Gr.drewN | refine Gr.setCell ?_ (by first | (simp; done) | (simp; omega)) _ | refine Gr.trans ?_ (by assumption))))⟩

set_option maxHeartbeats 1000000 in
theorem aliasR_d (d n b a x d' n' b' a' x' k : Int) (w : World) (hr : rightB d n b a x d' n' b' a' x' = true) (_hf : ((1 ≤ d ∧ d ≤ 48 ∧ 1 ≤ n ∧ n ≤ 65536 ∧ 1 ≤ b ∧ b ≤ 1048576 ∧ 0 ≤ a ∧ a ≤ 1024 ∧ 0 ≤ x ∧ x ≤ 65536) ∧ 0 ≤ d' ∧ d' ≤ d ∧ 0 ≤ n' ∧ n' ≤ n ∧ 0 ≤ b' ∧ b' ≤ b ∧ 0 ≤ a' ∧ a' ≤ a ∧ 0 ≤ x' ∧ x' ≤ x) ∧ 0 ≤ k) (ha : (a' == a) = false) (hx : ¬ x - x' < k) :
    Calls Try.prog 12 #[.agg #[.int .i64 d, .int .i64 n, .int .i64 b, .int .i64 a, .int .i64 x], .agg #[.int .i64 d', .int .i64 n', .int .i64 b', .int .i64 a', .int .i64 x'], .int .i64 k] w (RU ⟨d', n', b', a' + 1, x' + k, 0⟩ w) := by
  go_enter Try.func12, Try.ntmps12
  go_wp2_with (first | (go_at_call 32; refine (right_any _ _ _ _ _ _ _ _ _ _ _).mono ?_; rintro e w1 ⟨rfl, hb1⟩; obtain ⟨hc1, hf1, hs1⟩ := Gr.cells hb1))
  refine bodyPost_ret (v := .tuple #[.agg #[.int .i64 d', .int .i64 n', .int .i64 b', .int .i64 (a' + 1), .int .i64 (x' + k)], .int .i64 0]) (by first | (simp [results, Try.results12, go_sem]; done) | (simp [results, Try.results12, go_sem, hc1]; done) | (simp [results, Try.results12, go_sem, hc1, hs1]; done)) rfl ⟨rfl, (by with_reducible (repeat (first | exact Gr.refl _ | assumption | apply Gr.alloc | apply Gr.drew | apply Gr.drewN | refine Gr.setCell ?_ (by first | (simp; done) | (simp; omega)) _ | refine Gr.trans ?_ (by assumption))))⟩

theorem aliasR_any (d n b a x d' n' b' a' x' k : Int) (w : World) : Calls Try.prog 12 #[.agg #[.int .i64 d, .int .i64 n, .int .i64 b, .int .i64 a, .int .i64 x], .agg #[.int .i64 d', .int .i64 n', .int .i64 b', .int .i64 a', .int .i64 x'], .int .i64 k] w (RU (aliasF d n b a x d' n' b' a' x' k) w) := by
  unfold aliasF
  split
  · rename_i h0
    rcases not_ready h0 with h1 | ⟨h1, h2⟩
    · exact aliasR_a0 _ _ _ _ _ _ _ _ _ _ _ _ h1
    · exact aliasR_a1 _ _ _ _ _ _ _ _ _ _ _ _ h1 h2
  · rename_i h0
    simp only [Bool.not_eq_false] at h0
    have hf := ready_facts h0
    split
    · rename_i h1; exact aliasR_b _ _ _ _ _ _ _ _ _ _ _ _ (ready_right h0) hf (by simpa using h1)
    · rename_i h1
      split
      · rename_i h2; exact aliasR_c _ _ _ _ _ _ _ _ _ _ _ _ (ready_right h0) hf (by simpa using h1) h2
      · rename_i h2; exact aliasR_d _ _ _ _ _ _ _ _ _ _ _ _ (ready_right h0) hf (by simpa using h1) h2

set_option maxHeartbeats 1000000 in
theorem nodeP_a0 (d n b a x d' n' b' a' x' k : Int) (w : World) (hr : readyB d n b a x d' n' b' a' x' k = false) :
    Calls Try.prog 24 #[.agg #[.int .i64 d, .int .i64 n, .int .i64 b, .int .i64 a, .int .i64 x], .agg #[.int .i64 d', .int .i64 n', .int .i64 b', .int .i64 a', .int .i64 x'], .int .i64 k] w (RU ⟨0, 0, 0, 0, 0, 1⟩ w) := by
  go_enter Try.func24, Try.ntmps24
  go_wp2_with (first | (go_at_call 31; refine (ready_any _ _ _ _ _ _ _ _ _ _ _ _).mono ?_; rintro e w1 ⟨rfl, hb1⟩; obtain ⟨hc1, hf1, hs1⟩ := Gr.cells hb1))
  refine bodyPost_ret (v := .tuple #[.agg #[.int .i64 0, .int .i64 0, .int .i64 0, .int .i64 0, .int .i64 0], .int .i64 1]) (by first | (simp [results, Try.results24, go_sem]; done) | (simp [results, Try.results24, go_sem, hc1]; done) | (simp [results, Try.results24, go_sem, hc1, hs1]; done)) rfl ⟨rfl, (by with_reducible (repeat (first | exact Gr.refl _ | assumption | apply Gr.alloc | apply Gr.drew | apply Gr.drewN | refine Gr.setCell ?_ (by first | (simp; done) | (simp; omega)) _ | refine Gr.trans ?_ (by assumption))))⟩

set_option maxHeartbeats 1000000 in
theorem nodeP_c (d n b a x d' n' b' a' x' k : Int) (w : World) (hr : readyB d n b a x d' n' b' a' x' k = true) (_hf : ((1 ≤ d ∧ d ≤ 48 ∧ 1 ≤ n ∧ n ≤ 65536 ∧ 1 ≤ b ∧ b ≤ 1048576 ∧ 0 ≤ a ∧ a ≤ 1024 ∧ 0 ≤ x ∧ x ≤ 65536) ∧ 0 ≤ d' ∧ d' ≤ d ∧ 0 ≤ n' ∧ n' ≤ n ∧ 0 ≤ b' ∧ b' ≤ b ∧ 0 ≤ a' ∧ a' ≤ a ∧ 0 ≤ x' ∧ x' ≤ x) ∧ 0 ≤ k) (hx : n - n' < k) :
    Calls Try.prog 24 #[.agg #[.int .i64 d, .int .i64 n, .int .i64 b, .int .i64 a, .int .i64 x], .agg #[.int .i64 d', .int .i64 n', .int .i64 b', .int .i64 a', .int .i64 x'], .int .i64 k] w (RU ⟨0, 0, 0, 0, 0, 10⟩ w) := by
  go_enter Try.func24, Try.ntmps24
  go_wp2_with (first | (go_at_call 31; refine (ready_any _ _ _ _ _ _ _ _ _ _ _ _).mono ?_; rintro e w1 ⟨rfl, hb1⟩; obtain ⟨hc1, hf1, hs1⟩ := Gr.cells hb1))
  refine bodyPost_ret (v := .tuple #[.agg #[.int .i64 0, .int .i64 0, .int .i64 0, .int .i64 0, .int .i64 0], .int .i64 10]) (by first | (simp [results, Try.results24, go_sem]; done) | (simp [results, Try.results24, go_sem, hc1]; done) | (simp [results, Try.results24, go_sem, hc1, hs1]; done)) rfl ⟨rfl, (by with_reducible (repeat (first | exact Gr.refl _ | assumption | apply Gr.alloc | apply Gr.drew | apply Gr.drewN | refine Gr.setCell ?_ (by first | (simp; done) | (simp; omega)) _ | refine Gr.trans ?_ (by assumption))))⟩

set_option maxHeartbeats 1000000 in
theorem nodeP_d (d n b a x d' n' b' a' x' k : Int) (w : World) (hr : readyB d n b a x d' n' b' a' x' k = true) (_hf : ((1 ≤ d ∧ d ≤ 48 ∧ 1 ≤ n ∧ n ≤ 65536 ∧ 1 ≤ b ∧ b ≤ 1048576 ∧ 0 ≤ a ∧ a ≤ 1024 ∧ 0 ≤ x ∧ x ≤ 65536) ∧ 0 ≤ d' ∧ d' ≤ d ∧ 0 ≤ n' ∧ n' ≤ n ∧ 0 ≤ b' ∧ b' ≤ b ∧ 0 ≤ a' ∧ a' ≤ a ∧ 0 ≤ x' ∧ x' ≤ x) ∧ 0 ≤ k) (hx : ¬ n - n' < k) :
    Calls Try.prog 24 #[.agg #[.int .i64 d, .int .i64 n, .int .i64 b, .int .i64 a, .int .i64 x], .agg #[.int .i64 d', .int .i64 n', .int .i64 b', .int .i64 a', .int .i64 x'], .int .i64 k] w (RU ⟨d', n' + k, b', a', x', 0⟩ w) := by
  go_enter Try.func24, Try.ntmps24
  go_wp2_with (first | (go_at_call 31; refine (ready_any _ _ _ _ _ _ _ _ _ _ _ _).mono ?_; rintro e w1 ⟨rfl, hb1⟩; obtain ⟨hc1, hf1, hs1⟩ := Gr.cells hb1))
  refine bodyPost_ret (v := .tuple #[.agg #[.int .i64 d', .int .i64 (n' + k), .int .i64 b', .int .i64 a', .int .i64 x'], .int .i64 0]) (by first | (simp [results, Try.results24, go_sem]; done) | (simp [results, Try.results24, go_sem, hc1]; done) | (simp [results, Try.results24, go_sem, hc1, hs1]; done)) rfl ⟨rfl, (by with_reducible (repeat (first | exact Gr.refl _ | assumption | apply Gr.alloc | apply Gr.drew | apply Gr.drewN | refine Gr.setCell ?_ (by first | (simp; done) | (simp; omega)) _ | refine Gr.trans ?_ (by assumption))))⟩

theorem nodeP_any (d n b a x d' n' b' a' x' k : Int) (w : World) : Calls Try.prog 24 #[.agg #[.int .i64 d, .int .i64 n, .int .i64 b, .int .i64 a, .int .i64 x], .agg #[.int .i64 d', .int .i64 n', .int .i64 b', .int .i64 a', .int .i64 x'], .int .i64 k] w (RU (nodeF d n b a x d' n' b' a' x' k) w) := by
  unfold nodeF
  split
  · rename_i h0
    exact nodeP_a0 _ _ _ _ _ _ _ _ _ _ _ _ h0
  · rename_i h0
    simp only [Bool.not_eq_false] at h0
    have hf := ready_facts h0
    split
    · rename_i h1; exact nodeP_c _ _ _ _ _ _ _ _ _ _ _ _ h0 hf h1
    · rename_i h1; exact nodeP_d _ _ _ _ _ _ _ _ _ _ _ _ h0 hf h1

set_option maxHeartbeats 1000000 in
theorem nodeR_a0 (d n b a x d' n' b' a' x' k : Int) (w : World) (hr : rightB d n b a x d' n' b' a' x' = false) :
    Calls Try.prog 25 #[.agg #[.int .i64 d, .int .i64 n, .int .i64 b, .int .i64 a, .int .i64 x], .agg #[.int .i64 d', .int .i64 n', .int .i64 b', .int .i64 a', .int .i64 x'], .int .i64 k] w (RU ⟨0, 0, 0, 0, 0, 1⟩ w) := by
  go_enter Try.func25, Try.ntmps25
  go_wp2_with (first | (go_at_call 32; refine (right_any _ _ _ _ _ _ _ _ _ _ _).mono ?_; rintro e w1 ⟨rfl, hb1⟩; obtain ⟨hc1, hf1, hs1⟩ := Gr.cells hb1))
  refine bodyPost_ret (v := .tuple #[.agg #[.int .i64 0, .int .i64 0, .int .i64 0, .int .i64 0, .int .i64 0], .int .i64 1]) (by first | (simp [results, Try.results25, go_sem]; done) | (simp [results, Try.results25, go_sem, hc1]; done) | (simp [results, Try.results25, go_sem, hc1, hs1]; done)) rfl ⟨rfl, (by with_reducible (repeat (first | exact Gr.refl _ | assumption | apply Gr.alloc | apply Gr.drew | apply Gr.drewN | refine Gr.setCell ?_ (by first | (simp; done) | (simp; omega)) _ | refine Gr.trans ?_ (by assumption))))⟩

set_option maxHeartbeats 1000000 in
theorem nodeR_a1 (d n b a x d' n' b' a' x' k : Int) (w : World) (hr : rightB d n b a x d' n' b' a' x' = true) (hk : k < 0) :
    Calls Try.prog 25 #[.agg #[.int .i64 d, .int .i64 n, .int .i64 b, .int .i64 a, .int .i64 x], .agg #[.int .i64 d', .int .i64 n', .int .i64 b', .int .i64 a', .int .i64 x'], .int .i64 k] w (RU ⟨0, 0, 0, 0, 0, 1⟩ w) := by
  go_enter Try.func25, Try.ntmps25
  go_wp2_with (first | (go_at_call 32; refine (right_any _ _ _ _ _ _ _ _ _ _ _).mono ?_; rintro e w1 ⟨rfl, hb1⟩; obtain ⟨hc1, hf1, hs1⟩ := Gr.cells hb1))
  refine bodyPost_ret (v := .tuple #[.agg #[.int .i64 0, .int .i64 0, .int .i64 0, .int .i64 0, .int .i64 0], .int .i64 1]) (by first | (simp [results, Try.results25, go_sem]; done) | (simp [results, Try.results25, go_sem, hc1]; done) | (simp [results, Try.results25, go_sem, hc1, hs1]; done)) rfl ⟨rfl, (by with_reducible (repeat (first | exact Gr.refl _ | assumption | apply Gr.alloc | apply Gr.drew | apply Gr.drewN | refine Gr.setCell ?_ (by first | (simp; done) | (simp; omega)) _ | refine Gr.trans ?_ (by assumption))))⟩

set_option maxHeartbeats 1000000 in
theorem nodeR_c (d n b a x d' n' b' a' x' k : Int) (w : World) (hr : rightB d n b a x d' n' b' a' x' = true) (_hf : ((1 ≤ d ∧ d ≤ 48 ∧ 1 ≤ n ∧ n ≤ 65536 ∧ 1 ≤ b ∧ b ≤ 1048576 ∧ 0 ≤ a ∧ a ≤ 1024 ∧ 0 ≤ x ∧ x ≤ 65536) ∧ 0 ≤ d' ∧ d' ≤ d ∧ 0 ≤ n' ∧ n' ≤ n ∧ 0 ≤ b' ∧ b' ≤ b ∧ 0 ≤ a' ∧ a' ≤ a ∧ 0 ≤ x' ∧ x' ≤ x) ∧ 0 ≤ k) (hx : n - n' < k) :
    Calls Try.prog 25 #[.agg #[.int .i64 d, .int .i64 n, .int .i64 b, .int .i64 a, .int .i64 x], .agg #[.int .i64 d', .int .i64 n', .int .i64 b', .int .i64 a', .int .i64 x'], .int .i64 k] w (RU ⟨0, 0, 0, 0, 0, 10⟩ w) := by
  go_enter Try.func25, Try.ntmps25
  go_wp2_with (first | (go_at_call 32; refine (right_any _ _ _ _ _ _ _ _ _ _ _).mono ?_; rintro e w1 ⟨rfl, hb1⟩; obtain ⟨hc1, hf1, hs1⟩ := Gr.cells hb1))
  refine bodyPost_ret (v := .tuple #[.agg #[.int .i64 0, .int .i64 0, .int .i64 0, .int .i64 0, .int .i64 0], .int .i64 10]) (by first | (simp [results, Try.results25, go_sem]; done) | (simp [results, Try.results25, go_sem, hc1]; done) | (simp [results, Try.results25, go_sem, hc1, hs1]; done)) rfl ⟨rfl, (by with_reducible (repeat (first | exact Gr.refl _ | assumption | apply Gr.alloc | apply Gr.drew | apply Gr.drewN | refine Gr.setCell ?_ (by first | (simp; done) | (simp; omega)) _ | refine Gr.trans ?_ (by assumption))))⟩

set_option maxHeartbeats 1000000 in
theorem nodeR_d (d n b a x d' n' b' a' x' k : Int) (w : World) (hr : rightB d n b a x d' n' b' a' x' = true) (_hf : ((1 ≤ d ∧ d ≤ 48 ∧ 1 ≤ n ∧ n ≤ 65536 ∧ 1 ≤ b ∧ b ≤ 1048576 ∧ 0 ≤ a ∧ a ≤ 1024 ∧ 0 ≤ x ∧ x ≤ 65536) ∧ 0 ≤ d' ∧ d' ≤ d ∧ 0 ≤ n' ∧ n' ≤ n ∧ 0 ≤ b' ∧ b' ≤ b ∧ 0 ≤ a' ∧ a' ≤ a ∧ 0 ≤ x' ∧ x' ≤ x) ∧ 0 ≤ k) (hx : ¬ n - n' < k) :
    Calls Try.prog 25 #[.agg #[.int .i64 d, .int .i64 n, .int .i64 b, .int .i64 a, .int .i64 x], .agg #[.int .i64 d', .int .i64 n', .int .i64 b', .int .i64 a', .int .i64 x'], .int .i64 k] w (RU ⟨d', n' + k, b', a', x', 0⟩ w) := by
  go_enter Try.func25, Try.ntmps25
  go_wp2_with (first | (go_at_call 32; refine (right_any _ _ _ _ _ _ _ _ _ _ _).mono ?_; rintro e w1 ⟨rfl, hb1⟩; obtain ⟨hc1, hf1, hs1⟩ := Gr.cells hb1))
  refine bodyPost_ret (v := .tuple #[.agg #[.int .i64 d', .int .i64 (n' + k), .int .i64 b', .int .i64 a', .int .i64 x'], .int .i64 0]) (by first | (simp [results, Try.results25, go_sem]; done) | (simp [results, Try.results25, go_sem, hc1]; done) | (simp [results, Try.results25, go_sem, hc1, hs1]; done)) rfl ⟨rfl, (by with_reducible (repeat (first | exact Gr.refl _ | assumption | apply Gr.alloc | apply Gr.drew | apply Gr.drewN | refine Gr.setCell ?_ (by first | (simp; done) | (simp; omega)) _ | refine Gr.trans ?_ (by assumption))))⟩

theorem nodeR_any (d n b a x d' n' b' a' x' k : Int) (w : World) : Calls Try.prog 25 #[.agg #[.int .i64 d, .int .i64 n, .int .i64 b, .int .i64 a, .int .i64 x], .agg #[.int .i64 d', .int .i64 n', .int .i64 b', .int .i64 a', .int .i64 x'], .int .i64 k] w (RU (nodeF d n b a x d' n' b' a' x' k) w) := by
  unfold nodeF
  split
  · rename_i h0
    rcases not_ready h0 with h1 | ⟨h1, h2⟩
    · exact nodeR_a0 _ _ _ _ _ _ _ _ _ _ _ _ h1
    · exact nodeR_a1 _ _ _ _ _ _ _ _ _ _ _ _ h1 h2
  · rename_i h0
    simp only [Bool.not_eq_false] at h0
    have hf := ready_facts h0
    split
    · rename_i h1; exact nodeR_c _ _ _ _ _ _ _ _ _ _ _ _ (ready_right h0) hf h1
    · rename_i h1; exact nodeR_d _ _ _ _ _ _ _ _ _ _ _ _ (ready_right h0) hf h1

set_option maxHeartbeats 1000000 in
theorem bytesP_a0 (d n b a x d' n' b' a' x' k : Int) (w : World) (hr : readyB d n b a x d' n' b' a' x' k = false) :
    Calls Try.prog 26 #[.agg #[.int .i64 d, .int .i64 n, .int .i64 b, .int .i64 a, .int .i64 x], .agg #[.int .i64 d', .int .i64 n', .int .i64 b', .int .i64 a', .int .i64 x'], .int .i64 k] w (RU ⟨0, 0, 0, 0, 0, 1⟩ w) := by
  go_enter Try.func26, Try.ntmps26
  go_wp2_with (first | (go_at_call 31; refine (ready_any _ _ _ _ _ _ _ _ _ _ _ _).mono ?_; rintro e w1 ⟨rfl, hb1⟩; obtain ⟨hc1, hf1, hs1⟩ := Gr.cells hb1))
  refine bodyPost_ret (v := .tuple #[.agg #[.int .i64 0, .int .i64 0, .int .i64 0, .int .i64 0, .int .i64 0], .int .i64 1]) (by first | (simp [results, Try.results26, go_sem]; done) | (simp [results, Try.results26, go_sem, hc1]; done) | (simp [results, Try.results26, go_sem, hc1, hs1]; done)) rfl ⟨rfl, (by with_reducible (repeat (first | exact Gr.refl _ | assumption | apply Gr.alloc | apply Gr.drew | apply Gr.drewN | refine Gr.setCell ?_ (by first | (simp; done) | (simp; omega)) _ | refine Gr.trans ?_ (by assumption))))⟩

set_option maxHeartbeats 1000000 in
theorem bytesP_c (d n b a x d' n' b' a' x' k : Int) (w : World) (hr : readyB d n b a x d' n' b' a' x' k = true) (_hf : ((1 ≤ d ∧ d ≤ 48 ∧ 1 ≤ n ∧ n ≤ 65536 ∧ 1 ≤ b ∧ b ≤ 1048576 ∧ 0 ≤ a ∧ a ≤ 1024 ∧ 0 ≤ x ∧ x ≤ 65536) ∧ 0 ≤ d' ∧ d' ≤ d ∧ 0 ≤ n' ∧ n' ≤ n ∧ 0 ≤ b' ∧ b' ≤ b ∧ 0 ≤ a' ∧ a' ≤ a ∧ 0 ≤ x' ∧ x' ≤ x) ∧ 0 ≤ k) (hx : b - b' < k) :
    Calls Try.prog 26 #[.agg #[.int .i64 d, .int .i64 n, .int .i64 b, .int .i64 a, .int .i64 x], .agg #[.int .i64 d', .int .i64 n', .int .i64 b', .int .i64 a', .int .i64 x'], .int .i64 k] w (RU ⟨0, 0, 0, 0, 0, 10⟩ w) := by
  go_enter Try.func26, Try.ntmps26
  go_wp2_with (first | (go_at_call 31; refine (ready_any _ _ _ _ _ _ _ _ _ _ _ _).mono ?_; rintro e w1 ⟨rfl, hb1⟩; obtain ⟨hc1, hf1, hs1⟩ := Gr.cells hb1))
  refine bodyPost_ret (v := .tuple #[.agg #[.int .i64 0, .int .i64 0, .int .i64 0, .int .i64 0, .int .i64 0], .int .i64 10]) (by first | (simp [results, Try.results26, go_sem]; done) | (simp [results, Try.results26, go_sem, hc1]; done) | (simp [results, Try.results26, go_sem, hc1, hs1]; done)) rfl ⟨rfl, (by with_reducible (repeat (first | exact Gr.refl _ | assumption | apply Gr.alloc | apply Gr.drew | apply Gr.drewN | refine Gr.setCell ?_ (by first | (simp; done) | (simp; omega)) _ | refine Gr.trans ?_ (by assumption))))⟩

set_option maxHeartbeats 1000000 in
theorem bytesP_d (d n b a x d' n' b' a' x' k : Int) (w : World) (hr : readyB d n b a x d' n' b' a' x' k = true) (_hf : ((1 ≤ d ∧ d ≤ 48 ∧ 1 ≤ n ∧ n ≤ 65536 ∧ 1 ≤ b ∧ b ≤ 1048576 ∧ 0 ≤ a ∧ a ≤ 1024 ∧ 0 ≤ x ∧ x ≤ 65536) ∧ 0 ≤ d' ∧ d' ≤ d ∧ 0 ≤ n' ∧ n' ≤ n ∧ 0 ≤ b' ∧ b' ≤ b ∧ 0 ≤ a' ∧ a' ≤ a ∧ 0 ≤ x' ∧ x' ≤ x) ∧ 0 ≤ k) (hx : ¬ b - b' < k) :
    Calls Try.prog 26 #[.agg #[.int .i64 d, .int .i64 n, .int .i64 b, .int .i64 a, .int .i64 x], .agg #[.int .i64 d', .int .i64 n', .int .i64 b', .int .i64 a', .int .i64 x'], .int .i64 k] w (RU ⟨d', n', b' + k, a', x', 0⟩ w) := by
  go_enter Try.func26, Try.ntmps26
  go_wp2_with (first | (go_at_call 31; refine (ready_any _ _ _ _ _ _ _ _ _ _ _ _).mono ?_; rintro e w1 ⟨rfl, hb1⟩; obtain ⟨hc1, hf1, hs1⟩ := Gr.cells hb1))
  refine bodyPost_ret (v := .tuple #[.agg #[.int .i64 d', .int .i64 n', .int .i64 (b' + k), .int .i64 a', .int .i64 x'], .int .i64 0]) (by first | (simp [results, Try.results26, go_sem]; done) | (simp [results, Try.results26, go_sem, hc1]; done) | (simp [results, Try.results26, go_sem, hc1, hs1]; done)) rfl ⟨rfl, (by with_reducible (repeat (first | exact Gr.refl _ | assumption | apply Gr.alloc | apply Gr.drew | apply Gr.drewN | refine Gr.setCell ?_ (by first | (simp; done) | (simp; omega)) _ | refine Gr.trans ?_ (by assumption))))⟩

theorem bytesP_any (d n b a x d' n' b' a' x' k : Int) (w : World) : Calls Try.prog 26 #[.agg #[.int .i64 d, .int .i64 n, .int .i64 b, .int .i64 a, .int .i64 x], .agg #[.int .i64 d', .int .i64 n', .int .i64 b', .int .i64 a', .int .i64 x'], .int .i64 k] w (RU (bytesF d n b a x d' n' b' a' x' k) w) := by
  unfold bytesF
  split
  · rename_i h0
    exact bytesP_a0 _ _ _ _ _ _ _ _ _ _ _ _ h0
  · rename_i h0
    simp only [Bool.not_eq_false] at h0
    have hf := ready_facts h0
    split
    · rename_i h1; exact bytesP_c _ _ _ _ _ _ _ _ _ _ _ _ h0 hf h1
    · rename_i h1; exact bytesP_d _ _ _ _ _ _ _ _ _ _ _ _ h0 hf h1

set_option maxHeartbeats 1000000 in
theorem bytesR_a0 (d n b a x d' n' b' a' x' k : Int) (w : World) (hr : rightB d n b a x d' n' b' a' x' = false) :
    Calls Try.prog 27 #[.agg #[.int .i64 d, .int .i64 n, .int .i64 b, .int .i64 a, .int .i64 x], .agg #[.int .i64 d', .int .i64 n', .int .i64 b', .int .i64 a', .int .i64 x'], .int .i64 k] w (RU ⟨0, 0, 0, 0, 0, 1⟩ w) := by
  go_enter Try.func27, Try.ntmps27
  go_wp2_with (first | (go_at_call 32; refine (right_any _ _ _ _ _ _ _ _ _ _ _).mono ?_; rintro e w1 ⟨rfl, hb1⟩; obtain ⟨hc1, hf1, hs1⟩ := Gr.cells hb1))
  refine bodyPost_ret (v := .tuple #[.agg #[.int .i64 0, .int .i64 0, .int .i64 0, .int .i64 0, .int .i64 0], .int .i64 1]) (by first | (simp [results, Try.results27, go_sem]; done) | (simp [results, Try.results27, go_sem, hc1]; done) | (simp [results, Try.results27, go_sem, hc1, hs1]; done)) rfl ⟨rfl, (by with_reducible (repeat (first | exact Gr.refl _ | assumption | apply Gr.alloc | apply Gr.drew | apply Gr.drewN | refine Gr.setCell ?_ (by first | (simp; done) | (simp; omega)) _ | refine Gr.trans ?_ (by assumption))))⟩

set_option maxHeartbeats 1000000 in
theorem bytesR_a1 (d n b a x d' n' b' a' x' k : Int) (w : World) (hr : rightB d n b a x d' n' b' a' x' = true) (hk : k < 0) :
    Calls Try.prog 27 #[.agg #[.int .i64 d, .int .i64 n, .int .i64 b, .int .i64 a, .int .i64 x], .agg #[.int .i64 d', .int .i64 n', .int .i64 b', .int .i64 a', .int .i64 x'], .int .i64 k] w (RU ⟨0, 0, 0, 0, 0, 1⟩ w) := by
  go_enter Try.func27, Try.ntmps27
  go_wp2_with (first | (go_at_call 32; refine (right_any _ _ _ _ _ _ _ _ _ _ _).mono ?_; rintro e w1 ⟨rfl, hb1⟩; obtain ⟨hc1, hf1, hs1⟩ := Gr.cells hb1))
  refine bodyPost_ret (v := .tuple #[.agg #[.int .i64 0, .int .i64 0, .int .i64 0, .int .i64 0, .int .i64 0], .int .i64 1]) (by first | (simp [results, Try.results27, go_sem]; done) | (simp [results, Try.results27, go_sem, hc1]; done) | (simp [results, Try.results27, go_sem, hc1, hs1]; done)) rfl ⟨rfl, (by with_reducible (repeat (first | exact Gr.refl _ | assumption | apply Gr.alloc | apply Gr.drew | apply Gr.drewN | refine Gr.setCell ?_ (by first | (simp; done) | (simp; omega)) _ | refine Gr.trans ?_ (by assumption))))⟩

set_option maxHeartbeats 1000000 in
theorem bytesR_c (d n b a x d' n' b' a' x' k : Int) (w : World) (hr : rightB d n b a x d' n' b' a' x' = true) (_hf : ((1 ≤ d ∧ d ≤ 48 ∧ 1 ≤ n ∧ n ≤ 65536 ∧ 1 ≤ b ∧ b ≤ 1048576 ∧ 0 ≤ a ∧ a ≤ 1024 ∧ 0 ≤ x ∧ x ≤ 65536) ∧ 0 ≤ d' ∧ d' ≤ d ∧ 0 ≤ n' ∧ n' ≤ n ∧ 0 ≤ b' ∧ b' ≤ b ∧ 0 ≤ a' ∧ a' ≤ a ∧ 0 ≤ x' ∧ x' ≤ x) ∧ 0 ≤ k) (hx : b - b' < k) :
    Calls Try.prog 27 #[.agg #[.int .i64 d, .int .i64 n, .int .i64 b, .int .i64 a, .int .i64 x], .agg #[.int .i64 d', .int .i64 n', .int .i64 b', .int .i64 a', .int .i64 x'], .int .i64 k] w (RU ⟨0, 0, 0, 0, 0, 10⟩ w) := by
  go_enter Try.func27, Try.ntmps27
  go_wp2_with (first | (go_at_call 32; refine (right_any _ _ _ _ _ _ _ _ _ _ _).mono ?_; rintro e w1 ⟨rfl, hb1⟩; obtain ⟨hc1, hf1, hs1⟩ := Gr.cells hb1))
  refine bodyPost_ret (v := .tuple #[.agg #[.int .i64 0, .int .i64 0, .int .i64 0, .int .i64 0, .int .i64 0], .int .i64 10]) (by first | (simp [results, Try.results27, go_sem]; done) | (simp [results, Try.results27, go_sem, hc1]; done) | (simp [results, Try.results27, go_sem, hc1, hs1]; done)) rfl ⟨rfl, (by with_reducible (repeat (first | exact Gr.refl _ | assumption | apply Gr.alloc | apply Gr.drew | apply Gr.drewN | refine Gr.setCell ?_ (by first | (simp; done) | (simp; omega)) _ | refine Gr.trans ?_ (by assumption))))⟩

set_option maxHeartbeats 1000000 in
theorem bytesR_d (d n b a x d' n' b' a' x' k : Int) (w : World) (hr : rightB d n b a x d' n' b' a' x' = true) (_hf : ((1 ≤ d ∧ d ≤ 48 ∧ 1 ≤ n ∧ n ≤ 65536 ∧ 1 ≤ b ∧ b ≤ 1048576 ∧ 0 ≤ a ∧ a ≤ 1024 ∧ 0 ≤ x ∧ x ≤ 65536) ∧ 0 ≤ d' ∧ d' ≤ d ∧ 0 ≤ n' ∧ n' ≤ n ∧ 0 ≤ b' ∧ b' ≤ b ∧ 0 ≤ a' ∧ a' ≤ a ∧ 0 ≤ x' ∧ x' ≤ x) ∧ 0 ≤ k) (hx : ¬ b - b' < k) :
    Calls Try.prog 27 #[.agg #[.int .i64 d, .int .i64 n, .int .i64 b, .int .i64 a, .int .i64 x], .agg #[.int .i64 d', .int .i64 n', .int .i64 b', .int .i64 a', .int .i64 x'], .int .i64 k] w (RU ⟨d', n', b' + k, a', x', 0⟩ w) := by
  go_enter Try.func27, Try.ntmps27
  go_wp2_with (first | (go_at_call 32; refine (right_any _ _ _ _ _ _ _ _ _ _ _).mono ?_; rintro e w1 ⟨rfl, hb1⟩; obtain ⟨hc1, hf1, hs1⟩ := Gr.cells hb1))
  refine bodyPost_ret (v := .tuple #[.agg #[.int .i64 d', .int .i64 n', .int .i64 (b' + k), .int .i64 a', .int .i64 x'], .int .i64 0]) (by first | (simp [results, Try.results27, go_sem]; done) | (simp [results, Try.results27, go_sem, hc1]; done) | (simp [results, Try.results27, go_sem, hc1, hs1]; done)) rfl ⟨rfl, (by with_reducible (repeat (first | exact Gr.refl _ | assumption | apply Gr.alloc | apply Gr.drew | apply Gr.drewN | refine Gr.setCell ?_ (by first | (simp; done) | (simp; omega)) _ | refine Gr.trans ?_ (by assumption))))⟩

theorem bytesR_any (d n b a x d' n' b' a' x' k : Int) (w : World) : Calls Try.prog 27 #[.agg #[.int .i64 d, .int .i64 n, .int .i64 b, .int .i64 a, .int .i64 x], .agg #[.int .i64 d', .int .i64 n', .int .i64 b', .int .i64 a', .int .i64 x'], .int .i64 k] w (RU (bytesF d n b a x d' n' b' a' x' k) w) := by
  unfold bytesF
  split
  · rename_i h0
    rcases not_ready h0 with h1 | ⟨h1, h2⟩
    · exact bytesR_a0 _ _ _ _ _ _ _ _ _ _ _ _ h1
    · exact bytesR_a1 _ _ _ _ _ _ _ _ _ _ _ _ h1 h2
  · rename_i h0
    simp only [Bool.not_eq_false] at h0
    have hf := ready_facts h0
    split
    · rename_i h1; exact bytesR_c _ _ _ _ _ _ _ _ _ _ _ _ (ready_right h0) hf h1
    · rename_i h1; exact bytesR_d _ _ _ _ _ _ _ _ _ _ _ _ (ready_right h0) hf h1

set_option maxHeartbeats 1000000 in
theorem openP_a0 (d n b a x d' n' b' a' x' : Int) (w : World) (hr : readyB d n b a x d' n' b' a' x' 0 = false) :
    Calls Try.prog 20 #[.agg #[.int .i64 d, .int .i64 n, .int .i64 b, .int .i64 a, .int .i64 x], .agg #[.int .i64 d', .int .i64 n', .int .i64 b', .int .i64 a', .int .i64 x']] w (RU ⟨0, 0, 0, 0, 0, 1⟩ w) := by
  go_enter Try.func20, Try.ntmps20
  go_wp2_with (first | (go_at_call 31; refine (ready_any _ _ _ _ _ _ _ _ _ _ _ _).mono ?_; rintro e w1 ⟨rfl, hb1⟩; obtain ⟨hc1, hf1, hs1⟩ := Gr.cells hb1))
  refine bodyPost_ret (v := .tuple #[.agg #[.int .i64 0, .int .i64 0, .int .i64 0, .int .i64 0, .int .i64 0], .int .i64 1]) (by first | (simp [results, Try.results20, go_sem]; done) | (simp [results, Try.results20, go_sem, hc1]; done) | (simp [results, Try.results20, go_sem, hc1, hs1]; done)) rfl ⟨rfl, (by with_reducible (repeat (first | exact Gr.refl _ | assumption | apply Gr.alloc | apply Gr.drew | apply Gr.drewN | refine Gr.setCell ?_ (by first | (simp; done) | (simp; omega)) _ | refine Gr.trans ?_ (by assumption))))⟩

set_option maxHeartbeats 1000000 in
theorem openP_b (d n b a x d' n' b' a' x' : Int) (w : World) (hr : readyB d n b a x d' n' b' a' x' 0 = true) (_hf : ((1 ≤ d ∧ d ≤ 48 ∧ 1 ≤ n ∧ n ≤ 65536 ∧ 1 ≤ b ∧ b ≤ 1048576 ∧ 0 ≤ a ∧ a ≤ 1024 ∧ 0 ≤ x ∧ x ≤ 65536) ∧ 0 ≤ d' ∧ d' ≤ d ∧ 0 ≤ n' ∧ n' ≤ n ∧ 0 ≤ b' ∧ b' ≤ b ∧ 0 ≤ a' ∧ a' ≤ a ∧ 0 ≤ x' ∧ x' ≤ x) ∧ 0 ≤ (0 : Int)) (ha : (d' == d) = true) :
    Calls Try.prog 20 #[.agg #[.int .i64 d, .int .i64 n, .int .i64 b, .int .i64 a, .int .i64 x], .agg #[.int .i64 d', .int .i64 n', .int .i64 b', .int .i64 a', .int .i64 x']] w (RU ⟨0, 0, 0, 0, 0, 9⟩ w) := by
  go_enter Try.func20, Try.ntmps20
  go_wp2_with (first | (go_at_call 31; refine (ready_any _ _ _ _ _ _ _ _ _ _ _ _).mono ?_; rintro e w1 ⟨rfl, hb1⟩; obtain ⟨hc1, hf1, hs1⟩ := Gr.cells hb1))
  refine bodyPost_ret (v := .tuple #[.agg #[.int .i64 0, .int .i64 0, .int .i64 0, .int .i64 0, .int .i64 0], .int .i64 9]) (by first | (simp [results, Try.results20, go_sem]; done) | (simp [results, Try.results20, go_sem, hc1]; done) | (simp [results, Try.results20, go_sem, hc1, hs1]; done)) rfl ⟨rfl, (by with_reducible (repeat (first | exact Gr.refl _ | assumption | apply Gr.alloc | apply Gr.drew | apply Gr.drewN | refine Gr.setCell ?_ (by first | (simp; done) | (simp; omega)) _ | refine Gr.trans ?_ (by assumption))))⟩

set_option maxHeartbeats 1000000 in
theorem openP_d (d n b a x d' n' b' a' x' : Int) (w : World) (hr : readyB d n b a x d' n' b' a' x' 0 = true) (_hf : ((1 ≤ d ∧ d ≤ 48 ∧ 1 ≤ n ∧ n ≤ 65536 ∧ 1 ≤ b ∧ b ≤ 1048576 ∧ 0 ≤ a ∧ a ≤ 1024 ∧ 0 ≤ x ∧ x ≤ 65536) ∧ 0 ≤ d' ∧ d' ≤ d ∧ 0 ≤ n' ∧ n' ≤ n ∧ 0 ≤ b' ∧ b' ≤ b ∧ 0 ≤ a' ∧ a' ≤ a ∧ 0 ≤ x' ∧ x' ≤ x) ∧ 0 ≤ (0 : Int)) (ha : (d' == d) = false) :
    Calls Try.prog 20 #[.agg #[.int .i64 d, .int .i64 n, .int .i64 b, .int .i64 a, .int .i64 x], .agg #[.int .i64 d', .int .i64 n', .int .i64 b', .int .i64 a', .int .i64 x']] w (RU ⟨d' + 1, n', b', a', x', 0⟩ w) := by
  go_enter Try.func20, Try.ntmps20
  go_wp2_with (first | (go_at_call 31; refine (ready_any _ _ _ _ _ _ _ _ _ _ _ _).mono ?_; rintro e w1 ⟨rfl, hb1⟩; obtain ⟨hc1, hf1, hs1⟩ := Gr.cells hb1))
  refine bodyPost_ret (v := .tuple #[.agg #[.int .i64 (d' + 1), .int .i64 n', .int .i64 b', .int .i64 a', .int .i64 x'], .int .i64 0]) (by first | (simp [results, Try.results20, go_sem]; done) | (simp [results, Try.results20, go_sem, hc1]; done) | (simp [results, Try.results20, go_sem, hc1, hs1]; done)) rfl ⟨rfl, (by with_reducible (repeat (first | exact Gr.refl _ | assumption | apply Gr.alloc | apply Gr.drew | apply Gr.drewN | refine Gr.setCell ?_ (by first | (simp; done) | (simp; omega)) _ | refine Gr.trans ?_ (by assumption))))⟩

theorem openP_any (d n b a x d' n' b' a' x' : Int) (w : World) : Calls Try.prog 20 #[.agg #[.int .i64 d, .int .i64 n, .int .i64 b, .int .i64 a, .int .i64 x], .agg #[.int .i64 d', .int .i64 n', .int .i64 b', .int .i64 a', .int .i64 x']] w (RU (openF d n b a x d' n' b' a' x') w) := by
  unfold openF
  split
  · rename_i h0
    exact openP_a0 _ _ _ _ _ _ _ _ _ _ _ h0
  · rename_i h0
    simp only [Bool.not_eq_false] at h0
    have hf := ready_facts h0
    split
    · rename_i h1; exact openP_b _ _ _ _ _ _ _ _ _ _ _ h0 hf (by simpa using h1)
    · rename_i h1; exact openP_d _ _ _ _ _ _ _ _ _ _ _ h0 hf (by simpa using h1)

set_option maxHeartbeats 1000000 in
theorem openR_a0 (d n b a x d' n' b' a' x' : Int) (w : World) (hr : rightB d n b a x d' n' b' a' x' = false) :
    Calls Try.prog 21 #[.agg #[.int .i64 d, .int .i64 n, .int .i64 b, .int .i64 a, .int .i64 x], .agg #[.int .i64 d', .int .i64 n', .int .i64 b', .int .i64 a', .int .i64 x']] w (RU ⟨0, 0, 0, 0, 0, 1⟩ w) := by
  go_enter Try.func21, Try.ntmps21
  go_wp2_with (first | (go_at_call 32; refine (right_any _ _ _ _ _ _ _ _ _ _ _).mono ?_; rintro e w1 ⟨rfl, hb1⟩; obtain ⟨hc1, hf1, hs1⟩ := Gr.cells hb1))
  refine bodyPost_ret (v := .tuple #[.agg #[.int .i64 0, .int .i64 0, .int .i64 0, .int .i64 0, .int .i64 0], .int .i64 1]) (by first | (simp [results, Try.results21, go_sem]; done) | (simp [results, Try.results21, go_sem, hc1]; done) | (simp [results, Try.results21, go_sem, hc1, hs1]; done)) rfl ⟨rfl, (by with_reducible (repeat (first | exact Gr.refl _ | assumption | apply Gr.alloc | apply Gr.drew | apply Gr.drewN | refine Gr.setCell ?_ (by first | (simp; done) | (simp; omega)) _ | refine Gr.trans ?_ (by assumption))))⟩

set_option maxHeartbeats 1000000 in
theorem openR_b (d n b a x d' n' b' a' x' : Int) (w : World) (hr : rightB d n b a x d' n' b' a' x' = true) (_hf : ((1 ≤ d ∧ d ≤ 48 ∧ 1 ≤ n ∧ n ≤ 65536 ∧ 1 ≤ b ∧ b ≤ 1048576 ∧ 0 ≤ a ∧ a ≤ 1024 ∧ 0 ≤ x ∧ x ≤ 65536) ∧ 0 ≤ d' ∧ d' ≤ d ∧ 0 ≤ n' ∧ n' ≤ n ∧ 0 ≤ b' ∧ b' ≤ b ∧ 0 ≤ a' ∧ a' ≤ a ∧ 0 ≤ x' ∧ x' ≤ x) ∧ 0 ≤ (0 : Int)) (ha : (d' == d) = true) :
    Calls Try.prog 21 #[.agg #[.int .i64 d, .int .i64 n, .int .i64 b, .int .i64 a, .int .i64 x], .agg #[.int .i64 d', .int .i64 n', .int .i64 b', .int .i64 a', .int .i64 x']] w (RU ⟨0, 0, 0, 0, 0, 9⟩ w) := by
  go_enter Try.func21, Try.ntmps21
  go_wp2_with (first | (go_at_call 32; refine (right_any _ _ _ _ _ _ _ _ _ _ _).mono ?_; rintro e w1 ⟨rfl, hb1⟩; obtain ⟨hc1, hf1, hs1⟩ := Gr.cells hb1))
  refine bodyPost_ret (v := .tuple #[.agg #[.int .i64 0, .int .i64 0, .int .i64 0, .int .i64 0, .int .i64 0], .int .i64 9]) (by first | (simp [results, Try.results21, go_sem]; done) | (simp [results, Try.results21, go_sem, hc1]; done) | (simp [results, Try.results21, go_sem, hc1, hs1]; done)) rfl ⟨rfl, (by with_reducible (repeat (first | exact Gr.refl _ | assumption | apply Gr.alloc | apply Gr.drew | apply Gr.drewN | refine Gr.setCell ?_ (by first | (simp; done) | (simp; omega)) _ | refine Gr.trans ?_ (by assumption))))⟩

set_option maxHeartbeats 1000000 in
theorem openR_d (d n b a x d' n' b' a' x' : Int) (w : World) (hr : rightB d n b a x d' n' b' a' x' = true) (_hf : ((1 ≤ d ∧ d ≤ 48 ∧ 1 ≤ n ∧ n ≤ 65536 ∧ 1 ≤ b ∧ b ≤ 1048576 ∧ 0 ≤ a ∧ a ≤ 1024 ∧ 0 ≤ x ∧ x ≤ 65536) ∧ 0 ≤ d' ∧ d' ≤ d ∧ 0 ≤ n' ∧ n' ≤ n ∧ 0 ≤ b' ∧ b' ≤ b ∧ 0 ≤ a' ∧ a' ≤ a ∧ 0 ≤ x' ∧ x' ≤ x) ∧ 0 ≤ (0 : Int)) (ha : (d' == d) = false) :
    Calls Try.prog 21 #[.agg #[.int .i64 d, .int .i64 n, .int .i64 b, .int .i64 a, .int .i64 x], .agg #[.int .i64 d', .int .i64 n', .int .i64 b', .int .i64 a', .int .i64 x']] w (RU ⟨d' + 1, n', b', a', x', 0⟩ w) := by
  go_enter Try.func21, Try.ntmps21
  go_wp2_with (first | (go_at_call 32; refine (right_any _ _ _ _ _ _ _ _ _ _ _).mono ?_; rintro e w1 ⟨rfl, hb1⟩; obtain ⟨hc1, hf1, hs1⟩ := Gr.cells hb1))
  refine bodyPost_ret (v := .tuple #[.agg #[.int .i64 (d' + 1), .int .i64 n', .int .i64 b', .int .i64 a', .int .i64 x'], .int .i64 0]) (by first | (simp [results, Try.results21, go_sem]; done) | (simp [results, Try.results21, go_sem, hc1]; done) | (simp [results, Try.results21, go_sem, hc1, hs1]; done)) rfl ⟨rfl, (by with_reducible (repeat (first | exact Gr.refl _ | assumption | apply Gr.alloc | apply Gr.drew | apply Gr.drewN | refine Gr.setCell ?_ (by first | (simp; done) | (simp; omega)) _ | refine Gr.trans ?_ (by assumption))))⟩

theorem openR_any (d n b a x d' n' b' a' x' : Int) (w : World) : Calls Try.prog 21 #[.agg #[.int .i64 d, .int .i64 n, .int .i64 b, .int .i64 a, .int .i64 x], .agg #[.int .i64 d', .int .i64 n', .int .i64 b', .int .i64 a', .int .i64 x']] w (RU (openF d n b a x d' n' b' a' x') w) := by
  unfold openF
  split
  · rename_i h0
    rcases not_ready h0 with h1 | ⟨h1, h2⟩
    · exact openR_a0 _ _ _ _ _ _ _ _ _ _ _ h1
    · exact absurd h2 (by omega)
  · rename_i h0
    simp only [Bool.not_eq_false] at h0
    have hf := ready_facts h0
    split
    · rename_i h1; exact openR_b _ _ _ _ _ _ _ _ _ _ _ (ready_right h0) hf (by simpa using h1)
    · rename_i h1; exact openR_d _ _ _ _ _ _ _ _ _ _ _ (ready_right h0) hf (by simpa using h1)

set_option maxHeartbeats 1000000 in
theorem closeP_a (d' n' b' a' x' : Int) (w : World) (hd : d' < 1) :
    Calls Try.prog 22 #[.agg #[.int .i64 d', .int .i64 n', .int .i64 b', .int .i64 a', .int .i64 x']] w (RU ⟨0, 0, 0, 0, 0, 29⟩ w) := by
  go_enter Try.func22, Try.ntmps22
  go_wp2
  refine bodyPost_ret (v := .tuple #[.agg #[.int .i64 0, .int .i64 0, .int .i64 0, .int .i64 0, .int .i64 0], .int .i64 29]) (by simp [results, Try.results22, go_sem]; done) rfl ⟨rfl, (by with_reducible (repeat (first | exact Gr.refl _ | assumption | apply Gr.alloc | apply Gr.drew | apply Gr.drewN | refine Gr.setCell ?_ (by first | (simp; done) | (simp; omega)) _ | refine Gr.trans ?_ (by assumption))))⟩

set_option maxHeartbeats 1000000 in
theorem closeP_b (d' n' b' a' x' : Int) (w : World) (hd : 1 ≤ d') (hm : d' ≤ 9223372036854775807) :
    Calls Try.prog 22 #[.agg #[.int .i64 d', .int .i64 n', .int .i64 b', .int .i64 a', .int .i64 x']] w (RU ⟨d' - 1, n', b', a', x', 0⟩ w) := by
  go_enter Try.func22, Try.ntmps22
  go_wp2
  refine bodyPost_ret (v := .tuple #[.agg #[.int .i64 (d' - 1), .int .i64 n', .int .i64 b', .int .i64 a', .int .i64 x'], .int .i64 0]) (by simp [results, Try.results22, go_sem]; done) rfl ⟨rfl, (by with_reducible (repeat (first | exact Gr.refl _ | assumption | apply Gr.alloc | apply Gr.drew | apply Gr.drewN | refine Gr.setCell ?_ (by first | (simp; done) | (simp; omega)) _ | refine Gr.trans ?_ (by assumption))))⟩

theorem closeP_any (d' n' b' a' x' : Int) (w : World) (hm : d' ≤ 9223372036854775807) : Calls Try.prog 22 #[.agg #[.int .i64 d', .int .i64 n', .int .i64 b', .int .i64 a', .int .i64 x']] w (RU (closeF d' n' b' a' x') w) := by
  unfold closeF
  split
  · rename_i h0; exact closeP_a _ _ _ _ _ _ h0
  · rename_i h0; exact closeP_b _ _ _ _ _ _ (by omega) hm

set_option maxHeartbeats 1000000 in
theorem closeR_a (d' n' b' a' x' : Int) (w : World) (hd : d' < 1) :
    Calls Try.prog 23 #[.agg #[.int .i64 d', .int .i64 n', .int .i64 b', .int .i64 a', .int .i64 x']] w (RU ⟨0, 0, 0, 0, 0, 29⟩ w) := by
  go_enter Try.func23, Try.ntmps23
  go_wp2
  refine bodyPost_ret (v := .tuple #[.agg #[.int .i64 0, .int .i64 0, .int .i64 0, .int .i64 0, .int .i64 0], .int .i64 29]) (by simp [results, Try.results23, go_sem]; done) rfl ⟨rfl, (by with_reducible (repeat (first | exact Gr.refl _ | assumption | apply Gr.alloc | apply Gr.drew | apply Gr.drewN | refine Gr.setCell ?_ (by first | (simp; done) | (simp; omega)) _ | refine Gr.trans ?_ (by assumption))))⟩

set_option maxHeartbeats 1000000 in
theorem closeR_b (d' n' b' a' x' : Int) (w : World) (hd : 1 ≤ d') (hm : d' ≤ 9223372036854775807) :
    Calls Try.prog 23 #[.agg #[.int .i64 d', .int .i64 n', .int .i64 b', .int .i64 a', .int .i64 x']] w (RU ⟨d' - 1, n', b', a', x', 0⟩ w) := by
  go_enter Try.func23, Try.ntmps23
  go_wp2
  refine bodyPost_ret (v := .tuple #[.agg #[.int .i64 (d' - 1), .int .i64 n', .int .i64 b', .int .i64 a', .int .i64 x'], .int .i64 0]) (by simp [results, Try.results23, go_sem]; done) rfl ⟨rfl, (by with_reducible (repeat (first | exact Gr.refl _ | assumption | apply Gr.alloc | apply Gr.drew | apply Gr.drewN | refine Gr.setCell ?_ (by first | (simp; done) | (simp; omega)) _ | refine Gr.trans ?_ (by assumption))))⟩

theorem closeR_any (d' n' b' a' x' : Int) (w : World) (hm : d' ≤ 9223372036854775807) : Calls Try.prog 23 #[.agg #[.int .i64 d', .int .i64 n', .int .i64 b', .int .i64 a', .int .i64 x']] w (RU (closeF d' n' b' a' x') w) := by
  unfold closeF
  split
  · rename_i h0; exact closeR_a _ _ _ _ _ _ h0
  · rename_i h0; exact closeR_b _ _ _ _ _ _ (by omega) hm

end Go.Proofs.Ytlfhiolngpoamaa
