/- The contracts of the functions of limit and of its reference that add to a usage: each returns what one plain function says. -/
import Derived.Test.YtbfnmgiccbdglaaLimBase
namespace Go.Proofs.Ytbfnmgiccbdglaa
open Go.RowKit

/-- a usage and a code -/
structure Res where
  (d n b a x c : Int)
def RU (r : Res) (w : World) (e : Ending) (w' : World) : Prop :=
  e = .returned (.tuple #[.agg #[.int .i64 r.d, .int .i64 r.n, .int .i64 r.b, .int .i64 r.a, .int .i64 r.x], .int .i64 r.c]) ∧ Gr w w'
def aliasF (d n b a x d' n' b' a' x' k : Int) : Res :=
  if readyB d n b a x d' n' b' a' x' k = false then ⟨0, 0, 0, 0, 0, 1⟩
  else if a' = a then ⟨0, 0, 0, 0, 0, 11⟩ else if x - x' < k then ⟨0, 0, 0, 0, 0, 12⟩ else ⟨d', n', b', a' + 1, x' + k, 0⟩
def nodeF (d n b a x d' n' b' a' x' k : Int) : Res :=
  if readyB d n b a x d' n' b' a' x' k = false then ⟨0, 0, 0, 0, 0, 1⟩
  else if n - n' < k then ⟨0, 0, 0, 0, 0, 10⟩ else ⟨d', n' + k, b', a', x', 0⟩
def bytesF (d n b a x d' n' b' a' x' k : Int) : Res :=
  if readyB d n b a x d' n' b' a' x' k = false then ⟨0, 0, 0, 0, 0, 1⟩
  else if b - b' < k then ⟨0, 0, 0, 0, 0, 10⟩ else ⟨d', n', b' + k, a', x', 0⟩
def openF (d n b a x d' n' b' a' x' : Int) : Res :=
  if readyB d n b a x d' n' b' a' x' 0 = false then ⟨0, 0, 0, 0, 0, 1⟩
  else if d' = d then ⟨0, 0, 0, 0, 0, 9⟩ else ⟨d' + 1, n', b', a', x', 0⟩
def closeF (d' n' b' a' x' : Int) : Res := if d' < 1 then ⟨0, 0, 0, 0, 0, 29⟩ else ⟨d' - 1, n', b', a', x', 0⟩
theorem ready_facts {d n b a x d' n' b' a' x' k : Int} (h : readyB d n b a x d' n' b' a' x' k = true) :
    ((1 ≤ d ∧ d ≤ 48 ∧ 1 ≤ n ∧ n ≤ 65536 ∧ 1 ≤ b ∧ b ≤ 1048576 ∧ 0 ≤ a ∧ a ≤ 1024 ∧ 0 ≤ x ∧ x ≤ 65536) ∧ 0 ≤ d' ∧ d' ≤ d ∧ 0 ≤ n' ∧ n' ≤ n ∧ 0 ≤ b' ∧ b' ≤ b ∧ 0 ≤ a' ∧ a' ≤ a ∧ 0 ≤ x' ∧ x' ≤ x) ∧ 0 ≤ k := by
  simpa only [readyB, validB, withinB, Bool.and_eq_true, decide_eq_true_eq] using h
theorem ready_right {d n b a x d' n' b' a' x' k : Int} (h : readyB d n b a x d' n' b' a' x' k = true) : rightB d n b a x d' n' b' a' x' = true := by
  unfold readyB at h; unfold rightB; simp only [Bool.and_eq_true] at h ⊢; exact h.1
theorem lim_not_ready {d n b a x d' n' b' a' x' k : Int} (h : readyB d n b a x d' n' b' a' x' k = false) : rightB d n b a x d' n' b' a' x' = false ∨ (rightB d n b a x d' n' b' a' x' = true ∧ k < 0) := by
  unfold readyB at h; unfold rightB
  by_cases hx : (validB d n b a x && withinB d n b a x d' n' b' a' x') = true
  · right; refine ⟨hx, ?_⟩; rw [hx] at h; simpa using h
  · left; simpa using hx

set_option maxHeartbeats 1000000 in
theorem aliasP_a0 (d n b a x d' n' b' a' x' k : Int) (w : World) (hr : readyB d n b a x d' n' b' a' x' k = false) :
    Calls Try.prog 55 #[.agg #[.int .i64 d, .int .i64 n, .int .i64 b, .int .i64 a, .int .i64 x], .agg #[.int .i64 d', .int .i64 n', .int .i64 b', .int .i64 a', .int .i64 x'], .int .i64 k] w (RU ⟨0, 0, 0, 0, 0, 1⟩ w) := by
  go_enter Try.func55, Try.ntmps55
  go_wp2_with (first | (go_at_call 61; refine (ready_any _ _ _ _ _ _ _ _ _ _ _ _).mono ?_; rintro e w1 ⟨rfl, hb1⟩; obtain ⟨hc1, hf1, hs1⟩ := Gr.cells hb1))
  refine bodyPost_ret (v := .tuple #[.agg #[.int .i64 0, .int .i64 0, .int .i64 0, .int .i64 0, .int .i64 0], .int .i64 1]) (by first | (simp [results, Try.results55, go_sem]; done) | (simp [results, Try.results55, go_sem, hc1]; done) | (simp [results, Try.results55, go_sem, hc1, hs1]; done)) rfl ⟨rfl, (by with_reducible (repeat (first | exact Gr.refl _ | assumption | apply Gr.alloc | apply Gr.drew | apply Gr.drewN | refine Gr.setCell ?_ (by first | (simp; done) | (simp; omega)) _ | refine Gr.trans ?_ (by assumption))))⟩

set_option maxHeartbeats 1000000 in
theorem aliasP_b (d n b a x d' n' b' a' x' k : Int) (w : World) (hr : readyB d n b a x d' n' b' a' x' k = true) (_hf : ((1 ≤ d ∧ d ≤ 48 ∧ 1 ≤ n ∧ n ≤ 65536 ∧ 1 ≤ b ∧ b ≤ 1048576 ∧ 0 ≤ a ∧ a ≤ 1024 ∧ 0 ≤ x ∧ x ≤ 65536) ∧ 0 ≤ d' ∧ d' ≤ d ∧ 0 ≤ n' ∧ n' ≤ n ∧ 0 ≤ b' ∧ b' ≤ b ∧ 0 ≤ a' ∧ a' ≤ a ∧ 0 ≤ x' ∧ x' ≤ x) ∧ 0 ≤ k) (ha : (a' == a) = true) :
    Calls Try.prog 55 #[.agg #[.int .i64 d, .int .i64 n, .int .i64 b, .int .i64 a, .int .i64 x], .agg #[.int .i64 d', .int .i64 n', .int .i64 b', .int .i64 a', .int .i64 x'], .int .i64 k] w (RU ⟨0, 0, 0, 0, 0, 11⟩ w) := by
  go_enter Try.func55, Try.ntmps55
  go_wp2_with (first | (go_at_call 61; refine (ready_any _ _ _ _ _ _ _ _ _ _ _ _).mono ?_; rintro e w1 ⟨rfl, hb1⟩; obtain ⟨hc1, hf1, hs1⟩ := Gr.cells hb1))
  refine bodyPost_ret (v := .tuple #[.agg #[.int .i64 0, .int .i64 0, .int .i64 0, .int .i64 0, .int .i64 0], .int .i64 11]) (by first | (simp [results, Try.results55, go_sem]; done) | (simp [results, Try.results55, go_sem, hc1]; done) | (simp [results, Try.results55, go_sem, hc1, hs1]; done)) rfl ⟨rfl, (by with_reducible (repeat (first | exact Gr.refl _ | assumption | apply Gr.alloc | apply Gr.drew | apply Gr.drewN | refine Gr.setCell ?_ (by first | (simp; done) | (simp; omega)) _ | refine Gr.trans ?_ (by assumption))))⟩

set_option maxHeartbeats 1000000 in
theorem aliasP_c (d n b a x d' n' b' a' x' k : Int) (w : World) (hr : readyB d n b a x d' n' b' a' x' k = true) (_hf : ((1 ≤ d ∧ d ≤ 48 ∧ 1 ≤ n ∧ n ≤ 65536 ∧ 1 ≤ b ∧ b ≤ 1048576 ∧ 0 ≤ a ∧ a ≤ 1024 ∧ 0 ≤ x ∧ x ≤ 65536) ∧ 0 ≤ d' ∧ d' ≤ d ∧ 0 ≤ n' ∧ n' ≤ n ∧ 0 ≤ b' ∧ b' ≤ b ∧ 0 ≤ a' ∧ a' ≤ a ∧ 0 ≤ x' ∧ x' ≤ x) ∧ 0 ≤ k) (ha : (a' == a) = false) (hx : x - x' < k) :
    Calls Try.prog 55 #[.agg #[.int .i64 d, .int .i64 n, .int .i64 b, .int .i64 a, .int .i64 x], .agg #[.int .i64 d', .int .i64 n', .int .i64 b', .int .i64 a', .int .i64 x'], .int .i64 k] w (RU ⟨0, 0, 0, 0, 0, 12⟩ w) := by
  go_enter Try.func55, Try.ntmps55
  go_wp2_with (first | (go_at_call 61; refine (ready_any _ _ _ _ _ _ _ _ _ _ _ _).mono ?_; rintro e w1 ⟨rfl, hb1⟩; obtain ⟨hc1, hf1, hs1⟩ := Gr.cells hb1))
  refine bodyPost_ret (v := .tuple #[.agg #[.int .i64 0, .int .i64 0, .int .i64 0, .int .i64 0, .int .i64 0], .int .i64 12]) (by first | (simp [results, Try.results55, go_sem]; done) | (simp [results, Try.results55, go_sem, hc1]; done) | (simp [results, Try.results55, go_sem, hc1, hs1]; done)) rfl ⟨rfl, (by with_reducible (repeat (first | exact Gr.refl _ | assumption | apply Gr.alloc | apply Gr.drew | apply Gr.drewN | refine Gr.setCell ?_ (by first | (simp; done) | (simp; omega)) _ | refine Gr.trans ?_ (by assumption))))⟩

set_option maxHeartbeats 1000000 in
theorem aliasP_d (d n b a x d' n' b' a' x' k : Int) (w : World) (hr : readyB d n b a x d' n' b' a' x' k = true) (_hf : ((1 ≤ d ∧ d ≤ 48 ∧ 1 ≤ n ∧ n ≤ 65536 ∧ 1 ≤ b ∧ b ≤ 1048576 ∧ 0 ≤ a ∧ a ≤ 1024 ∧ 0 ≤ x ∧ x ≤ 65536) ∧ 0 ≤ d' ∧ d' ≤ d ∧ 0 ≤ n' ∧ n' ≤ n ∧ 0 ≤ b' ∧ b' ≤ b ∧ 0 ≤ a' ∧ a' ≤ a ∧ 0 ≤ x' ∧ x' ≤ x) ∧ 0 ≤ k) (ha : (a' == a) = false) (hx : ¬ x - x' < k) :
    Calls Try.prog 55 #[.agg #[.int .i64 d, .int .i64 n, .int .i64 b, .int .i64 a, .int .i64 x], .agg #[.int .i64 d', .int .i64 n', .int .i64 b', .int .i64 a', .int .i64 x'], .int .i64 k] w (RU ⟨d', n', b', a' + 1, x' + k, 0⟩ w) := by
  go_enter Try.func55, Try.ntmps55
  go_wp2_with (first | (go_at_call 61; refine (ready_any _ _ _ _ _ _ _ _ _ _ _ _).mono ?_; rintro e w1 ⟨rfl, hb1⟩; obtain ⟨hc1, hf1, hs1⟩ := Gr.cells hb1))
  refine bodyPost_ret (v := .tuple #[.agg #[.int .i64 d', .int .i64 n', .int .i64 b', .int .i64 (a' + 1), .int .i64 (x' + k)], .int .i64 0]) (by first | (simp [results, Try.results55, go_sem]; done) | (simp [results, Try.results55, go_sem, hc1]; done) | (simp [results, Try.results55, go_sem, hc1, hs1]; done)) rfl ⟨rfl, (by with_reducible (repeat (first | exact Gr.refl _ | assumption | apply Gr.alloc | apply Gr.drew | apply Gr.drewN | refine Gr.setCell ?_ (by first | (simp; done) | (simp; omega)) _ | refine Gr.trans ?_ (by assumption))))⟩

theorem aliasP_any (d n b a x d' n' b' a' x' k : Int) (w : World) : Calls Try.prog 55 #[.agg #[.int .i64 d, .int .i64 n, .int .i64 b, .int .i64 a, .int .i64 x], .agg #[.int .i64 d', .int .i64 n', .int .i64 b', .int .i64 a', .int .i64 x'], .int .i64 k] w (RU (aliasF d n b a x d' n' b' a' x' k) w) := by
  unfold aliasF
  split
  · rename_i h0
    exact aliasP_a0 _ _ _ _ _ _ _ _ _ _ _ _ h0
  · rename_i h0
    simp only [Bool.not_eq_false] at h0
    have hf := ready_facts h0
    split
    · rename_i h1; exact aliasP_b _ _ _ _ _ _ _ _ _ _ _ _ h0 hf (by simpa using h1)
    · rename_i h1
      split
      · rename_i h2; exact aliasP_c _ _ _ _ _ _ _ _ _ _ _ _ h0 hf (by simpa using h1) h2
      · rename_i h2; exact aliasP_d _ _ _ _ _ _ _ _ _ _ _ _ h0 hf (by simpa using h1) h2

set_option maxHeartbeats 1000000 in
theorem aliasR_a0 (d n b a x d' n' b' a' x' k : Int) (w : World) (hr : rightB d n b a x d' n' b' a' x' = false) :
    Calls Try.prog 57 #[.agg #[.int .i64 d, .int .i64 n, .int .i64 b, .int .i64 a, .int .i64 x], .agg #[.int .i64 d', .int .i64 n', .int .i64 b', .int .i64 a', .int .i64 x'], .int .i64 k] w (RU ⟨0, 0, 0, 0, 0, 1⟩ w) := by
  go_enter Try.func57, Try.ntmps57
  go_wp2_with (first | (go_at_call 62; refine (right_any _ _ _ _ _ _ _ _ _ _ _).mono ?_; rintro e w1 ⟨rfl, hb1⟩; obtain ⟨hc1, hf1, hs1⟩ := Gr.cells hb1))
  refine bodyPost_ret (v := .tuple #[.agg #[.int .i64 0, .int .i64 0, .int .i64 0, .int .i64 0, .int .i64 0], .int .i64 1]) (by first | (simp [results, Try.results57, go_sem]; done) | (simp [results, Try.results57, go_sem, hc1]; done) | (simp [results, Try.results57, go_sem, hc1, hs1]; done)) rfl ⟨rfl, (by with_reducible (repeat (first | exact Gr.refl _ | assumption | apply Gr.alloc | apply Gr.drew | apply Gr.drewN | refine Gr.setCell ?_ (by first | (simp; done) | (simp; omega)) _ | refine Gr.trans ?_ (by assumption))))⟩

set_option maxHeartbeats 1000000 in
theorem aliasR_a1 (d n b a x d' n' b' a' x' k : Int) (w : World) (hr : rightB d n b a x d' n' b' a' x' = true) (hk : k < 0) :
    Calls Try.prog 57 #[.agg #[.int .i64 d, .int .i64 n, .int .i64 b, .int .i64 a, .int .i64 x], .agg #[.int .i64 d', .int .i64 n', .int .i64 b', .int .i64 a', .int .i64 x'], .int .i64 k] w (RU ⟨0, 0, 0, 0, 0, 1⟩ w) := by
  go_enter Try.func57, Try.ntmps57
  go_wp2_with (first | (go_at_call 62; refine (right_any _ _ _ _ _ _ _ _ _ _ _).mono ?_; rintro e w1 ⟨rfl, hb1⟩; obtain ⟨hc1, hf1, hs1⟩ := Gr.cells hb1))
  refine bodyPost_ret (v := .tuple #[.agg #[.int .i64 0, .int .i64 0, .int .i64 0, .int .i64 0, .int .i64 0], .int .i64 1]) (by first | (simp [results, Try.results57, go_sem]; done) | (simp [results, Try.results57, go_sem, hc1]; done) | (simp [results, Try.results57, go_sem, hc1, hs1]; done)) rfl ⟨rfl, (by with_reducible (repeat (first | exact Gr.refl _ | assumption | apply Gr.alloc | apply Gr.drew | apply Gr.drewN | refine Gr.setCell ?_ (by first | (simp; done) | (simp; omega)) _ | refine Gr.trans ?_ (by assumption))))⟩

set_option maxHeartbeats 1000000 in
theorem aliasR_b (d n b a x d' n' b' a' x' k : Int) (w : World) (hr : rightB d n b a x d' n' b' a' x' = true) (_hf : ((1 ≤ d ∧ d ≤ 48 ∧ 1 ≤ n ∧ n ≤ 65536 ∧ 1 ≤ b ∧ b ≤ 1048576 ∧ 0 ≤ a ∧ a ≤ 1024 ∧ 0 ≤ x ∧ x ≤ 65536) ∧ 0 ≤ d' ∧ d' ≤ d ∧ 0 ≤ n' ∧ n' ≤ n ∧ 0 ≤ b' ∧ b' ≤ b ∧ 0 ≤ a' ∧ a' ≤ a ∧ 0 ≤ x' ∧ x' ≤ x) ∧ 0 ≤ k) (ha : (a' == a) = true) :
    Calls Try.prog 57 #[.agg #[.int .i64 d, .int .i64 n, .int .i64 b, .int .i64 a, .int .i64 x], .agg #[.int .i64 d', .int .i64 n', .int .i64 b', .int .i64 a', .int .i64 x'], .int .i64 k] w (RU ⟨0, 0, 0, 0, 0, 11⟩ w) := by
  go_enter Try.func57, Try.ntmps57
  go_wp2_with (first | (go_at_call 62; refine (right_any _ _ _ _ _ _ _ _ _ _ _).mono ?_; rintro e w1 ⟨rfl, hb1⟩; obtain ⟨hc1, hf1, hs1⟩ := Gr.cells hb1))
  refine bodyPost_ret (v := .tuple #[.agg #[.int .i64 0, .int .i64 0, .int .i64 0, .int .i64 0, .int .i64 0], .int .i64 11]) (by first | (simp [results, Try.results57, go_sem]; done) | (simp [results, Try.results57, go_sem, hc1]; done) | (simp [results, Try.results57, go_sem, hc1, hs1]; done)) rfl ⟨rfl, (by with_reducible (repeat (first | exact Gr.refl _ | assumption | apply Gr.alloc | apply Gr.drew | apply Gr.drewN | refine Gr.setCell ?_ (by first | (simp; done) | (simp; omega)) _ | refine Gr.trans ?_ (by assumption))))⟩

set_option maxHeartbeats 1000000 in
theorem aliasR_c (d n b a x d' n' b' a' x' k : Int) (w : World) (hr : rightB d n b a x d' n' b' a' x' = true) (_hf : ((1 ≤ d ∧ d ≤ 48 ∧ 1 ≤ n ∧ n ≤ 65536 ∧ 1 ≤ b ∧ b ≤ 1048576 ∧ 0 ≤ a ∧ a ≤ 1024 ∧ 0 ≤ x ∧ x ≤ 65536) ∧ 0 ≤ d' ∧ d' ≤ d ∧ 0 ≤ n' ∧ n' ≤ n ∧ 0 ≤ b' ∧ b' ≤ b ∧ 0 ≤ a' ∧ a' ≤ a ∧ 0 ≤ x' ∧ x' ≤ x) ∧ 0 ≤ k) (ha : (a' == a) = false) (hx : x - x' < k) :
    Calls Try.prog 57 #[.agg #[.int .i64 d, .int .i64 n, .int .i64 b, .int .i64 a, .int .i64 x], .agg #[.int .i64 d', .int .i64 n', .int .i64 b', .int .i64 a', .int .i64 x'], .int .i64 k] w (RU ⟨0, 0, 0, 0, 0, 12⟩ w) := by
  go_enter Try.func57, Try.ntmps57
  go_wp2_with (first | (go_at_call 62; refine (right_any _ _ _ _ _ _ _ _ _ _ _).mono ?_; rintro e w1 ⟨rfl, hb1⟩; obtain ⟨hc1, hf1, hs1⟩ := Gr.cells hb1))
  refine bodyPost_ret (v := .tuple #[.agg #[.int .i64 0, .int .i64 0, .int .i64 0, .int .i64 0, .int .i64 0], .int .i64 12]) (by first | (simp [results, Try.results57, go_sem]; done) | (simp [results, Try.results57, go_sem, hc1]; done) | (simp [results, Try.results57, go_sem, hc1, hs1]; done)) rfl ⟨rfl, (by with_reducible (repeat (first | exact Gr.refl _ | assumption | apply Gr.alloc | apply Gr.drew | apply Gr.drewN | refine Gr.setCell ?_ (by first | (simp; done) | (simp; omega)) _ | refine Gr.trans ?_ (by assumption))))⟩

set_option maxHeartbeats 1000000 in
theorem aliasR_d (d n b a x d' n' b' a' x' k : Int) (w : World) (hr : rightB d n b a x d' n' b' a' x' = true) (_hf : ((1 ≤ d ∧ d ≤ 48 ∧ 1 ≤ n ∧ n ≤ 65536 ∧ 1 ≤ b ∧ b ≤ 1048576 ∧ 0 ≤ a ∧ a ≤ 1024 ∧ 0 ≤ x ∧ x ≤ 65536) ∧ 0 ≤ d' ∧ d' ≤ d ∧ 0 ≤ n' ∧ n' ≤ n ∧ 0 ≤ b' ∧ b' ≤ b ∧ 0 ≤ a' ∧ a' ≤ a ∧ 0 ≤ x' ∧ x' ≤ x) ∧ 0 ≤ k) (ha : (a' == a) = false) (hx : ¬ x - x' < k) :
    Calls Try.prog 57 #[.agg #[.int .i64 d, .int .i64 n, .int .i64 b, .int .i64 a, .int .i64 x], .agg #[.int .i64 d', .int .i64 n', .int .i64 b', .int .i64 a', .int .i64 x'], .int .i64 k] w (RU ⟨d', n', b', a' + 1, x' + k, 0⟩ w) := by
  go_enter Try.func57, Try.ntmps57
  go_wp2_with (first | (go_at_call 62; refine (right_any _ _ _ _ _ _ _ _ _ _ _).mono ?_; rintro e w1 ⟨rfl, hb1⟩; obtain ⟨hc1, hf1, hs1⟩ := Gr.cells hb1))
  refine bodyPost_ret (v := .tuple #[.agg #[.int .i64 d', .int .i64 n', .int .i64 b', .int .i64 (a' + 1), .int .i64 (x' + k)], .int .i64 0]) (by first | (simp [results, Try.results57, go_sem]; done) | (simp [results, Try.results57, go_sem, hc1]; done) | (simp [results, Try.results57, go_sem, hc1, hs1]; done)) rfl ⟨rfl, (by with_reducible (repeat (first | exact Gr.refl _ | assumption | apply Gr.alloc | apply Gr.drew | apply Gr.drewN | refine Gr.setCell ?_ (by first | (simp; done) | (simp; omega)) _ | refine Gr.trans ?_ (by assumption))))⟩

theorem aliasR_any (d n b a x d' n' b' a' x' k : Int) (w : World) : Calls Try.prog 57 #[.agg #[.int .i64 d, .int .i64 n, .int .i64 b, .int .i64 a, .int .i64 x], .agg #[.int .i64 d', .int .i64 n', .int .i64 b', .int .i64 a', .int .i64 x'], .int .i64 k] w (RU (aliasF d n b a x d' n' b' a' x' k) w) := by
  unfold aliasF
  split
  · rename_i h0
    rcases lim_not_ready h0 with h1 | ⟨h1, h2⟩
    · exact aliasR_a0 _ _ _ _ _ _ _ _ _ _ _ _ h1
    · exact aliasR_a1 _ _ _ _ _ _ _ _ _ _ _ _ h1 h2
  · rename_i h0
    simp only [Bool.not_eq_false] at h0
    have hf := ready_facts h0
    split
    · rename_i h1; exact aliasR_b _ _ _ _ _ _ _ _ _ _ _ _ (ready_right h0) hf (by simpa using h1)
    · rename_i h1
      split
      · rename_i h2; exact aliasR_c _ _ _ _ _ _ _ _ _ _ _ _ (ready_right h0) hf (by simpa using h1) h2
      · rename_i h2; exact aliasR_d _ _ _ _ _ _ _ _ _ _ _ _ (ready_right h0) hf (by simpa using h1) h2
end Go.Proofs.Ytbfnmgiccbdglaa
