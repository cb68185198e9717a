/- LimitKeeps: a part of the ways through it, one theorem a way. -/
import Derived.Test.YtlfhiolngpoamaaLimAwake
namespace Go.Proofs.Ytlfhiolngpoamaa
open Go.ChangeShapes Go.WideShapes Go.ChangeAt Go.RowKit

set_option maxRecDepth 100000 in
set_option maxHeartbeats 4000000 in
theorem keeps_0100 (d n b a x d' n' b' a' x' k : Int) (w : World) (hv : validB d n b a x = true) (hw : withinB d n b a x d' n' b' a' x' = true) (hr : readyB d n b a x d' n' b' a' x' k = true) (hr0 : readyB d n b a x d' n' b' a' x' 0 = true) (hf : ((1 ≤ d ∧ d ≤ 48 ∧ 1 ≤ n ∧ n ≤ 65536 ∧ 1 ≤ b ∧ b ≤ 1048576 ∧ 0 ≤ a ∧ a ≤ 1024 ∧ 0 ≤ x ∧ x ≤ 65536) ∧ 0 ≤ d' ∧ d' ≤ d ∧ 0 ≤ n' ∧ n' ≤ n ∧ 0 ≤ b' ∧ b' ≤ b ∧ 0 ≤ a' ∧ a' ≤ a ∧ 0 ≤ x' ∧ x' ≤ x) ∧ 0 ≤ k) (ho : (d' == d) = true) (hn : ¬ n - n' < k) (hwn : withinB d n b a x d' (n' + k) b' a' x' = true) (hb : b - b' < k) (ha : (a' == a) = true) :
    Calls Try.prog 8 #[.agg #[.int .i64 d, .int .i64 n, .int .i64 b, .int .i64 a, .int .i64 x], .agg #[.int .i64 d', .int .i64 n', .int .i64 b', .int .i64 a', .int .i64 x'], .int .i64 k] w (RB true w) := by
  have hf0 : ((1 ≤ d ∧ d ≤ 48 ∧ 1 ≤ n ∧ n ≤ 65536 ∧ 1 ≤ b ∧ b ≤ 1048576 ∧ 0 ≤ a ∧ a ≤ 1024 ∧ 0 ≤ x ∧ x ≤ 65536) ∧ 0 ≤ d' ∧ d' ≤ d ∧ 0 ≤ n' ∧ n' ≤ n ∧ 0 ≤ b' ∧ b' ≤ b ∧ 0 ≤ a' ∧ a' ≤ a ∧ 0 ≤ x' ∧ x' ≤ x) ∧ 0 ≤ (0 : Int) := ⟨hf.1, by omega⟩
  have Hf0 := Lib.hid hf0
  clear hf0
  go_enter Try.func8, Try.ntmps8
  go_wp2_with fail
  refine (validP_any _ _ _ _ _ _).mono ?_
  rintro e w1 ⟨rfl, hb1⟩
  obtain ⟨hc1, hf1, hs1⟩ := Gr.cells hb1
  try simp at hs1
  have l1_0 : w.heap.size < w1.heap.size := by omega
  have l1_1 : w.heap.size + 1 < w1.heap.size := by omega
  go_wp2_with fail
  refine (withinP_any _ _ _ _ _ _ _ _ _ _ _).mono ?_
  rintro e w2 ⟨rfl, hb2⟩
  obtain ⟨hc2, hf2, hs2⟩ := Gr.cells hb2
  try simp at hs2
  have l2_0 : w.heap.size < w2.heap.size := by omega
  have l2_1 : w.heap.size + 1 < w2.heap.size := by omega
  go_wp2_with fail
  refine (openP_b d n b a x d' n' b' a' x' _ hr0 Hf0.out ho).mono ?_
  rintro e w3 ⟨rfl, hb3⟩
  obtain ⟨hc3, hf3, hs3⟩ := Gr.cells hb3
  try simp at hs3
  have l3_0 : w.heap.size < w3.heap.size := by omega
  have l3_1 : w.heap.size + 1 < w3.heap.size := by omega
  go_wp2_with fail
  refine (nodeP_d d n b a x d' n' b' a' x' k _ hr hf (by omega)).mono ?_
  rintro e w4 ⟨rfl, hb4⟩
  obtain ⟨hc4, hf4, hs4⟩ := Gr.cells hb4
  try simp at hs4
  have l4_0 : w.heap.size < w4.heap.size := by omega
  have l4_1 : w.heap.size + 1 < w4.heap.size := by omega
  have l4_2 : w3.heap.size < w4.heap.size := by omega
  go_wp2_with fail
  refine (bytesP_c d n b a x d' n' b' a' x' k _ hr hf hb).mono ?_
  rintro e w5 ⟨rfl, hb5⟩
  obtain ⟨hc5, hf5, hs5⟩ := Gr.cells hb5
  try simp at hs5
  have l5_0 : w.heap.size < w5.heap.size := by omega
  have l5_1 : w.heap.size + 1 < w5.heap.size := by omega
  have l5_2 : w3.heap.size < w5.heap.size := by omega
  have l5_3 : w4.heap.size < w5.heap.size := by omega
  go_wp2_with fail
  refine (aliasP_b d n b a x d' n' b' a' x' k _ hr hf ha).mono ?_
  rintro e w6 ⟨rfl, hb6⟩
  obtain ⟨hc6, hf6, hs6⟩ := Gr.cells hb6
  try simp at hs6
  have l6_0 : w.heap.size < w6.heap.size := by omega
  have l6_1 : w.heap.size + 1 < w6.heap.size := by omega
  have l6_2 : w3.heap.size < w6.heap.size := by omega
  have l6_3 : w4.heap.size < w6.heap.size := by omega
  have l6_4 : w5.heap.size < w6.heap.size := by omega
  go_wp2_with fail
  refine (withinP_any _ _ _ _ _ _ _ _ _ _ _).mono ?_
  rintro e w7 ⟨rfl, hb7⟩
  obtain ⟨hc7, hf7, hs7⟩ := Gr.cells hb7
  try simp at hs7
  have l7_0 : w.heap.size < w7.heap.size := by omega
  have l7_1 : w.heap.size + 1 < w7.heap.size := by omega
  have l7_2 : w3.heap.size < w7.heap.size := by omega
  have l7_3 : w4.heap.size < w7.heap.size := by omega
  have l7_4 : w5.heap.size < w7.heap.size := by omega
  have l7_5 : w6.heap.size < w7.heap.size := by omega
  go_wp2_with fail
  refine (awake_any _).mono ?_
  rintro e w8 ⟨rfl, hb8⟩
  obtain ⟨hc8, hf8, hs8⟩ := Gr.cells hb8
  try simp at hs8
  have l8_0 : w.heap.size < w8.heap.size := by omega
  have l8_1 : w.heap.size + 1 < w8.heap.size := by omega
  have l8_2 : w3.heap.size < w8.heap.size := by omega
  have l8_3 : w4.heap.size < w8.heap.size := by omega
  have l8_4 : w5.heap.size < w8.heap.size := by omega
  have l8_5 : w6.heap.size < w8.heap.size := by omega
  go_wp2_with fail
  go_ret
  exact ⟨rfl, (by with_reducible (repeat (first | exact Gr.refl _ | assumption | apply Gr.alloc | apply Gr.drew | apply Gr.drewN | refine Gr.setCell ?_ (by first | (simp; done) | (simp; omega)) _ | refine Gr.trans ?_ (by assumption))))⟩

set_option maxRecDepth 100000 in
set_option maxHeartbeats 4000000 in
theorem keeps_0101 (d n b a x d' n' b' a' x' k : Int) (w : World) (hv : validB d n b a x = true) (hw : withinB d n b a x d' n' b' a' x' = true) (hr : readyB d n b a x d' n' b' a' x' k = true) (hr0 : readyB d n b a x d' n' b' a' x' 0 = true) (hf : ((1 ≤ d ∧ d ≤ 48 ∧ 1 ≤ n ∧ n ≤ 65536 ∧ 1 ≤ b ∧ b ≤ 1048576 ∧ 0 ≤ a ∧ a ≤ 1024 ∧ 0 ≤ x ∧ x ≤ 65536) ∧ 0 ≤ d' ∧ d' ≤ d ∧ 0 ≤ n' ∧ n' ≤ n ∧ 0 ≤ b' ∧ b' ≤ b ∧ 0 ≤ a' ∧ a' ≤ a ∧ 0 ≤ x' ∧ x' ≤ x) ∧ 0 ≤ k) (ho : (d' == d) = true) (hn : ¬ n - n' < k) (hwn : withinB d n b a x d' (n' + k) b' a' x' = true) (hb : b - b' < k) (ha : (a' == a) = false) (hla : a' < a) (hx : x - x' < k) :
    Calls Try.prog 8 #[.agg #[.int .i64 d, .int .i64 n, .int .i64 b, .int .i64 a, .int .i64 x], .agg #[.int .i64 d', .int .i64 n', .int .i64 b', .int .i64 a', .int .i64 x'], .int .i64 k] w (RB true w) := by
  have hf0 : ((1 ≤ d ∧ d ≤ 48 ∧ 1 ≤ n ∧ n ≤ 65536 ∧ 1 ≤ b ∧ b ≤ 1048576 ∧ 0 ≤ a ∧ a ≤ 1024 ∧ 0 ≤ x ∧ x ≤ 65536) ∧ 0 ≤ d' ∧ d' ≤ d ∧ 0 ≤ n' ∧ n' ≤ n ∧ 0 ≤ b' ∧ b' ≤ b ∧ 0 ≤ a' ∧ a' ≤ a ∧ 0 ≤ x' ∧ x' ≤ x) ∧ 0 ≤ (0 : Int) := ⟨hf.1, by omega⟩
  have Hf0 := Lib.hid hf0
  clear hf0
  go_enter Try.func8, Try.ntmps8
  go_wp2_with fail
  refine (validP_any _ _ _ _ _ _).mono ?_
  rintro e w1 ⟨rfl, hb1⟩
  obtain ⟨hc1, hf1, hs1⟩ := Gr.cells hb1
  try simp at hs1
  have l1_0 : w.heap.size < w1.heap.size := by omega
  have l1_1 : w.heap.size + 1 < w1.heap.size := by omega
  go_wp2_with fail
  refine (withinP_any _ _ _ _ _ _ _ _ _ _ _).mono ?_
  rintro e w2 ⟨rfl, hb2⟩
  obtain ⟨hc2, hf2, hs2⟩ := Gr.cells hb2
  try simp at hs2
  have l2_0 : w.heap.size < w2.heap.size := by omega
  have l2_1 : w.heap.size + 1 < w2.heap.size := by omega
  go_wp2_with fail
  refine (openP_b d n b a x d' n' b' a' x' _ hr0 Hf0.out ho).mono ?_
  rintro e w3 ⟨rfl, hb3⟩
  obtain ⟨hc3, hf3, hs3⟩ := Gr.cells hb3
  try simp at hs3
  have l3_0 : w.heap.size < w3.heap.size := by omega
  have l3_1 : w.heap.size + 1 < w3.heap.size := by omega
  go_wp2_with fail
  refine (nodeP_d d n b a x d' n' b' a' x' k _ hr hf (by omega)).mono ?_
  rintro e w4 ⟨rfl, hb4⟩
  obtain ⟨hc4, hf4, hs4⟩ := Gr.cells hb4
  try simp at hs4
  have l4_0 : w.heap.size < w4.heap.size := by omega
  have l4_1 : w.heap.size + 1 < w4.heap.size := by omega
  have l4_2 : w3.heap.size < w4.heap.size := by omega
  go_wp2_with fail
  refine (bytesP_c d n b a x d' n' b' a' x' k _ hr hf hb).mono ?_
  rintro e w5 ⟨rfl, hb5⟩
  obtain ⟨hc5, hf5, hs5⟩ := Gr.cells hb5
  try simp at hs5
  have l5_0 : w.heap.size < w5.heap.size := by omega
  have l5_1 : w.heap.size + 1 < w5.heap.size := by omega
  have l5_2 : w3.heap.size < w5.heap.size := by omega
  have l5_3 : w4.heap.size < w5.heap.size := by omega
  go_wp2_with fail
  refine (aliasP_c d n b a x d' n' b' a' x' k _ hr hf ha hx).mono ?_
  rintro e w6 ⟨rfl, hb6⟩
  obtain ⟨hc6, hf6, hs6⟩ := Gr.cells hb6
  try simp at hs6
  have l6_0 : w.heap.size < w6.heap.size := by omega
  have l6_1 : w.heap.size + 1 < w6.heap.size := by omega
  have l6_2 : w3.heap.size < w6.heap.size := by omega
  have l6_3 : w4.heap.size < w6.heap.size := by omega
  have l6_4 : w5.heap.size < w6.heap.size := by omega
  go_wp2_with fail
  refine (withinP_any _ _ _ _ _ _ _ _ _ _ _).mono ?_
  rintro e w7 ⟨rfl, hb7⟩
  obtain ⟨hc7, hf7, hs7⟩ := Gr.cells hb7
  try simp at hs7
  have l7_0 : w.heap.size < w7.heap.size := by omega
  have l7_1 : w.heap.size + 1 < w7.heap.size := by omega
  have l7_2 : w3.heap.size < w7.heap.size := by omega
  have l7_3 : w4.heap.size < w7.heap.size := by omega
  have l7_4 : w5.heap.size < w7.heap.size := by omega
  have l7_5 : w6.heap.size < w7.heap.size := by omega
  go_wp2_with fail
  refine (awake_any _).mono ?_
  rintro e w8 ⟨rfl, hb8⟩
  obtain ⟨hc8, hf8, hs8⟩ := Gr.cells hb8
  try simp at hs8
  have l8_0 : w.heap.size < w8.heap.size := by omega
  have l8_1 : w.heap.size + 1 < w8.heap.size := by omega
  have l8_2 : w3.heap.size < w8.heap.size := by omega
  have l8_3 : w4.heap.size < w8.heap.size := by omega
  have l8_4 : w5.heap.size < w8.heap.size := by omega
  have l8_5 : w6.heap.size < w8.heap.size := by omega
  go_wp2_with fail
  go_ret
  exact ⟨rfl, (by with_reducible (repeat (first | exact Gr.refl _ | assumption | apply Gr.alloc | apply Gr.drew | apply Gr.drewN | refine Gr.setCell ?_ (by first | (simp; done) | (simp; omega)) _ | refine Gr.trans ?_ (by assumption))))⟩

set_option maxRecDepth 100000 in
set_option maxHeartbeats 4000000 in
theorem keeps_0102 (d n b a x d' n' b' a' x' k : Int) (w : World) (hv : validB d n b a x = true) (hw : withinB d n b a x d' n' b' a' x' = true) (hr : readyB d n b a x d' n' b' a' x' k = true) (hr0 : readyB d n b a x d' n' b' a' x' 0 = true) (hf : ((1 ≤ d ∧ d ≤ 48 ∧ 1 ≤ n ∧ n ≤ 65536 ∧ 1 ≤ b ∧ b ≤ 1048576 ∧ 0 ≤ a ∧ a ≤ 1024 ∧ 0 ≤ x ∧ x ≤ 65536) ∧ 0 ≤ d' ∧ d' ≤ d ∧ 0 ≤ n' ∧ n' ≤ n ∧ 0 ≤ b' ∧ b' ≤ b ∧ 0 ≤ a' ∧ a' ≤ a ∧ 0 ≤ x' ∧ x' ≤ x) ∧ 0 ≤ k) (ho : (d' == d) = true) (hn : ¬ n - n' < k) (hwn : withinB d n b a x d' (n' + k) b' a' x' = true) (hb : b - b' < k) (ha : (a' == a) = false) (hx : ¬ x - x' < k) (hwa : withinB d n b a x d' n' b' (a' + 1) (x' + k) = true) :
    Calls Try.prog 8 #[.agg #[.int .i64 d, .int .i64 n, .int .i64 b, .int .i64 a, .int .i64 x], .agg #[.int .i64 d', .int .i64 n', .int .i64 b', .int .i64 a', .int .i64 x'], .int .i64 k] w (RB true w) := by
  have hf0 : ((1 ≤ d ∧ d ≤ 48 ∧ 1 ≤ n ∧ n ≤ 65536 ∧ 1 ≤ b ∧ b ≤ 1048576 ∧ 0 ≤ a ∧ a ≤ 1024 ∧ 0 ≤ x ∧ x ≤ 65536) ∧ 0 ≤ d' ∧ d' ≤ d ∧ 0 ≤ n' ∧ n' ≤ n ∧ 0 ≤ b' ∧ b' ≤ b ∧ 0 ≤ a' ∧ a' ≤ a ∧ 0 ≤ x' ∧ x' ≤ x) ∧ 0 ≤ (0 : Int) := ⟨hf.1, by omega⟩
  have Hf0 := Lib.hid hf0
  clear hf0
  go_enter Try.func8, Try.ntmps8
  go_wp2_with fail
  refine (validP_any _ _ _ _ _ _).mono ?_
  rintro e w1 ⟨rfl, hb1⟩
  obtain ⟨hc1, hf1, hs1⟩ := Gr.cells hb1
  try simp at hs1
  have l1_0 : w.heap.size < w1.heap.size := by omega
  have l1_1 : w.heap.size + 1 < w1.heap.size := by omega
  go_wp2_with fail
  refine (withinP_any _ _ _ _ _ _ _ _ _ _ _).mono ?_
  rintro e w2 ⟨rfl, hb2⟩
  obtain ⟨hc2, hf2, hs2⟩ := Gr.cells hb2
  try simp at hs2
  have l2_0 : w.heap.size < w2.heap.size := by omega
  have l2_1 : w.heap.size + 1 < w2.heap.size := by omega
  go_wp2_with fail
  refine (openP_b d n b a x d' n' b' a' x' _ hr0 Hf0.out ho).mono ?_
  rintro e w3 ⟨rfl, hb3⟩
  obtain ⟨hc3, hf3, hs3⟩ := Gr.cells hb3
  try simp at hs3
  have l3_0 : w.heap.size < w3.heap.size := by omega
  have l3_1 : w.heap.size + 1 < w3.heap.size := by omega
  go_wp2_with fail
  refine (nodeP_d d n b a x d' n' b' a' x' k _ hr hf (by omega)).mono ?_
  rintro e w4 ⟨rfl, hb4⟩
  obtain ⟨hc4, hf4, hs4⟩ := Gr.cells hb4
  try simp at hs4
  have l4_0 : w.heap.size < w4.heap.size := by omega
  have l4_1 : w.heap.size + 1 < w4.heap.size := by omega
  have l4_2 : w3.heap.size < w4.heap.size := by omega
  go_wp2_with fail
  refine (bytesP_c d n b a x d' n' b' a' x' k _ hr hf hb).mono ?_
  rintro e w5 ⟨rfl, hb5⟩
  obtain ⟨hc5, hf5, hs5⟩ := Gr.cells hb5
  try simp at hs5
  have l5_0 : w.heap.size < w5.heap.size := by omega
  have l5_1 : w.heap.size + 1 < w5.heap.size := by omega
  have l5_2 : w3.heap.size < w5.heap.size := by omega
  have l5_3 : w4.heap.size < w5.heap.size := by omega
  go_wp2_with fail
  refine (aliasP_d d n b a x d' n' b' a' x' k _ hr hf ha (by omega)).mono ?_
  rintro e w6 ⟨rfl, hb6⟩
  obtain ⟨hc6, hf6, hs6⟩ := Gr.cells hb6
  try simp at hs6
  have l6_0 : w.heap.size < w6.heap.size := by omega
  have l6_1 : w.heap.size + 1 < w6.heap.size := by omega
  have l6_2 : w3.heap.size < w6.heap.size := by omega
  have l6_3 : w4.heap.size < w6.heap.size := by omega
  have l6_4 : w5.heap.size < w6.heap.size := by omega
  go_wp2_with fail
  refine (withinP_any _ _ _ _ _ _ _ _ _ _ _).mono ?_
  rintro e w7 ⟨rfl, hb7⟩
  obtain ⟨hc7, hf7, hs7⟩ := Gr.cells hb7
  try simp at hs7
  have l7_0 : w.heap.size < w7.heap.size := by omega
  have l7_1 : w.heap.size + 1 < w7.heap.size := by omega
  have l7_2 : w3.heap.size < w7.heap.size := by omega
  have l7_3 : w4.heap.size < w7.heap.size := by omega
  have l7_4 : w5.heap.size < w7.heap.size := by omega
  have l7_5 : w6.heap.size < w7.heap.size := by omega
  go_wp2_with fail
  refine (withinP_any _ _ _ _ _ _ _ _ _ _ _).mono ?_
  rintro e w8 ⟨rfl, hb8⟩
  obtain ⟨hc8, hf8, hs8⟩ := Gr.cells hb8
  try simp at hs8
  have l8_0 : w.heap.size < w8.heap.size := by omega
  have l8_1 : w.heap.size + 1 < w8.heap.size := by omega
  have l8_2 : w3.heap.size < w8.heap.size := by omega
  have l8_3 : w4.heap.size < w8.heap.size := by omega
  have l8_4 : w5.heap.size < w8.heap.size := by omega
  have l8_5 : w6.heap.size < w8.heap.size := by omega
  go_wp2_with fail
  refine (awake_any _).mono ?_
  rintro e w9 ⟨rfl, hb9⟩
  obtain ⟨hc9, hf9, hs9⟩ := Gr.cells hb9
  try simp at hs9
  have l9_0 : w.heap.size < w9.heap.size := by omega
  have l9_1 : w.heap.size + 1 < w9.heap.size := by omega
  have l9_2 : w3.heap.size < w9.heap.size := by omega
  have l9_3 : w4.heap.size < w9.heap.size := by omega
  have l9_4 : w5.heap.size < w9.heap.size := by omega
  have l9_5 : w6.heap.size < w9.heap.size := by omega
  go_wp2_with fail
  go_ret
  exact ⟨rfl, (by with_reducible (repeat (first | exact Gr.refl _ | assumption | apply Gr.alloc | apply Gr.drew | apply Gr.drewN | refine Gr.setCell ?_ (by first | (simp; done) | (simp; omega)) _ | refine Gr.trans ?_ (by assumption))))⟩

set_option maxRecDepth 100000 in
set_option maxHeartbeats 4000000 in
theorem keeps_0110 (d n b a x d' n' b' a' x' k : Int) (w : World) (hv : validB d n b a x = true) (hw : withinB d n b a x d' n' b' a' x' = true) (hr : readyB d n b a x d' n' b' a' x' k = true) (hr0 : readyB d n b a x d' n' b' a' x' 0 = true) (hf : ((1 ≤ d ∧ d ≤ 48 ∧ 1 ≤ n ∧ n ≤ 65536 ∧ 1 ≤ b ∧ b ≤ 1048576 ∧ 0 ≤ a ∧ a ≤ 1024 ∧ 0 ≤ x ∧ x ≤ 65536) ∧ 0 ≤ d' ∧ d' ≤ d ∧ 0 ≤ n' ∧ n' ≤ n ∧ 0 ≤ b' ∧ b' ≤ b ∧ 0 ≤ a' ∧ a' ≤ a ∧ 0 ≤ x' ∧ x' ≤ x) ∧ 0 ≤ k) (ho : (d' == d) = true) (hn : ¬ n - n' < k) (hwn : withinB d n b a x d' (n' + k) b' a' x' = true) (hb : ¬ b - b' < k) (hwb : withinB d n b a x d' n' (b' + k) a' x' = true) (ha : (a' == a) = true) :
    Calls Try.prog 8 #[.agg #[.int .i64 d, .int .i64 n, .int .i64 b, .int .i64 a, .int .i64 x], .agg #[.int .i64 d', .int .i64 n', .int .i64 b', .int .i64 a', .int .i64 x'], .int .i64 k] w (RB true w) := by
  have hf0 : ((1 ≤ d ∧ d ≤ 48 ∧ 1 ≤ n ∧ n ≤ 65536 ∧ 1 ≤ b ∧ b ≤ 1048576 ∧ 0 ≤ a ∧ a ≤ 1024 ∧ 0 ≤ x ∧ x ≤ 65536) ∧ 0 ≤ d' ∧ d' ≤ d ∧ 0 ≤ n' ∧ n' ≤ n ∧ 0 ≤ b' ∧ b' ≤ b ∧ 0 ≤ a' ∧ a' ≤ a ∧ 0 ≤ x' ∧ x' ≤ x) ∧ 0 ≤ (0 : Int) := ⟨hf.1, by omega⟩
  have Hf0 := Lib.hid hf0
  clear hf0
  go_enter Try.func8, Try.ntmps8
  go_wp2_with fail
  refine (validP_any _ _ _ _ _ _).mono ?_
  rintro e w1 ⟨rfl, hb1⟩
  obtain ⟨hc1, hf1, hs1⟩ := Gr.cells hb1
  try simp at hs1
  have l1_0 : w.heap.size < w1.heap.size := by omega
  have l1_1 : w.heap.size + 1 < w1.heap.size := by omega
  go_wp2_with fail
  refine (withinP_any _ _ _ _ _ _ _ _ _ _ _).mono ?_
  rintro e w2 ⟨rfl, hb2⟩
  obtain ⟨hc2, hf2, hs2⟩ := Gr.cells hb2
  try simp at hs2
  have l2_0 : w.heap.size < w2.heap.size := by omega
  have l2_1 : w.heap.size + 1 < w2.heap.size := by omega
  go_wp2_with fail
  refine (openP_b d n b a x d' n' b' a' x' _ hr0 Hf0.out ho).mono ?_
  rintro e w3 ⟨rfl, hb3⟩
  obtain ⟨hc3, hf3, hs3⟩ := Gr.cells hb3
  try simp at hs3
  have l3_0 : w.heap.size < w3.heap.size := by omega
  have l3_1 : w.heap.size + 1 < w3.heap.size := by omega
  go_wp2_with fail
  refine (nodeP_d d n b a x d' n' b' a' x' k _ hr hf (by omega)).mono ?_
  rintro e w4 ⟨rfl, hb4⟩
  obtain ⟨hc4, hf4, hs4⟩ := Gr.cells hb4
  try simp at hs4
  have l4_0 : w.heap.size < w4.heap.size := by omega
  have l4_1 : w.heap.size + 1 < w4.heap.size := by omega
  have l4_2 : w3.heap.size < w4.heap.size := by omega
  go_wp2_with fail
  refine (bytesP_d d n b a x d' n' b' a' x' k _ hr hf (by omega)).mono ?_
  rintro e w5 ⟨rfl, hb5⟩
  obtain ⟨hc5, hf5, hs5⟩ := Gr.cells hb5
  try simp at hs5
  have l5_0 : w.heap.size < w5.heap.size := by omega
  have l5_1 : w.heap.size + 1 < w5.heap.size := by omega
  have l5_2 : w3.heap.size < w5.heap.size := by omega
  have l5_3 : w4.heap.size < w5.heap.size := by omega
  go_wp2_with fail
  refine (aliasP_b d n b a x d' n' b' a' x' k _ hr hf ha).mono ?_
  rintro e w6 ⟨rfl, hb6⟩
  obtain ⟨hc6, hf6, hs6⟩ := Gr.cells hb6
  try simp at hs6
  have l6_0 : w.heap.size < w6.heap.size := by omega
  have l6_1 : w.heap.size + 1 < w6.heap.size := by omega
  have l6_2 : w3.heap.size < w6.heap.size := by omega
  have l6_3 : w4.heap.size < w6.heap.size := by omega
  have l6_4 : w5.heap.size < w6.heap.size := by omega
  go_wp2_with fail
  refine (withinP_any _ _ _ _ _ _ _ _ _ _ _).mono ?_
  rintro e w7 ⟨rfl, hb7⟩
  obtain ⟨hc7, hf7, hs7⟩ := Gr.cells hb7
  try simp at hs7
  have l7_0 : w.heap.size < w7.heap.size := by omega
  have l7_1 : w.heap.size + 1 < w7.heap.size := by omega
  have l7_2 : w3.heap.size < w7.heap.size := by omega
  have l7_3 : w4.heap.size < w7.heap.size := by omega
  have l7_4 : w5.heap.size < w7.heap.size := by omega
  have l7_5 : w6.heap.size < w7.heap.size := by omega
  go_wp2_with fail
  refine (withinP_any _ _ _ _ _ _ _ _ _ _ _).mono ?_
  rintro e w8 ⟨rfl, hb8⟩
  obtain ⟨hc8, hf8, hs8⟩ := Gr.cells hb8
  try simp at hs8
  have l8_0 : w.heap.size < w8.heap.size := by omega
  have l8_1 : w.heap.size + 1 < w8.heap.size := by omega
  have l8_2 : w3.heap.size < w8.heap.size := by omega
  have l8_3 : w4.heap.size < w8.heap.size := by omega
  have l8_4 : w5.heap.size < w8.heap.size := by omega
  have l8_5 : w6.heap.size < w8.heap.size := by omega
  go_wp2_with fail
  refine (awake_any _).mono ?_
  rintro e w9 ⟨rfl, hb9⟩
  obtain ⟨hc9, hf9, hs9⟩ := Gr.cells hb9
  try simp at hs9
  have l9_0 : w.heap.size < w9.heap.size := by omega
  have l9_1 : w.heap.size + 1 < w9.heap.size := by omega
  have l9_2 : w3.heap.size < w9.heap.size := by omega
  have l9_3 : w4.heap.size < w9.heap.size := by omega
  have l9_4 : w5.heap.size < w9.heap.size := by omega
  have l9_5 : w6.heap.size < w9.heap.size := by omega
  go_wp2_with fail
  go_ret
  exact ⟨rfl, (by with_reducible (repeat (first | exact Gr.refl _ | assumption | apply Gr.alloc | apply Gr.drew | apply Gr.drewN | refine Gr.setCell ?_ (by first | (simp; done) | (simp; omega)) _ | refine Gr.trans ?_ (by assumption))))⟩

set_option maxRecDepth 100000 in
set_option maxHeartbeats 4000000 in
theorem keeps_0111 (d n b a x d' n' b' a' x' k : Int) (w : World) (hv : validB d n b a x = true) (hw : withinB d n b a x d' n' b' a' x' = true) (hr : readyB d n b a x d' n' b' a' x' k = true) (hr0 : readyB d n b a x d' n' b' a' x' 0 = true) (hf : ((1 ≤ d ∧ d ≤ 48 ∧ 1 ≤ n ∧ n ≤ 65536 ∧ 1 ≤ b ∧ b ≤ 1048576 ∧ 0 ≤ a ∧ a ≤ 1024 ∧ 0 ≤ x ∧ x ≤ 65536) ∧ 0 ≤ d' ∧ d' ≤ d ∧ 0 ≤ n' ∧ n' ≤ n ∧ 0 ≤ b' ∧ b' ≤ b ∧ 0 ≤ a' ∧ a' ≤ a ∧ 0 ≤ x' ∧ x' ≤ x) ∧ 0 ≤ k) (ho : (d' == d) = true) (hn : ¬ n - n' < k) (hwn : withinB d n b a x d' (n' + k) b' a' x' = true) (hb : ¬ b - b' < k) (hwb : withinB d n b a x d' n' (b' + k) a' x' = true) (ha : (a' == a) = false) (hla : a' < a) (hx : x - x' < k) :
    Calls Try.prog 8 #[.agg #[.int .i64 d, .int .i64 n, .int .i64 b, .int .i64 a, .int .i64 x], .agg #[.int .i64 d', .int .i64 n', .int .i64 b', .int .i64 a', .int .i64 x'], .int .i64 k] w (RB true w) := by
  have hf0 : ((1 ≤ d ∧ d ≤ 48 ∧ 1 ≤ n ∧ n ≤ 65536 ∧ 1 ≤ b ∧ b ≤ 1048576 ∧ 0 ≤ a ∧ a ≤ 1024 ∧ 0 ≤ x ∧ x ≤ 65536) ∧ 0 ≤ d' ∧ d' ≤ d ∧ 0 ≤ n' ∧ n' ≤ n ∧ 0 ≤ b' ∧ b' ≤ b ∧ 0 ≤ a' ∧ a' ≤ a ∧ 0 ≤ x' ∧ x' ≤ x) ∧ 0 ≤ (0 : Int) := ⟨hf.1, by omega⟩
  have Hf0 := Lib.hid hf0
  clear hf0
  go_enter Try.func8, Try.ntmps8
  go_wp2_with fail
  refine (validP_any _ _ _ _ _ _).mono ?_
  rintro e w1 ⟨rfl, hb1⟩
  obtain ⟨hc1, hf1, hs1⟩ := Gr.cells hb1
  try simp at hs1
  have l1_0 : w.heap.size < w1.heap.size := by omega
  have l1_1 : w.heap.size + 1 < w1.heap.size := by omega
  go_wp2_with fail
  refine (withinP_any _ _ _ _ _ _ _ _ _ _ _).mono ?_
  rintro e w2 ⟨rfl, hb2⟩
  obtain ⟨hc2, hf2, hs2⟩ := Gr.cells hb2
  try simp at hs2
  have l2_0 : w.heap.size < w2.heap.size := by omega
  have l2_1 : w.heap.size + 1 < w2.heap.size := by omega
  go_wp2_with fail
  refine (openP_b d n b a x d' n' b' a' x' _ hr0 Hf0.out ho).mono ?_
  rintro e w3 ⟨rfl, hb3⟩
  obtain ⟨hc3, hf3, hs3⟩ := Gr.cells hb3
  try simp at hs3
  have l3_0 : w.heap.size < w3.heap.size := by omega
  have l3_1 : w.heap.size + 1 < w3.heap.size := by omega
  go_wp2_with fail
  refine (nodeP_d d n b a x d' n' b' a' x' k _ hr hf (by omega)).mono ?_
  rintro e w4 ⟨rfl, hb4⟩
  obtain ⟨hc4, hf4, hs4⟩ := Gr.cells hb4
  try simp at hs4
  have l4_0 : w.heap.size < w4.heap.size := by omega
  have l4_1 : w.heap.size + 1 < w4.heap.size := by omega
  have l4_2 : w3.heap.size < w4.heap.size := by omega
  go_wp2_with fail
  refine (bytesP_d d n b a x d' n' b' a' x' k _ hr hf (by omega)).mono ?_
  rintro e w5 ⟨rfl, hb5⟩
  obtain ⟨hc5, hf5, hs5⟩ := Gr.cells hb5
  try simp at hs5
  have l5_0 : w.heap.size < w5.heap.size := by omega
  have l5_1 : w.heap.size + 1 < w5.heap.size := by omega
  have l5_2 : w3.heap.size < w5.heap.size := by omega
  have l5_3 : w4.heap.size < w5.heap.size := by omega
  go_wp2_with fail
  refine (aliasP_c d n b a x d' n' b' a' x' k _ hr hf ha hx).mono ?_
  rintro e w6 ⟨rfl, hb6⟩
  obtain ⟨hc6, hf6, hs6⟩ := Gr.cells hb6
  try simp at hs6
  have l6_0 : w.heap.size < w6.heap.size := by omega
  have l6_1 : w.heap.size + 1 < w6.heap.size := by omega
  have l6_2 : w3.heap.size < w6.heap.size := by omega
  have l6_3 : w4.heap.size < w6.heap.size := by omega
  have l6_4 : w5.heap.size < w6.heap.size := by omega
  go_wp2_with fail
  refine (withinP_any _ _ _ _ _ _ _ _ _ _ _).mono ?_
  rintro e w7 ⟨rfl, hb7⟩
  obtain ⟨hc7, hf7, hs7⟩ := Gr.cells hb7
  try simp at hs7
  have l7_0 : w.heap.size < w7.heap.size := by omega
  have l7_1 : w.heap.size + 1 < w7.heap.size := by omega
  have l7_2 : w3.heap.size < w7.heap.size := by omega
  have l7_3 : w4.heap.size < w7.heap.size := by omega
  have l7_4 : w5.heap.size < w7.heap.size := by omega
  have l7_5 : w6.heap.size < w7.heap.size := by omega
  go_wp2_with fail
  refine (withinP_any _ _ _ _ _ _ _ _ _ _ _).mono ?_
  rintro e w8 ⟨rfl, hb8⟩
  obtain ⟨hc8, hf8, hs8⟩ := Gr.cells hb8
  try simp at hs8
  have l8_0 : w.heap.size < w8.heap.size := by omega
  have l8_1 : w.heap.size + 1 < w8.heap.size := by omega
  have l8_2 : w3.heap.size < w8.heap.size := by omega
  have l8_3 : w4.heap.size < w8.heap.size := by omega
  have l8_4 : w5.heap.size < w8.heap.size := by omega
  have l8_5 : w6.heap.size < w8.heap.size := by omega
  go_wp2_with fail
  refine (awake_any _).mono ?_
  rintro e w9 ⟨rfl, hb9⟩
  obtain ⟨hc9, hf9, hs9⟩ := Gr.cells hb9
  try simp at hs9
  have l9_0 : w.heap.size < w9.heap.size := by omega
  have l9_1 : w.heap.size + 1 < w9.heap.size := by omega
  have l9_2 : w3.heap.size < w9.heap.size := by omega
  have l9_3 : w4.heap.size < w9.heap.size := by omega
  have l9_4 : w5.heap.size < w9.heap.size := by omega
  have l9_5 : w6.heap.size < w9.heap.size := by omega
  go_wp2_with fail
  go_ret
  exact ⟨rfl, (by with_reducible (repeat (first | exact Gr.refl _ | assumption | apply Gr.alloc | apply Gr.drew | apply Gr.drewN | refine Gr.setCell ?_ (by first | (simp; done) | (simp; omega)) _ | refine Gr.trans ?_ (by assumption))))⟩

set_option maxRecDepth 100000 in
set_option maxHeartbeats 4000000 in
theorem keeps_0112 (d n b a x d' n' b' a' x' k : Int) (w : World) (hv : validB d n b a x = true) (hw : withinB d n b a x d' n' b' a' x' = true) (hr : readyB d n b a x d' n' b' a' x' k = true) (hr0 : readyB d n b a x d' n' b' a' x' 0 = true) (hf : ((1 ≤ d ∧ d ≤ 48 ∧ 1 ≤ n ∧ n ≤ 65536 ∧ 1 ≤ b ∧ b ≤ 1048576 ∧ 0 ≤ a ∧ a ≤ 1024 ∧ 0 ≤ x ∧ x ≤ 65536) ∧ 0 ≤ d' ∧ d' ≤ d ∧ 0 ≤ n' ∧ n' ≤ n ∧ 0 ≤ b' ∧ b' ≤ b ∧ 0 ≤ a' ∧ a' ≤ a ∧ 0 ≤ x' ∧ x' ≤ x) ∧ 0 ≤ k) (ho : (d' == d) = true) (hn : ¬ n - n' < k) (hwn : withinB d n b a x d' (n' + k) b' a' x' = true) (hb : ¬ b - b' < k) (hwb : withinB d n b a x d' n' (b' + k) a' x' = true) (ha : (a' == a) = false) (hx : ¬ x - x' < k) (hwa : withinB d n b a x d' n' b' (a' + 1) (x' + k) = true) :
    Calls Try.prog 8 #[.agg #[.int .i64 d, .int .i64 n, .int .i64 b, .int .i64 a, .int .i64 x], .agg #[.int .i64 d', .int .i64 n', .int .i64 b', .int .i64 a', .int .i64 x'], .int .i64 k] w (RB true w) := by
  have hf0 : ((1 ≤ d ∧ d ≤ 48 ∧ 1 ≤ n ∧ n ≤ 65536 ∧ 1 ≤ b ∧ b ≤ 1048576 ∧ 0 ≤ a ∧ a ≤ 1024 ∧ 0 ≤ x ∧ x ≤ 65536) ∧ 0 ≤ d' ∧ d' ≤ d ∧ 0 ≤ n' ∧ n' ≤ n ∧ 0 ≤ b' ∧ b' ≤ b ∧ 0 ≤ a' ∧ a' ≤ a ∧ 0 ≤ x' ∧ x' ≤ x) ∧ 0 ≤ (0 : Int) := ⟨hf.1, by omega⟩
  have Hf0 := Lib.hid hf0
  clear hf0
  go_enter Try.func8, Try.ntmps8
  go_wp2_with fail
  refine (validP_any _ _ _ _ _ _).mono ?_
  rintro e w1 ⟨rfl, hb1⟩
  obtain ⟨hc1, hf1, hs1⟩ := Gr.cells hb1
  try simp at hs1
  have l1_0 : w.heap.size < w1.heap.size := by omega
  have l1_1 : w.heap.size + 1 < w1.heap.size := by omega
  go_wp2_with fail
  refine (withinP_any _ _ _ _ _ _ _ _ _ _ _).mono ?_
  rintro e w2 ⟨rfl, hb2⟩
  obtain ⟨hc2, hf2, hs2⟩ := Gr.cells hb2
  try simp at hs2
  have l2_0 : w.heap.size < w2.heap.size := by omega
  have l2_1 : w.heap.size + 1 < w2.heap.size := by omega
  go_wp2_with fail
  refine (openP_b d n b a x d' n' b' a' x' _ hr0 Hf0.out ho).mono ?_
  rintro e w3 ⟨rfl, hb3⟩
  obtain ⟨hc3, hf3, hs3⟩ := Gr.cells hb3
  try simp at hs3
  have l3_0 : w.heap.size < w3.heap.size := by omega
  have l3_1 : w.heap.size + 1 < w3.heap.size := by omega
  go_wp2_with fail
  refine (nodeP_d d n b a x d' n' b' a' x' k _ hr hf (by omega)).mono ?_
  rintro e w4 ⟨rfl, hb4⟩
  obtain ⟨hc4, hf4, hs4⟩ := Gr.cells hb4
  try simp at hs4
  have l4_0 : w.heap.size < w4.heap.size := by omega
  have l4_1 : w.heap.size + 1 < w4.heap.size := by omega
  have l4_2 : w3.heap.size < w4.heap.size := by omega
  go_wp2_with fail
  refine (bytesP_d d n b a x d' n' b' a' x' k _ hr hf (by omega)).mono ?_
  rintro e w5 ⟨rfl, hb5⟩
  obtain ⟨hc5, hf5, hs5⟩ := Gr.cells hb5
  try simp at hs5
  have l5_0 : w.heap.size < w5.heap.size := by omega
  have l5_1 : w.heap.size + 1 < w5.heap.size := by omega
  have l5_2 : w3.heap.size < w5.heap.size := by omega
  have l5_3 : w4.heap.size < w5.heap.size := by omega
  go_wp2_with fail
  refine (aliasP_d d n b a x d' n' b' a' x' k _ hr hf ha (by omega)).mono ?_
  rintro e w6 ⟨rfl, hb6⟩
  obtain ⟨hc6, hf6, hs6⟩ := Gr.cells hb6
  try simp at hs6
  have l6_0 : w.heap.size < w6.heap.size := by omega
  have l6_1 : w.heap.size + 1 < w6.heap.size := by omega
  have l6_2 : w3.heap.size < w6.heap.size := by omega
  have l6_3 : w4.heap.size < w6.heap.size := by omega
  have l6_4 : w5.heap.size < w6.heap.size := by omega
  go_wp2_with fail
  refine (withinP_any _ _ _ _ _ _ _ _ _ _ _).mono ?_
  rintro e w7 ⟨rfl, hb7⟩
  obtain ⟨hc7, hf7, hs7⟩ := Gr.cells hb7
  try simp at hs7
  have l7_0 : w.heap.size < w7.heap.size := by omega
  have l7_1 : w.heap.size + 1 < w7.heap.size := by omega
  have l7_2 : w3.heap.size < w7.heap.size := by omega
  have l7_3 : w4.heap.size < w7.heap.size := by omega
  have l7_4 : w5.heap.size < w7.heap.size := by omega
  have l7_5 : w6.heap.size < w7.heap.size := by omega
  go_wp2_with fail
  refine (withinP_any _ _ _ _ _ _ _ _ _ _ _).mono ?_
  rintro e w8 ⟨rfl, hb8⟩
  obtain ⟨hc8, hf8, hs8⟩ := Gr.cells hb8
  try simp at hs8
  have l8_0 : w.heap.size < w8.heap.size := by omega
  have l8_1 : w.heap.size + 1 < w8.heap.size := by omega
  have l8_2 : w3.heap.size < w8.heap.size := by omega
  have l8_3 : w4.heap.size < w8.heap.size := by omega
  have l8_4 : w5.heap.size < w8.heap.size := by omega
  have l8_5 : w6.heap.size < w8.heap.size := by omega
  go_wp2_with fail
  refine (withinP_any _ _ _ _ _ _ _ _ _ _ _).mono ?_
  rintro e w9 ⟨rfl, hb9⟩
  obtain ⟨hc9, hf9, hs9⟩ := Gr.cells hb9
  try simp at hs9
  have l9_0 : w.heap.size < w9.heap.size := by omega
  have l9_1 : w.heap.size + 1 < w9.heap.size := by omega
  have l9_2 : w3.heap.size < w9.heap.size := by omega
  have l9_3 : w4.heap.size < w9.heap.size := by omega
  have l9_4 : w5.heap.size < w9.heap.size := by omega
  have l9_5 : w6.heap.size < w9.heap.size := by omega
  go_wp2_with fail
  refine (awake_any _).mono ?_
  rintro e w10 ⟨rfl, hb10⟩
  obtain ⟨hc10, hf10, hs10⟩ := Gr.cells hb10
  try simp at hs10
  have l10_0 : w.heap.size < w10.heap.size := by omega
  have l10_1 : w.heap.size + 1 < w10.heap.size := by omega
  have l10_2 : w3.heap.size < w10.heap.size := by omega
  have l10_3 : w4.heap.size < w10.heap.size := by omega
  have l10_4 : w5.heap.size < w10.heap.size := by omega
  have l10_5 : w6.heap.size < w10.heap.size := by omega
  go_wp2_with fail
  go_ret
  exact ⟨rfl, (by with_reducible (repeat (first | exact Gr.refl _ | assumption | apply Gr.alloc | apply Gr.drew | apply Gr.drewN | refine Gr.setCell ?_ (by first | (simp; done) | (simp; omega)) _ | refine Gr.trans ?_ (by assumption))))⟩

end Go.Proofs.Ytlfhiolngpoamaa
