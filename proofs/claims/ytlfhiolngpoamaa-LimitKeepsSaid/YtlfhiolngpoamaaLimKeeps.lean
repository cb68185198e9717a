/- LimitKeeps returns true for every input: results are within the limits and differ only in the named fields, errors mean that a limit would be exceeded, Close undoes Open. No condition. -/
import Derived.Test.YtlfhiolngpoamaaLimKeeps0
import Derived.Test.YtlfhiolngpoamaaLimKeeps1
import Derived.Test.YtlfhiolngpoamaaLimKeeps2
import Derived.Test.YtlfhiolngpoamaaLimKeeps3
namespace Go.Proofs.Ytlfhiolngpoamaa
open Go.ChangeShapes Go.WideShapes Go.ChangeAt Go.RowKit

set_option maxRecDepth 100000 in
set_option maxHeartbeats 1000000 in
theorem keeps_nv (d n b a x d' n' b' a' x' k : Int) (w : World) (hv : validB d n b a x = false) :
    Calls Try.prog 8 #[.agg #[.int .i64 d, .int .i64 n, .int .i64 b, .int .i64 a, .int .i64 x], .agg #[.int .i64 d', .int .i64 n', .int .i64 b', .int .i64 a', .int .i64 x'], .int .i64 k] w (RB true w) := by
  go_enter Try.func8, Try.ntmps8
  go_wp2_with fail
  refine (validP_any _ _ _ _ _ _).mono ?_
  rintro e w1 ⟨rfl, hb1⟩
  obtain ⟨hc1, hf1, hs1⟩ := Gr.cells hb1
  try simp at hs1
  have l1_0 : w.heap.size < w1.heap.size := by omega
  have l1_1 : w.heap.size + 1 < w1.heap.size := by omega
  go_wp2_with fail
  refine (awake_any _).mono ?_
  rintro e w2 ⟨rfl, hb2⟩
  obtain ⟨hc2, hf2, hs2⟩ := Gr.cells hb2
  try simp at hs2
  have l2_0 : w.heap.size < w2.heap.size := by omega
  have l2_1 : w.heap.size + 1 < w2.heap.size := by omega
  go_wp2_with fail
  go_ret
  exact ⟨rfl, (by with_reducible (repeat (first | exact Gr.refl _ | assumption | apply Gr.alloc | apply Gr.drew | apply Gr.drewN | refine Gr.setCell ?_ (by first | (simp; done) | (simp; omega)) _ | refine Gr.trans ?_ (by assumption))))⟩
set_option maxRecDepth 100000 in
set_option maxHeartbeats 1000000 in
theorem keeps_nw (d n b a x d' n' b' a' x' k : Int) (w : World) (hv : validB d n b a x = true) (hw : withinB d n b a x d' n' b' a' x' = false) :
    Calls Try.prog 8 #[.agg #[.int .i64 d, .int .i64 n, .int .i64 b, .int .i64 a, .int .i64 x], .agg #[.int .i64 d', .int .i64 n', .int .i64 b', .int .i64 a', .int .i64 x'], .int .i64 k] w (RB true w) := by
  go_enter Try.func8, Try.ntmps8
  go_wp2_with fail
  refine (validP_any _ _ _ _ _ _).mono ?_
  rintro e w1 ⟨rfl, hb1⟩
  obtain ⟨hc1, hf1, hs1⟩ := Gr.cells hb1
  try simp at hs1
  have l1_0 : w.heap.size < w1.heap.size := by omega
  have l1_1 : w.heap.size + 1 < w1.heap.size := by omega
  go_wp2_with fail
  refine (withinP_any _ _ _ _ _ _ _ _ _ _ _).mono ?_
  rintro e w2 ⟨rfl, hb2⟩
  obtain ⟨hc2, hf2, hs2⟩ := Gr.cells hb2
  try simp at hs2
  have l2_0 : w.heap.size < w2.heap.size := by omega
  have l2_1 : w.heap.size + 1 < w2.heap.size := by omega
  go_wp2_with fail
  refine (awake_any _).mono ?_
  rintro e w3 ⟨rfl, hb3⟩
  obtain ⟨hc3, hf3, hs3⟩ := Gr.cells hb3
  try simp at hs3
  have l3_0 : w.heap.size < w3.heap.size := by omega
  have l3_1 : w.heap.size + 1 < w3.heap.size := by omega
  go_wp2_with fail
  go_ret
  exact ⟨rfl, (by with_reducible (repeat (first | exact Gr.refl _ | assumption | apply Gr.alloc | apply Gr.drew | apply Gr.drewN | refine Gr.setCell ?_ (by first | (simp; done) | (simp; omega)) _ | refine Gr.trans ?_ (by assumption))))⟩
set_option maxRecDepth 100000 in
set_option maxHeartbeats 1000000 in
theorem keeps_nk (d n b a x d' n' b' a' x' k : Int) (w : World) (hv : validB d n b a x = true) (hw : withinB d n b a x d' n' b' a' x' = true) (hk : k < 0) :
    Calls Try.prog 8 #[.agg #[.int .i64 d, .int .i64 n, .int .i64 b, .int .i64 a, .int .i64 x], .agg #[.int .i64 d', .int .i64 n', .int .i64 b', .int .i64 a', .int .i64 x'], .int .i64 k] w (RB true w) := by
  go_enter Try.func8, Try.ntmps8
  go_wp2_with fail
  refine (validP_any _ _ _ _ _ _).mono ?_
  rintro e w1 ⟨rfl, hb1⟩
  obtain ⟨hc1, hf1, hs1⟩ := Gr.cells hb1
  try simp at hs1
  have l1_0 : w.heap.size < w1.heap.size := by omega
  have l1_1 : w.heap.size + 1 < w1.heap.size := by omega
  go_wp2_with fail
  refine (withinP_any _ _ _ _ _ _ _ _ _ _ _).mono ?_
  rintro e w2 ⟨rfl, hb2⟩
  obtain ⟨hc2, hf2, hs2⟩ := Gr.cells hb2
  try simp at hs2
  have l2_0 : w.heap.size < w2.heap.size := by omega
  have l2_1 : w.heap.size + 1 < w2.heap.size := by omega
  go_wp2_with fail
  refine (awake_any _).mono ?_
  rintro e w3 ⟨rfl, hb3⟩
  obtain ⟨hc3, hf3, hs3⟩ := Gr.cells hb3
  try simp at hs3
  have l3_0 : w.heap.size < w3.heap.size := by omega
  have l3_1 : w.heap.size + 1 < w3.heap.size := by omega
  go_wp2_with fail
  go_ret
  exact ⟨rfl, (by with_reducible (repeat (first | exact Gr.refl _ | assumption | apply Gr.alloc | apply Gr.drew | apply Gr.drewN | refine Gr.setCell ?_ (by first | (simp; done) | (simp; omega)) _ | refine Gr.trans ?_ (by assumption))))⟩
theorem limitKeeps_any (d n b a x d' n' b' a' x' k : Int) (w : World) : Calls Try.prog 8 #[.agg #[.int .i64 d, .int .i64 n, .int .i64 b, .int .i64 a, .int .i64 x], .agg #[.int .i64 d', .int .i64 n', .int .i64 b', .int .i64 a', .int .i64 x'], .int .i64 k] w (RB true w) := by
  by_cases hv : validB d n b a x = false
  · exact keeps_nv d n b a x d' n' b' a' x' k w hv
  simp only [Bool.not_eq_false] at hv
  by_cases hw : withinB d n b a x d' n' b' a' x' = false
  · exact keeps_nw d n b a x d' n' b' a' x' k w hv hw
  simp only [Bool.not_eq_false] at hw
  by_cases hk : k < 0
  · exact keeps_nk d n b a x d' n' b' a' x' k w hv hw hk
  have hr : readyB d n b a x d' n' b' a' x' k = true := by unfold readyB; rw [hv, hw]; simp; omega
  have hr0 : readyB d n b a x d' n' b' a' x' 0 = true := by unfold readyB; rw [hv, hw]; simp
  have hf := ready_facts hr
  have win : ∀ d1 n1 b1 a1 x1 : Int, (0 ≤ d1 ∧ d1 ≤ d ∧ 0 ≤ n1 ∧ n1 ≤ n ∧ 0 ≤ b1 ∧ b1 ≤ b ∧ 0 ≤ a1 ∧ a1 ≤ a ∧ 0 ≤ x1 ∧ x1 ≤ x) → withinB d n b a x d1 n1 b1 a1 x1 = true := fun _ _ _ _ _ h => by unfold withinB; exact decide_eq_true h
  by_cases ho : d' = d
  · by_cases hn : n - n' < k
    · by_cases hb : b - b' < k
      · by_cases ha : a' = a
        · exact keeps_0000 d n b a x d' n' b' a' x' k w hv hw hr hr0 hf (by simpa using ho) hn hb (by simpa using ha)
        · by_cases hx : x - x' < k
          · exact keeps_0001 d n b a x d' n' b' a' x' k w hv hw hr hr0 hf (by simpa using ho) hn hb (by simpa using ha) (by omega) hx
          · exact keeps_0002 d n b a x d' n' b' a' x' k w hv hw hr hr0 hf (by simpa using ho) hn hb (by simpa using ha) hx (win _ _ _ _ _ (by omega))
      · by_cases ha : a' = a
        · exact keeps_0010 d n b a x d' n' b' a' x' k w hv hw hr hr0 hf (by simpa using ho) hn hb (win _ _ _ _ _ (by omega)) (by simpa using ha)
        · by_cases hx : x - x' < k
          · exact keeps_0011 d n b a x d' n' b' a' x' k w hv hw hr hr0 hf (by simpa using ho) hn hb (win _ _ _ _ _ (by omega)) (by simpa using ha) (by omega) hx
          · exact keeps_0012 d n b a x d' n' b' a' x' k w hv hw hr hr0 hf (by simpa using ho) hn hb (win _ _ _ _ _ (by omega)) (by simpa using ha) hx (win _ _ _ _ _ (by omega))
    · by_cases hb : b - b' < k
      · by_cases ha : a' = a
        · exact keeps_0100 d n b a x d' n' b' a' x' k w hv hw hr hr0 hf (by simpa using ho) hn (win _ _ _ _ _ (by omega)) hb (by simpa using ha)
        · by_cases hx : x - x' < k
          · exact keeps_0101 d n b a x d' n' b' a' x' k w hv hw hr hr0 hf (by simpa using ho) hn (win _ _ _ _ _ (by omega)) hb (by simpa using ha) (by omega) hx
          · exact keeps_0102 d n b a x d' n' b' a' x' k w hv hw hr hr0 hf (by simpa using ho) hn (win _ _ _ _ _ (by omega)) hb (by simpa using ha) hx (win _ _ _ _ _ (by omega))
      · by_cases ha : a' = a
        · exact keeps_0110 d n b a x d' n' b' a' x' k w hv hw hr hr0 hf (by simpa using ho) hn (win _ _ _ _ _ (by omega)) hb (win _ _ _ _ _ (by omega)) (by simpa using ha)
        · by_cases hx : x - x' < k
          · exact keeps_0111 d n b a x d' n' b' a' x' k w hv hw hr hr0 hf (by simpa using ho) hn (win _ _ _ _ _ (by omega)) hb (win _ _ _ _ _ (by omega)) (by simpa using ha) (by omega) hx
          · exact keeps_0112 d n b a x d' n' b' a' x' k w hv hw hr hr0 hf (by simpa using ho) hn (win _ _ _ _ _ (by omega)) hb (win _ _ _ _ _ (by omega)) (by simpa using ha) hx (win _ _ _ _ _ (by omega))
  · by_cases hn : n - n' < k
    · by_cases hb : b - b' < k
      · by_cases ha : a' = a
        · exact keeps_1000 d n b a x d' n' b' a' x' k w hv hw hr hr0 hf (by simpa using ho) (win _ _ _ _ _ (by omega)) hn hb (by simpa using ha)
        · by_cases hx : x - x' < k
          · exact keeps_1001 d n b a x d' n' b' a' x' k w hv hw hr hr0 hf (by simpa using ho) (win _ _ _ _ _ (by omega)) hn hb (by simpa using ha) (by omega) hx
          · exact keeps_1002 d n b a x d' n' b' a' x' k w hv hw hr hr0 hf (by simpa using ho) (win _ _ _ _ _ (by omega)) hn hb (by simpa using ha) hx (win _ _ _ _ _ (by omega))
      · by_cases ha : a' = a
        · exact keeps_1010 d n b a x d' n' b' a' x' k w hv hw hr hr0 hf (by simpa using ho) (win _ _ _ _ _ (by omega)) hn hb (win _ _ _ _ _ (by omega)) (by simpa using ha)
        · by_cases hx : x - x' < k
          · exact keeps_1011 d n b a x d' n' b' a' x' k w hv hw hr hr0 hf (by simpa using ho) (win _ _ _ _ _ (by omega)) hn hb (win _ _ _ _ _ (by omega)) (by simpa using ha) (by omega) hx
          · exact keeps_1012 d n b a x d' n' b' a' x' k w hv hw hr hr0 hf (by simpa using ho) (win _ _ _ _ _ (by omega)) hn hb (win _ _ _ _ _ (by omega)) (by simpa using ha) hx (win _ _ _ _ _ (by omega))
    · by_cases hb : b - b' < k
      · by_cases ha : a' = a
        · exact keeps_1100 d n b a x d' n' b' a' x' k w hv hw hr hr0 hf (by simpa using ho) (win _ _ _ _ _ (by omega)) hn (win _ _ _ _ _ (by omega)) hb (by simpa using ha)
        · by_cases hx : x - x' < k
          · exact keeps_1101 d n b a x d' n' b' a' x' k w hv hw hr hr0 hf (by simpa using ho) (win _ _ _ _ _ (by omega)) hn (win _ _ _ _ _ (by omega)) hb (by simpa using ha) (by omega) hx
          · exact keeps_1102 d n b a x d' n' b' a' x' k w hv hw hr hr0 hf (by simpa using ho) (win _ _ _ _ _ (by omega)) hn (win _ _ _ _ _ (by omega)) hb (by simpa using ha) hx (win _ _ _ _ _ (by omega))
      · by_cases ha : a' = a
        · exact keeps_1110 d n b a x d' n' b' a' x' k w hv hw hr hr0 hf (by simpa using ho) (win _ _ _ _ _ (by omega)) hn (win _ _ _ _ _ (by omega)) hb (win _ _ _ _ _ (by omega)) (by simpa using ha)
        · by_cases hx : x - x' < k
          · exact keeps_1111 d n b a x d' n' b' a' x' k w hv hw hr hr0 hf (by simpa using ho) (win _ _ _ _ _ (by omega)) hn (win _ _ _ _ _ (by omega)) hb (win _ _ _ _ _ (by omega)) (by simpa using ha) (by omega) hx
          · exact keeps_1112 d n b a x d' n' b' a' x' k w hv hw hr hr0 hf (by simpa using ho) (win _ _ _ _ _ (by omega)) hn (win _ _ _ _ _ (by omega)) hb (win _ _ _ _ _ (by omega)) (by simpa using ha) hx (win _ _ _ _ _ (by omega))

namespace LimitKeeps
set_option maxRecDepth 100000 in
theorem lifted (os : Os) (started : os.Started) (H : Type) (enc : TypeId × Value → H) :
    ReturnsInHanded {} Try.checked os 8 .any (Rows.limitKeepsSpec.pre6 enc Try.prog Try.f8 Rows.limitKeepsRow.domain false) (Rows.limitKeepsSpec.post enc Try.prog Try.f8 false true false false) := by
  refine law_lifted (C := Try.checked) (tb := 4) own started (by kernel_rfl) Try.func8 laidOut rfl rfl Try.underlying4 (by kernel_rfl) ?_
    (ChangeSpec.witness6 (enc := enc) (C := Try.checked) false ⟨#[], #[.agg #[.int .i64 0, .int .i64 0, .int .i64 0, .int .i64 0, .int .i64 0], .agg #[.int .i64 0, .int .i64 0, .int .i64 0, .int .i64 0, .int .i64 0], .int .i64 0], []⟩ 8 (by kernel_rfl) (by kernel_rfl) (by kernel_rfl) (by kernel_rfl)) ?_
  · intro ds hl
    match ds, hl with
    | [_, _, _], _ => rfl
  · intro W base args ds ps hval0 hA0 hlt
    have hval : ∀ (j : Nat) t v, Try.f8.params[j]? = some t → args[j]? = some v → Value.okWide Try.prog W .any base t v := hval0
    have hA : DataW.TrodAll enc Try.prog W 0 (fun _ => true) true Try.f8.params.toList args.toList ds ps := hA0
    rw [Try.params8] at hA hval
    obtain ⟨v0, v1, v2, d0, d1, d2, p0, p1, p2, rfl, rfl, rfl, h0, h1, h2⟩ := trodAll_three hA
    obtain ⟨d, n, b, a, x, rfl, wL⟩ := open_int5 Try.underlying23 Try.underlying3 (by kernel_rfl) (hval 0 23 v0 rfl rfl) h0
    obtain ⟨d', n', b', a', x', rfl, wU⟩ := open_int5 Try.underlying24 Try.underlying3 (by kernel_rfl) (hval 1 24 v1 rfl rfl) h1
    obtain ⟨k, rfl, rfl, rfl, wk⟩ := open_int Try.underlying3 (hval 2 3 v2 rfl rfl) h2
    exact limitKeeps_any d n b a x d' n' b' a' x' k W

theorem proved : Rows.LimitKeepsSaid :=
  OpenClaim.holds_of_wide 8 Try.f8 rfl rfl rfl rfl rfl rfl rfl ⟨rfl, rfl, rfl, rfl, rfl⟩ rfl rfl rfl rfl rfl (by kernel_rfl) Try.func8 (by kernel_rfl)
    (of_decide_eq_true (by kernel_rfl)) (by unfold Func.isWrapper; first | (rw [if_pos (by decide +kernel)]; kernel_rfl) | (rw [if_neg (by decide +kernel)]; exact ⟨rfl, rfl⟩))
    (fun os started H enc _ => lifted os started H enc)
end LimitKeeps
end Go.Proofs.Ytlfhiolngpoamaa
