/- LimitOpens returns true for every input: a nested value is entered and left as the reference does it. No condition. -/
import Derived.Test.YtlfhiolngpoamaaLimAwake
namespace Go.Proofs.Ytlfhiolngpoamaa
open Go.ChangeShapes Go.WideShapes Go.ChangeAt Go.RowKit

set_option maxHeartbeats 2000000 in
theorem limitOpens_any (d n b a x d' n' b' a' x' : Int) (hm : d' ≤ 9223372036854775807) (w : World) :
    Calls Try.prog 5 #[.agg #[.int .i64 d, .int .i64 n, .int .i64 b, .int .i64 a, .int .i64 x], .agg #[.int .i64 d', .int .i64 n', .int .i64 b', .int .i64 a', .int .i64 x']] w (RB true w) := by
  go_enter Try.func5, Try.ntmps5
  go_wp2_with fail
  refine (openP_any d n b a x d' n' b' a' x' _).mono ?_
  generalize hr1 : openF d n b a x d' n' b' a' x' = r1
  rintro e w1 ⟨rfl, hb1⟩
  obtain ⟨hc1, hf1, hs1⟩ := Gr.cells hb1
  try simp at hs1
  have l1_0 : w.heap.size < w1.heap.size := by omega
  have l1_1 : w.heap.size + 1 < w1.heap.size := by omega
  have HR1 := Lib.hid hr1
  clear hr1
  go_wp2_with fail
  refine (openR_any d n b a x d' n' b' a' x' _).mono ?_
  rw [HR1.out]
  rintro e w2 ⟨rfl, hb2⟩
  obtain ⟨hc2, hf2, hs2⟩ := Gr.cells hb2
  try simp at hs2
  have l2_0 : w.heap.size < w2.heap.size := by omega
  have l2_1 : w.heap.size + 1 < w2.heap.size := by omega
  have l2_2 : w1.heap.size < w2.heap.size := by omega
  go_wp2_with fail
  refine (closeP_any d' n' b' a' x' _ hm).mono ?_
  generalize hr3 : closeF d' n' b' a' x' = r3
  rintro e w3 ⟨rfl, hb3⟩
  obtain ⟨hc3, hf3, hs3⟩ := Gr.cells hb3
  try simp at hs3
  have l3_0 : w.heap.size < w3.heap.size := by omega
  have l3_1 : w.heap.size + 1 < w3.heap.size := by omega
  have l3_2 : w1.heap.size < w3.heap.size := by omega
  have l3_3 : w2.heap.size < w3.heap.size := by omega
  have HR3 := Lib.hid hr3
  clear hr3
  go_wp2_with fail
  refine (closeR_any d' n' b' a' x' _ hm).mono ?_
  rw [HR3.out]
  rintro e w4 ⟨rfl, hb4⟩
  obtain ⟨hc4, hf4, hs4⟩ := Gr.cells hb4
  try simp at hs4
  have l4_0 : w.heap.size < w4.heap.size := by omega
  have l4_1 : w.heap.size + 1 < w4.heap.size := by omega
  have l4_2 : w1.heap.size < w4.heap.size := by omega
  have l4_3 : w2.heap.size < w4.heap.size := by omega
  have l4_4 : w3.heap.size < w4.heap.size := by omega
  go_wp2_with (go_at_call 13; refine (awake_any _).mono ?_; rintro e w9 ⟨rfl, hb9⟩)
  go_ret
  exact ⟨rfl, (by with_reducible (repeat (first | exact Gr.refl _ | assumption | apply Gr.alloc | apply Gr.drew | apply Gr.drewN | refine Gr.setCell ?_ (by first | (simp; done) | (simp; omega)) _ | refine Gr.trans ?_ (by assumption))))⟩

namespace LimitOpens
set_option maxRecDepth 100000 in
theorem lifted (os : Os) (started : os.Started) (H : Type) (enc : TypeId × Value → H) :
    ReturnsInHanded {} Try.checked os 5 .any (Rows.limitOpensSpec.pre6 enc Try.prog Try.f5 Rows.limitOpensRow.domain false) (Rows.limitOpensSpec.post enc Try.prog Try.f5 false true false false) := by
  refine law_lifted (C := Try.checked) (tb := 4) own started (by kernel_rfl) Try.func5 laidOut rfl rfl Try.underlying4 (by kernel_rfl) ?_
    (ChangeSpec.witness6 (enc := enc) (C := Try.checked) false ⟨#[], #[.agg #[.int .i64 0, .int .i64 0, .int .i64 0, .int .i64 0, .int .i64 0], .agg #[.int .i64 0, .int .i64 0, .int .i64 0, .int .i64 0, .int .i64 0]], []⟩ 8 (by kernel_rfl) (by kernel_rfl) (by kernel_rfl) (by kernel_rfl)) ?_
  · intro ds hl
    match ds, hl with
    | [_, _], _ => rfl
  · intro W base args ds ps hval0 hA0 hlt
    have hval : ∀ (j : Nat) t v, Try.f5.params[j]? = some t → args[j]? = some v → Value.okWide Try.prog W .any base t v := hval0
    have hA : DataW.TrodAll enc Try.prog W 0 (fun _ => true) true Try.f5.params.toList args.toList ds ps := hA0
    rw [Try.params5] at hA hval
    obtain ⟨v0, v1, d0, d1, p0, p1, rfl, rfl, rfl, h0, h1⟩ := trodAll_two hA
    obtain ⟨d, n, b, a, x, rfl, wL⟩ := open_int5 Try.underlying23 Try.underlying3 (by kernel_rfl) (hval 0 23 v0 rfl rfl) h0
    obtain ⟨d', n', b', a', x', rfl, wU⟩ := open_int5 Try.underlying24 Try.underlying3 (by kernel_rfl) (hval 1 24 v1 rfl rfl) h1
    exact limitOpens_any d n b a x d' n' b' a' x' (wf_bounds wU.1).2 W

theorem proved : Rows.LimitOpensSaid :=
  OpenClaim.holds_of_wide 5 Try.f5 rfl rfl rfl rfl rfl rfl rfl ⟨rfl, rfl, rfl, rfl, rfl⟩ rfl rfl rfl rfl rfl (by kernel_rfl) Try.func5 (by kernel_rfl)
    (of_decide_eq_true (by kernel_rfl)) (by unfold Func.isWrapper; first | (rw [if_pos (by decide +kernel)]; kernel_rfl) | (rw [if_neg (by decide +kernel)]; exact ⟨rfl, rfl⟩))
    (fun os started H enc _ => lifted os started H enc)
end LimitOpens
end Go.Proofs.Ytlfhiolngpoamaa
