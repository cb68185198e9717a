/- The example of the chapter: 'awake' returns true. -/
import Derived.Test.YtlfhiolngpoamaaLimFns
namespace Go.Proofs.Ytlfhiolngpoamaa
open Go.RowKit

set_option maxHeartbeats 1000000 in
theorem awake_any (w : World) : Calls Try.prog 13 #[] w (RB true w) := by
  go_enter Try.func13, Try.ntmps13
  go_wp2_with fail
  refine (aliasP_c 1 1 1 1 5 0 0 0 0 0 6 _ (by decide) (by decide) (by decide) (by decide)).mono ?_
  rintro e w1 ⟨rfl, hb1⟩
  obtain ⟨hc1, hf1, hs1⟩ := Gr.cells hb1
  simp at hs1
  have l1 : w.heap.size < w1.heap.size := by omega
  go_wp2_with fail
  refine (aliasP_d 1 1 1 1 5 0 0 0 0 0 5 _ (by decide) (by decide) (by decide) (by decide)).mono ?_
  rintro e w2 ⟨rfl, hb2⟩
  obtain ⟨hc2, hf2, hs2⟩ := Gr.cells hb2
  simp at hs2
  have l2 : w.heap.size < w2.heap.size := by omega
  have l3 : w1.heap.size < w2.heap.size := by omega
  go_wp2_with fail
  refine (aliasP_b 1 1 1 1 5 0 0 0 1 5 0 _ (by decide) (by decide) (by decide)).mono ?_
  rintro e w3 ⟨rfl, hb3⟩
  obtain ⟨hc3, hf3, hs3⟩ := Gr.cells hb3
  simp at hs3
  have l4 : w.heap.size < w3.heap.size := by omega
  have l5 : w1.heap.size < w3.heap.size := by omega
  have l6 : w2.heap.size < w3.heap.size := by omega
  go_wp2_with fail
  go_ret
  exact ⟨rfl, (by with_reducible (repeat (first | exact Gr.refl _ | assumption | apply Gr.alloc | apply Gr.drew | apply Gr.drewN | refine Gr.setCell ?_ (by first | (simp; done) | (simp; omega)) _ | refine Gr.trans ?_ (by assumption))))⟩
end Go.Proofs.Ytlfhiolngpoamaa
