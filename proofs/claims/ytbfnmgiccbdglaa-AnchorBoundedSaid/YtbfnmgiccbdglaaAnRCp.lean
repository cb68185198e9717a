/- Regions that store a state and a node. -/
import Derived.Test.YtbfnmgiccbdglaaAnRRep
namespace Go.Proofs.Ytbfnmgiccbdglaa
open Go.ChangeShapes Go.WideShapes Go.ChangeAt Go.RowKit

theorem upB_at {B : Nat → Bool} {i : Nat} : upB B i i = true := by unfold upB; rw [if_pos rfl]
theorem upB_ne {B : Nat → Bool} {i k : Nat} (h : k ≠ i) : upB B i k = B k := by unfold upB; rw [if_neg h]
structure CP (w W0 : World) (p6 p7 : Nat) (c6 z6 c7 z7 : Array Value) (i6 i7 : Nat) (B : Nat → Bool) (W : World) : Prop where
  gr : Gr w W
  off : Off [p6, p7] W0 W
  b6 : W.heap[p6]? = some (.cells (if B i6 = true then c6 else z6) 68 (0, 0))
  b7 : W.heap[p7]? = some (.cells (if B i7 = true then c7 else z7) 24 (0, 0))
section
variable {w W0 W : World} {p6 p7 : Nat} {c6 z6 c7 z7 : Array Value} {i6 i7 : Nat} {B : Nat → Bool}
theorem CP.start (hg : Gr w W) (ho : Off [p6, p7] W0 W) (h6 : W.heap[p6]? = some (.cells z6 68 (0, 0))) (h7 : W.heap[p7]? = some (.cells z7 24 (0, 0))) : CP w W0 p6 p7 c6 z6 c7 z7 i6 i7 (fun _ => false) W := ⟨hg, ho, h6, h7⟩
theorem CP.skip (h : CP w W0 p6 p7 c6 z6 c7 z7 i6 i7 B W) {i : Nat} (h6 : i6 ≠ i) (h7 : i7 ≠ i) : CP w W0 p6 p7 c6 z6 c7 z7 i6 i7 (upB B i) W := ⟨h.gr, h.off, by rw [upB_ne h6]; exact h.b6, by rw [upB_ne h7]; exact h.b7⟩
theorem CP.s6 (h : CP w W0 p6 p7 c6 z6 c7 z7 i6 i7 B W) (hB : B i6 = false) (hi : i7 ≠ i6) (hp : p6 ≠ p7) (hw : w.heap.size ≤ p6) {a0 a1 a2 a3 a4 a5 a6 a7 a8 a9 a10 a11 a12 ba0 ba1 ba2 ba3 ba4 ba5 ba6 ba7 ba8 ba9 ba10 ba11 ba12 : Value} (hc : c6 = #[a0, a1, a2, a3, a4, a5, a6, a7, a8, a9, a10, a11, a12]) (hz : z6 = #[ba0, ba1, ba2, ba3, ba4, ba5, ba6, ba7, ba8, ba9, ba10, ba11, ba12]) :
    CP w W0 p6 p7 c6 z6 c7 z7 i6 i7 (upB B i6) (((((((((((((W.setCell ⟨p6, 0, none⟩ (a0)).setCell ⟨p6, 1, none⟩ (a1)).setCell ⟨p6, 2, none⟩ (a2)).setCell ⟨p6, 3, none⟩ (a3)).setCell ⟨p6, 4, none⟩ (a4)).setCell ⟨p6, 5, none⟩ (a5)).setCell ⟨p6, 6, none⟩ (a6)).setCell ⟨p6, 7, none⟩ (a7)).setCell ⟨p6, 8, none⟩ (a8)).setCell ⟨p6, 9, none⟩ (a9)).setCell ⟨p6, 10, none⟩ (a10)).setCell ⟨p6, 11, none⟩ (a11)).setCell ⟨p6, 12, none⟩ (a12)) := by
  have h6 := h.b6
  rw [if_neg (by rw [hB]; decide), hz] at h6
  refine ⟨(Gr.setCell (Gr.setCell (Gr.setCell (Gr.setCell (Gr.setCell (Gr.setCell (Gr.setCell (Gr.setCell (Gr.setCell (Gr.setCell (Gr.setCell (Gr.setCell (Gr.setCell h.gr hw _) hw _) hw _) hw _) hw _) hw _) hw _) hw _) hw _) hw _) hw _) hw _) hw _), (Off.set (Off.set (Off.set (Off.set (Off.set (Off.set (Off.set (Off.set (Off.set (Off.set (Off.set (Off.set (Off.set h.off (by simp) _) (by simp) _) (by simp) _) (by simp) _) (by simp) _) (by simp) _) (by simp) _) (by simp) _) (by simp) _) (by simp) _) (by simp) _) (by simp) _) (by simp) _), ?_, ?_⟩
  · rw [upB_at, if_pos rfl, hc]
    exact state_set h6 _ _ _ _ _ _ _ _ _ _ _ _ _
  · rw [upB_ne hi]
    have hn : p7 ≠ p6 := fun e => hp e.symm
    have e : (((((((((((((W.setCell ⟨p6, 0, none⟩ (a0)).setCell ⟨p6, 1, none⟩ (a1)).setCell ⟨p6, 2, none⟩ (a2)).setCell ⟨p6, 3, none⟩ (a3)).setCell ⟨p6, 4, none⟩ (a4)).setCell ⟨p6, 5, none⟩ (a5)).setCell ⟨p6, 6, none⟩ (a6)).setCell ⟨p6, 7, none⟩ (a7)).setCell ⟨p6, 8, none⟩ (a8)).setCell ⟨p6, 9, none⟩ (a9)).setCell ⟨p6, 10, none⟩ (a10)).setCell ⟨p6, 11, none⟩ (a11)).setCell ⟨p6, 12, none⟩ (a12)).heap[p7]? = W.heap[p7]? := by
      repeat rw [heap_set_other hn]
    rw [e]
    exact h.b7
theorem CP.s7 (h : CP w W0 p6 p7 c6 z6 c7 z7 i6 i7 B W) (hB : B i7 = false) (hi : i6 ≠ i7) (hp : p6 ≠ p7) (hw : w.heap.size ≤ p7) {a0 a1 a2 a3 a4 ba0 ba1 ba2 ba3 ba4 : Value} (hc : c7 = #[a0, a1, a2, a3, a4]) (hz : z7 = #[ba0, ba1, ba2, ba3, ba4]) :
    CP w W0 p6 p7 c6 z6 c7 z7 i6 i7 (upB B i7) (((((W.setCell ⟨p7, 0, none⟩ (a0)).setCell ⟨p7, 1, none⟩ (a1)).setCell ⟨p7, 2, none⟩ (a2)).setCell ⟨p7, 3, none⟩ (a3)).setCell ⟨p7, 4, none⟩ (a4)) := by
  have h7 := h.b7
  rw [if_neg (by rw [hB]; decide), hz] at h7
  refine ⟨(Gr.setCell (Gr.setCell (Gr.setCell (Gr.setCell (Gr.setCell h.gr hw _) hw _) hw _) hw _) hw _), (Off.set (Off.set (Off.set (Off.set (Off.set h.off (by simp) _) (by simp) _) (by simp) _) (by simp) _) (by simp) _), ?_, ?_⟩
  · rw [upB_ne hi]
    have e : (((((W.setCell ⟨p7, 0, none⟩ (a0)).setCell ⟨p7, 1, none⟩ (a1)).setCell ⟨p7, 2, none⟩ (a2)).setCell ⟨p7, 3, none⟩ (a3)).setCell ⟨p7, 4, none⟩ (a4)).heap[p6]? = W.heap[p6]? := by
      repeat rw [heap_set_other hp]
    rw [e]
    exact h.b6
  · rw [upB_at, if_pos rfl, hc]
    exact five_setR h7 _ _ _ _ _
end
end Go.Proofs.Ytbfnmgiccbdglaa
