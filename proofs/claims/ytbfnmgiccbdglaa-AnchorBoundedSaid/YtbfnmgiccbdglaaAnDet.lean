/- Drawn regions whose operations have values that are known beforehand: each is walked once. -/
import Derived.Test.YtbfnmgiccbdglaaAnMap
import Derived.Test.YtbfnmgiccbdglaaInv
namespace Go.Proofs.Ytbfnmgiccbdglaa
open Go.ChangeShapes Go.WideShapes Go.ChangeAt Go.RowKit

/-- vs: operation, slot, value; us: slots that the region leaves alone; Wd: the world, by what has been carried out. -/
structure Det (vs : List (Nat × Nat × Value)) (us : List (Nat × Value)) (Wd : (Nat → Bool) → (Nat → Value) → World → Prop) (B : Nat → Bool) (u : Nat → Value) (w : World) : Prop where
  val : ∀ e ∈ vs, B e.1 = true → u e.2.1 = e.2.2
  old : ∀ e ∈ us, u e.1 = e.2
  wd : Wd B u w
theorem Det.start {vs : List (Nat × Nat × Value)} {us : List (Nat × Value)} {Wd : (Nat → Bool) → (Nat → Value) → World → Prop} {u : Nat → Value} {w : World} (hu : ∀ e ∈ us, u e.1 = e.2) (hw : Wd (fun _ => false) u w) : Det vs us Wd (fun _ => false) u w :=
  ⟨fun _ _ h => (by cases h), hu, hw⟩
theorem Det.step {vs : List (Nat × Nat × Value)} {us : List (Nat × Value)} {Wd : (Nat → Bool) → (Nat → Value) → World → Prop} {B : Nat → Bool} {u : Nat → Value} {w w' : World} (h : Det vs us Wd B u w) {i d : Nat} {v : Value}
    (hv : ∀ e ∈ vs, (e.1 = i ∧ e.2.1 = d ∧ e.2.2 = v) ∨ (e.1 ≠ i ∧ e.2.1 ≠ d)) (hu : ∀ e ∈ us, e.1 ≠ d) (hw : Wd (upB B i) (upV u d v) w') : Det vs us Wd (upB B i) (upV u d v) w' := by
  refine ⟨fun e he hb => ?_, fun e he => ?_, hw⟩
  · rcases hv e he with ⟨_, h2, h3⟩ | ⟨h1, h2⟩
    · unfold upV; rw [if_pos h2, h3]
    · unfold upV; rw [if_neg h2]
      refine h.val e he ?_
      unfold upB at hb
      rwa [if_neg h1] at hb
  · unfold upV; rw [if_neg (hu e he)]
    exact h.old e he
theorem Det.none {vs : List (Nat × Nat × Value)} {us : List (Nat × Value)} {Wd : (Nat → Bool) → (Nat → Value) → World → Prop} {B : Nat → Bool} {u : Nat → Value} {w w' : World} (h : Det vs us Wd B u w) {i : Nat}
    (hv : ∀ e ∈ vs, e.1 ≠ i) (hw : Wd (upB B i) u w') : Det vs us Wd (upB B i) u w' := by
  refine ⟨fun e he hb => h.val e he ?_, h.old, hw⟩
  unfold upB at hb
  rwa [if_neg (hv e he)] at hb
theorem Det.get {vs : List (Nat × Nat × Value)} {us : List (Nat × Value)} {Wd : (Nat → Bool) → (Nat → Value) → World → Prop} {B : Nat → Bool} {u : Nat → Value} {w : World} (h : Det vs us Wd B u w) {i d : Nat} {v : Value} (he : (i, d, v) ∈ vs) (hb : B i = true) : u d = v := h.val _ he hb
theorem Det.had {vs : List (Nat × Nat × Value)} {us : List (Nat × Value)} {Wd : (Nat → Bool) → (Nat → Value) → World → Prop} {B : Nat → Bool} {u : Nat → Value} {w : World} (h : Det vs us Wd B u w) {d : Nat} {v : Value} (he : (d, v) ∈ us) : u d = v := h.old _ he
theorem close_none {a₀ a : Act} {ss : List Nat} (hfr : FrameOf a₀ a ss) (v : Value) {F : (Nat → Value) → Prop} (h : F (slot a)) : FrameOf a₀ (a.put none v) ss ∧ F (slot (a.put none v)) := ⟨hfr, h⟩
end Go.Proofs.Ytbfnmgiccbdglaa
