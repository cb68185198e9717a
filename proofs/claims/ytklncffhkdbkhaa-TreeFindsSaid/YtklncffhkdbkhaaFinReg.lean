/- The region of TreeFinds in which the span of a kid is asked for: in whatever order Go carries it out. -/
import Derived.Test.YtklncffhkdbkhaaTrLives
import Derived.Test.YtklncffhkdbkhaaTrFindR
import Derived.Test.YtklncffhkdbkhaaApp2
namespace Go.Proofs.Ytklncffhkdbkhaa
open Go.ChangeShapes Go.WideShapes Go.ChangeAt Go.RowKit

theorem ints_own {W w : World} {B n : Nat} {A A' : Option Addr} {c : Nat} {L : List Int} {j : Int} (h : w.ownsRow B 3 1 (.slice A' (0 + n + 1) c) (0 + n + 1) ([] ++ L.map (Value.int .i64) ++ [.int .i64 j])) (hz : IntsAt .i64 W A n L) (hj : (Lit.int .i64 j).wf = true) : IntsAt .i64 w A' (0 + n + 1) (L ++ [j]) := by
  have ho : OwnN w B (.slice A' (0 + n + 1) c) (0 + n + 1) (L ++ [j]) := by
    unfold OwnN
    simpa using h
  obtain ⟨A2, c2, hv, _, _, hi⟩ := IntsAt.of_ownw ho (fun z hz' => by
    rcases List.mem_append.1 hz' with hz' | hz'
    · exact hz.2.1 z hz'
    · rw [List.mem_singleton] at hz'; rw [hz']; exact hj)
  cases hv
  exact hi
structure FF (wr : World) (b0 : Nat) (AG : Value) (A2 : Option Addr) (n3 c2 : Nat) (L : List Int) (j : Nat) (g e : Int) (B : Nat → Bool) (u : Nat → Value) (w : World) : Prop where
  gr : Gr wr w
  u2 : u 2 = .pointer (some ⟨b0, 0, none⟩)
  u5 : u 5 = .slice A2 n3 c2
  u13 : u 13 = .int .i64 j
  f0 : B 0 = true → u 82 = AG
  f1 : B 1 = true → B 3 = false → w.ownsRow wr.heap.size 3 1 (u 83) 0 []
  f2 : B 2 = true → u 84 = .slice A2 n3 c2
  f3 : B 3 = true → B 6 = false → w.ownsRow wr.heap.size 3 1 (u 85) (0 + n3) ([] ++ L.map (Value.int .i64))
  f4 : B 4 = true → u 86 = .int .i64 j
  f5 : B 5 = true → B 6 = false → ∃ b, u 87 = .slice (some ⟨b, 0, none⟩) 1 1 ∧ b < w.heap.size ∧ w.heap[b]? = some (.cells #[.int .i64 (j : Int)] 3 (0, 0)) ∧ (B 1 = true → B 3 = false → (u 83).ownBlock ≠ some b) ∧ (B 3 = true → (u 85).ownBlock ≠ some b)
  c6 : B 6 = true → B 3 = true ∧ B 5 = true
  f6 : B 6 = true → B 7 = false → ∃ A c, u 88 = .slice A (n3 + 1) c ∧ IntsAt .i64 w A (n3 + 1) (L ++ [(j : Int)])
  c7 : B 7 = true → B 6 = true
  f7 : B 7 = true → u 89 = .tuple #[.agg #[.int .i64 g, .int .i64 e], .int .i64 0]
  f8 : B 8 = true → u 81 = .tuple #[.agg #[.int .i64 g, .int .i64 e], .int .i64 0]
  f9 : B 9 = true → u 90 = .agg #[.int .i64 g, .int .i64 e]
  f10 : B 10 = true → u 91 = .int .i64 0
  f11 : B 11 = true → ∃ b, u 14 = .pointer (some ⟨b, 0, none⟩) ∧ wr.heap.size ≤ b ∧ (B 12 = false → SBox w b 0 0) ∧ (B 12 = true → SBox w b g e)
  c12 : B 12 = true → B 11 = true ∧ B 7 = true
  f13 : B 13 = true → u 15 = .int .i64 0
section
variable {wr w : World} {b0 : Nat} {AG : Value} {A2 : Option Addr} {n3 c2 : Nat} {L : List Int} {j : Nat} {g e : Int} {B : Nat → Bool} {u : Nat → Value}
theorem FF.keep {w' : World} (h : FF wr b0 AG A2 n3 c2 L j g e B u w) (hg : Gr w w') : FF wr b0 AG A2 n3 c2 L j g e B u w' :=
  { gr := h.gr.trans hg, u2 := h.u2, u5 := h.u5, u13 := h.u13, f0 := h.f0,
    f1 := fun h1 h3 => own_same (h.f1 h1 h3) (fun k hk => hg.block k ((h.f1 h1 h3).lt k hk).2), f2 := h.f2,
    f3 := fun h3 h6 => own_same (h.f3 h3 h6) (fun k hk => hg.block k ((h.f3 h3 h6).lt k hk).2), f4 := h.f4,
    f5 := fun h5 h6 => by
      obtain ⟨b, q1, q2, q3, q4, q5⟩ := h.f5 h5 h6
      exact ⟨b, q1, Gr.lt hg q2, (hg.block b q2).trans q3, q4, q5⟩
    c6 := h.c6,
    f6 := fun h6 h7 => by
      obtain ⟨A, c, q1, q2⟩ := h.f6 h6 h7
      exact ⟨A, c, q1, q2.keep hg⟩
    c7 := h.c7, f7 := h.f7, f8 := h.f8, f9 := h.f9, f10 := h.f10,
    f11 := fun h11 => by
      obtain ⟨b, q1, q2, q3, q4⟩ := h.f11 h11
      exact ⟨b, q1, q2, fun h => (q3 h).gr hg, fun h => (q4 h).gr hg⟩
    c12 := h.c12, f13 := h.f13 }
theorem FF.s0 (h : FF wr b0 AG A2 n3 c2 L j g e B u w) : FF wr b0 AG A2 n3 c2 L j g e (upB B 0) (upV u 82 (AG)) w :=
  { gr := h.gr,
    u2 := by simpa [upB, upV] using h.u2,
    u5 := by simpa [upB, upV] using h.u5,
    u13 := by simpa [upB, upV] using h.u13,
    f0 := by simp [upB, upV],
    f1 := by simpa [upB, upV] using h.f1,
    f2 := by simpa [upB, upV] using h.f2,
    f3 := by simpa [upB, upV] using h.f3,
    f4 := by simpa [upB, upV] using h.f4,
    f5 := by simpa [upB, upV] using h.f5,
    c6 := by simpa [upB, upV] using h.c6,
    f6 := by simpa [upB, upV] using h.f6,
    c7 := by simpa [upB, upV] using h.c7,
    f7 := by simpa [upB, upV] using h.f7,
    f8 := by simpa [upB, upV] using h.f8,
    f9 := by simpa [upB, upV] using h.f9,
    f10 := by simpa [upB, upV] using h.f10,
    f11 := by simpa [upB, upV] using h.f11,
    c12 := by simpa [upB, upV] using h.c12,
    f13 := by simpa [upB, upV] using h.f13 }
theorem FF.s2 (h : FF wr b0 AG A2 n3 c2 L j g e B u w) : FF wr b0 AG A2 n3 c2 L j g e (upB B 2) (upV u 84 (.slice A2 n3 c2)) w :=
  { gr := h.gr,
    u2 := by simpa [upB, upV] using h.u2,
    u5 := by simpa [upB, upV] using h.u5,
    u13 := by simpa [upB, upV] using h.u13,
    f0 := by simpa [upB, upV] using h.f0,
    f1 := by simpa [upB, upV] using h.f1,
    f2 := by simp [upB, upV],
    f3 := by simpa [upB, upV] using h.f3,
    f4 := by simpa [upB, upV] using h.f4,
    f5 := by simpa [upB, upV] using h.f5,
    c6 := by simpa [upB, upV] using h.c6,
    f6 := by simpa [upB, upV] using h.f6,
    c7 := by simpa [upB, upV] using h.c7,
    f7 := by simpa [upB, upV] using h.f7,
    f8 := by simpa [upB, upV] using h.f8,
    f9 := by simpa [upB, upV] using h.f9,
    f10 := by simpa [upB, upV] using h.f10,
    f11 := by simpa [upB, upV] using h.f11,
    c12 := by simpa [upB, upV] using h.c12,
    f13 := by simpa [upB, upV] using h.f13 }
theorem FF.s4 (h : FF wr b0 AG A2 n3 c2 L j g e B u w) : FF wr b0 AG A2 n3 c2 L j g e (upB B 4) (upV u 86 (.int .i64 j)) w :=
  { gr := h.gr,
    u2 := by simpa [upB, upV] using h.u2,
    u5 := by simpa [upB, upV] using h.u5,
    u13 := by simpa [upB, upV] using h.u13,
    f0 := by simpa [upB, upV] using h.f0,
    f1 := by simpa [upB, upV] using h.f1,
    f2 := by simpa [upB, upV] using h.f2,
    f3 := by simpa [upB, upV] using h.f3,
    f4 := by simp [upB, upV],
    f5 := by simpa [upB, upV] using h.f5,
    c6 := by simpa [upB, upV] using h.c6,
    f6 := by simpa [upB, upV] using h.f6,
    c7 := by simpa [upB, upV] using h.c7,
    f7 := by simpa [upB, upV] using h.f7,
    f8 := by simpa [upB, upV] using h.f8,
    f9 := by simpa [upB, upV] using h.f9,
    f10 := by simpa [upB, upV] using h.f10,
    f11 := by simpa [upB, upV] using h.f11,
    c12 := by simpa [upB, upV] using h.c12,
    f13 := by simpa [upB, upV] using h.f13 }
theorem FF.s8 (h : FF wr b0 AG A2 n3 c2 L j g e B u w) : FF wr b0 AG A2 n3 c2 L j g e (upB B 8) (upV u 81 (.tuple #[.agg #[.int .i64 g, .int .i64 e], .int .i64 0])) w :=
  { gr := h.gr,
    u2 := by simpa [upB, upV] using h.u2,
    u5 := by simpa [upB, upV] using h.u5,
    u13 := by simpa [upB, upV] using h.u13,
    f0 := by simpa [upB, upV] using h.f0,
    f1 := by simpa [upB, upV] using h.f1,
    f2 := by simpa [upB, upV] using h.f2,
    f3 := by simpa [upB, upV] using h.f3,
    f4 := by simpa [upB, upV] using h.f4,
    f5 := by simpa [upB, upV] using h.f5,
    c6 := by simpa [upB, upV] using h.c6,
    f6 := by simpa [upB, upV] using h.f6,
    c7 := by simpa [upB, upV] using h.c7,
    f7 := by simpa [upB, upV] using h.f7,
    f8 := by simp [upB, upV],
    f9 := by simpa [upB, upV] using h.f9,
    f10 := by simpa [upB, upV] using h.f10,
    f11 := by simpa [upB, upV] using h.f11,
    c12 := by simpa [upB, upV] using h.c12,
    f13 := by simpa [upB, upV] using h.f13 }
theorem FF.s9 (h : FF wr b0 AG A2 n3 c2 L j g e B u w) : FF wr b0 AG A2 n3 c2 L j g e (upB B 9) (upV u 90 (.agg #[.int .i64 g, .int .i64 e])) w :=
  { gr := h.gr,
    u2 := by simpa [upB, upV] using h.u2,
    u5 := by simpa [upB, upV] using h.u5,
    u13 := by simpa [upB, upV] using h.u13,
    f0 := by simpa [upB, upV] using h.f0,
    f1 := by simpa [upB, upV] using h.f1,
    f2 := by simpa [upB, upV] using h.f2,
    f3 := by simpa [upB, upV] using h.f3,
    f4 := by simpa [upB, upV] using h.f4,
    f5 := by simpa [upB, upV] using h.f5,
    c6 := by simpa [upB, upV] using h.c6,
    f6 := by simpa [upB, upV] using h.f6,
    c7 := by simpa [upB, upV] using h.c7,
    f7 := by simpa [upB, upV] using h.f7,
    f8 := by simpa [upB, upV] using h.f8,
    f9 := by simp [upB, upV],
    f10 := by simpa [upB, upV] using h.f10,
    f11 := by simpa [upB, upV] using h.f11,
    c12 := by simpa [upB, upV] using h.c12,
    f13 := by simpa [upB, upV] using h.f13 }
theorem FF.s10 (h : FF wr b0 AG A2 n3 c2 L j g e B u w) : FF wr b0 AG A2 n3 c2 L j g e (upB B 10) (upV u 91 (.int .i64 0)) w :=
  { gr := h.gr,
    u2 := by simpa [upB, upV] using h.u2,
    u5 := by simpa [upB, upV] using h.u5,
    u13 := by simpa [upB, upV] using h.u13,
    f0 := by simpa [upB, upV] using h.f0,
    f1 := by simpa [upB, upV] using h.f1,
    f2 := by simpa [upB, upV] using h.f2,
    f3 := by simpa [upB, upV] using h.f3,
    f4 := by simpa [upB, upV] using h.f4,
    f5 := by simpa [upB, upV] using h.f5,
    c6 := by simpa [upB, upV] using h.c6,
    f6 := by simpa [upB, upV] using h.f6,
    c7 := by simpa [upB, upV] using h.c7,
    f7 := by simpa [upB, upV] using h.f7,
    f8 := by simpa [upB, upV] using h.f8,
    f9 := by simpa [upB, upV] using h.f9,
    f10 := by simp [upB, upV],
    f11 := by simpa [upB, upV] using h.f11,
    c12 := by simpa [upB, upV] using h.c12,
    f13 := by simpa [upB, upV] using h.f13 }
theorem FF.s13 (h : FF wr b0 AG A2 n3 c2 L j g e B u w) : FF wr b0 AG A2 n3 c2 L j g e (upB B 13) (upV u 15 (.int .i64 0)) w :=
  { gr := h.gr,
    u2 := by simpa [upB, upV] using h.u2,
    u5 := by simpa [upB, upV] using h.u5,
    u13 := by simpa [upB, upV] using h.u13,
    f0 := by simpa [upB, upV] using h.f0,
    f1 := by simpa [upB, upV] using h.f1,
    f2 := by simpa [upB, upV] using h.f2,
    f3 := by simpa [upB, upV] using h.f3,
    f4 := by simpa [upB, upV] using h.f4,
    f5 := by simpa [upB, upV] using h.f5,
    c6 := by simpa [upB, upV] using h.c6,
    f6 := by simpa [upB, upV] using h.f6,
    c7 := by simpa [upB, upV] using h.c7,
    f7 := by simpa [upB, upV] using h.f7,
    f8 := by simpa [upB, upV] using h.f8,
    f9 := by simpa [upB, upV] using h.f9,
    f10 := by simpa [upB, upV] using h.f10,
    f11 := by simpa [upB, upV] using h.f11,
    c12 := by simpa [upB, upV] using h.c12,
    f13 := by simp [upB, upV] }
theorem FF.s1 (h : FF wr b0 AG A2 n3 c2 L j g e B u w) : FF wr b0 AG A2 n3 c2 L j g e (upB B 1) (upV u 83 (.slice (some ⟨w.heap.size, 0, none⟩) 0 0)) (w.alloc (.cells #[] 3)) :=
  { gr := (h.keep ((Gr.refl w).alloc (.cells #[] 3))).gr,
    u2 := by simpa [upB, upV] using (h.keep ((Gr.refl w).alloc (.cells #[] 3))).u2,
    u5 := by simpa [upB, upV] using (h.keep ((Gr.refl w).alloc (.cells #[] 3))).u5,
    u13 := by simpa [upB, upV] using (h.keep ((Gr.refl w).alloc (.cells #[] 3))).u13,
    f0 := by simpa [upB, upV] using (h.keep ((Gr.refl w).alloc (.cells #[] 3))).f0,
    f1 := fun _ _ => by simpa [upV] using own_fresh (n := 0) (cap := 0) (size := 1) (cs := []) (heap_alloc_new w _) (Below.size h.gr) rfl (Nat.le_refl _) rfl (by decide),
    f2 := by simpa [upB, upV] using (h.keep ((Gr.refl w).alloc (.cells #[] 3))).f2,
    f3 := by simpa [upB, upV] using (h.keep ((Gr.refl w).alloc (.cells #[] 3))).f3,
    f4 := by simpa [upB, upV] using (h.keep ((Gr.refl w).alloc (.cells #[] 3))).f4,
    f5 := fun h5 h6 => by
      obtain ⟨b, q1, q2, q3, _, q5⟩ := h.f5 (by simpa [upB] using h5) (by simpa [upB] using h6)
      refine ⟨b, by simpa [upV] using q1, by simp; omega, (heapOld q2).trans q3, fun _ _ => by simp [upV, Value.ownBlock]; omega, fun h3 => by simpa [upV] using q5 (by simpa [upB] using h3)⟩,
    c6 := by simpa [upB, upV] using (h.keep ((Gr.refl w).alloc (.cells #[] 3))).c6,
    f6 := by simpa [upB, upV] using (h.keep ((Gr.refl w).alloc (.cells #[] 3))).f6,
    c7 := by simpa [upB, upV] using (h.keep ((Gr.refl w).alloc (.cells #[] 3))).c7,
    f7 := by simpa [upB, upV] using (h.keep ((Gr.refl w).alloc (.cells #[] 3))).f7,
    f8 := by simpa [upB, upV] using (h.keep ((Gr.refl w).alloc (.cells #[] 3))).f8,
    f9 := by simpa [upB, upV] using (h.keep ((Gr.refl w).alloc (.cells #[] 3))).f9,
    f10 := by simpa [upB, upV] using (h.keep ((Gr.refl w).alloc (.cells #[] 3))).f10,
    f11 := by simpa [upB, upV] using (h.keep ((Gr.refl w).alloc (.cells #[] 3))).f11,
    c12 := by simpa [upB, upV] using (h.keep ((Gr.refl w).alloc (.cells #[] 3))).c12,
    f13 := by simpa [upB, upV] using (h.keep ((Gr.refl w).alloc (.cells #[] 3))).f13 }
theorem FF.s5 (h : FF wr b0 AG A2 n3 c2 L j g e B u w) (h5 : B 5 = false) : FF wr b0 AG A2 n3 c2 L j g e (upB B 5) (upV u 87 (.slice (some ⟨w.heap.size, 0, none⟩) 1 1)) (w.alloc (.cells #[.int .i64 (j : Int)] 3)) :=
  { gr := (h.keep ((Gr.refl w).alloc (.cells #[.int .i64 (j : Int)] 3))).gr,
    u2 := by simpa [upB, upV] using (h.keep ((Gr.refl w).alloc (.cells #[.int .i64 (j : Int)] 3))).u2,
    u5 := by simpa [upB, upV] using (h.keep ((Gr.refl w).alloc (.cells #[.int .i64 (j : Int)] 3))).u5,
    u13 := by simpa [upB, upV] using (h.keep ((Gr.refl w).alloc (.cells #[.int .i64 (j : Int)] 3))).u13,
    f0 := by simpa [upB, upV] using (h.keep ((Gr.refl w).alloc (.cells #[.int .i64 (j : Int)] 3))).f0,
    f1 := by simpa [upB, upV] using (h.keep ((Gr.refl w).alloc (.cells #[.int .i64 (j : Int)] 3))).f1,
    f2 := by simpa [upB, upV] using (h.keep ((Gr.refl w).alloc (.cells #[.int .i64 (j : Int)] 3))).f2,
    f3 := by simpa [upB, upV] using (h.keep ((Gr.refl w).alloc (.cells #[.int .i64 (j : Int)] 3))).f3,
    f4 := by simpa [upB, upV] using (h.keep ((Gr.refl w).alloc (.cells #[.int .i64 (j : Int)] 3))).f4,
    f5 := fun _ _ => by
      have h6 : B 6 = false := by
        cases hx : B 6 with
        | false => rfl
        | true => rw [(h.c6 hx).2] at h5; cases h5
      refine ⟨w.heap.size, by simp [upV], by simp, heap_alloc_new w _, fun h1 h3 => ?_, fun h3 => ?_⟩
      · have := h.f1 (by simpa [upB] using h1) (by simpa [upB] using h3)
        simp only [upV]
        exact fun he => absurd (this.lt _ he).2 (Nat.lt_irrefl _)
      · have := h.f3 (by simpa [upB] using h3) h6
        simp only [upV]
        exact fun he => absurd (this.lt _ he).2 (Nat.lt_irrefl _),
    c6 := fun h6 => ⟨by simpa [upB] using (h.c6 (by simpa [upB] using h6)).1, by simp [upB]⟩,
    f6 := by simpa [upB, upV] using (h.keep ((Gr.refl w).alloc (.cells #[.int .i64 (j : Int)] 3))).f6,
    c7 := by simpa [upB, upV] using (h.keep ((Gr.refl w).alloc (.cells #[.int .i64 (j : Int)] 3))).c7,
    f7 := by simpa [upB, upV] using (h.keep ((Gr.refl w).alloc (.cells #[.int .i64 (j : Int)] 3))).f7,
    f8 := by simpa [upB, upV] using (h.keep ((Gr.refl w).alloc (.cells #[.int .i64 (j : Int)] 3))).f8,
    f9 := by simpa [upB, upV] using (h.keep ((Gr.refl w).alloc (.cells #[.int .i64 (j : Int)] 3))).f9,
    f10 := by simpa [upB, upV] using (h.keep ((Gr.refl w).alloc (.cells #[.int .i64 (j : Int)] 3))).f10,
    f11 := by simpa [upB, upV] using (h.keep ((Gr.refl w).alloc (.cells #[.int .i64 (j : Int)] 3))).f11,
    c12 := by simpa [upB, upV] using (h.keep ((Gr.refl w).alloc (.cells #[.int .i64 (j : Int)] 3))).c12,
    f13 := by simpa [upB, upV] using (h.keep ((Gr.refl w).alloc (.cells #[.int .i64 (j : Int)] 3))).f13 }
theorem FF.s7 (h : FF wr b0 AG A2 n3 c2 L j g e B u w) {w' : World} (hg : Gr w w') (h6 : B 6 = true) : FF wr b0 AG A2 n3 c2 L j g e (upB B 7) (upV u 89 (.tuple #[.agg #[.int .i64 g, .int .i64 e], .int .i64 0])) w' :=
  { gr := (h.keep hg).gr,
    u2 := by simpa [upB, upV] using (h.keep hg).u2,
    u5 := by simpa [upB, upV] using (h.keep hg).u5,
    u13 := by simpa [upB, upV] using (h.keep hg).u13,
    f0 := by simpa [upB, upV] using (h.keep hg).f0,
    f1 := by simpa [upB, upV] using (h.keep hg).f1,
    f2 := by simpa [upB, upV] using (h.keep hg).f2,
    f3 := by simpa [upB, upV] using (h.keep hg).f3,
    f4 := by simpa [upB, upV] using (h.keep hg).f4,
    f5 := by simpa [upB, upV] using (h.keep hg).f5,
    c6 := by simpa [upB, upV] using (h.keep hg).c6,
    f6 := fun _ h7 => by simp [upB] at h7,
    c7 := fun _ => by simpa [upB] using h6,
    f7 := fun _ => by simp [upV],
    f8 := by simpa [upB, upV] using (h.keep hg).f8,
    f9 := by simpa [upB, upV] using (h.keep hg).f9,
    f10 := by simpa [upB, upV] using (h.keep hg).f10,
    f11 := by simpa [upB, upV] using (h.keep hg).f11,
    c12 := fun h12 => ⟨by simpa [upB] using (h.c12 (by simpa [upB] using h12)).1, by simp [upB]⟩,
    f13 := by simpa [upB, upV] using (h.keep hg).f13 }
theorem FF.s11 (h : FF wr b0 AG A2 n3 c2 L j g e B u w) (h11 : B 11 = false) : FF wr b0 AG A2 n3 c2 L j g e (upB B 11) (upV u 14 (.pointer (some ⟨w.heap.size, 0, none⟩))) (w.alloc (.cells #[.int .i64 0, .int .i64 0] 40)) :=
  { gr := (h.keep ((Gr.refl w).alloc (.cells #[.int .i64 0, .int .i64 0] 40))).gr,
    u2 := by simpa [upB, upV] using (h.keep ((Gr.refl w).alloc (.cells #[.int .i64 0, .int .i64 0] 40))).u2,
    u5 := by simpa [upB, upV] using (h.keep ((Gr.refl w).alloc (.cells #[.int .i64 0, .int .i64 0] 40))).u5,
    u13 := by simpa [upB, upV] using (h.keep ((Gr.refl w).alloc (.cells #[.int .i64 0, .int .i64 0] 40))).u13,
    f0 := by simpa [upB, upV] using (h.keep ((Gr.refl w).alloc (.cells #[.int .i64 0, .int .i64 0] 40))).f0,
    f1 := by simpa [upB, upV] using (h.keep ((Gr.refl w).alloc (.cells #[.int .i64 0, .int .i64 0] 40))).f1,
    f2 := by simpa [upB, upV] using (h.keep ((Gr.refl w).alloc (.cells #[.int .i64 0, .int .i64 0] 40))).f2,
    f3 := by simpa [upB, upV] using (h.keep ((Gr.refl w).alloc (.cells #[.int .i64 0, .int .i64 0] 40))).f3,
    f4 := by simpa [upB, upV] using (h.keep ((Gr.refl w).alloc (.cells #[.int .i64 0, .int .i64 0] 40))).f4,
    f5 := by simpa [upB, upV] using (h.keep ((Gr.refl w).alloc (.cells #[.int .i64 0, .int .i64 0] 40))).f5,
    c6 := by simpa [upB, upV] using (h.keep ((Gr.refl w).alloc (.cells #[.int .i64 0, .int .i64 0] 40))).c6,
    f6 := by simpa [upB, upV] using (h.keep ((Gr.refl w).alloc (.cells #[.int .i64 0, .int .i64 0] 40))).f6,
    c7 := by simpa [upB, upV] using (h.keep ((Gr.refl w).alloc (.cells #[.int .i64 0, .int .i64 0] 40))).c7,
    f7 := by simpa [upB, upV] using (h.keep ((Gr.refl w).alloc (.cells #[.int .i64 0, .int .i64 0] 40))).f7,
    f8 := by simpa [upB, upV] using (h.keep ((Gr.refl w).alloc (.cells #[.int .i64 0, .int .i64 0] 40))).f8,
    f9 := by simpa [upB, upV] using (h.keep ((Gr.refl w).alloc (.cells #[.int .i64 0, .int .i64 0] 40))).f9,
    f10 := by simpa [upB, upV] using (h.keep ((Gr.refl w).alloc (.cells #[.int .i64 0, .int .i64 0] 40))).f10,
    f11 := fun _ => by
      have h12 : B 12 = false := by
        cases hx : B 12 with
        | false => rfl
        | true => rw [(h.c12 hx).1] at h11; cases h11
      exact ⟨w.heap.size, by simp [upV], Below.size h.gr, fun _ => heap_alloc_new w _, fun hx => by simp [upB, h12] at hx⟩,
    c12 := fun h12 => ⟨by simp [upB], by simpa [upB] using (h.c12 (by simpa [upB] using h12)).2⟩,
    f13 := by simpa [upB, upV] using (h.keep ((Gr.refl w).alloc (.cells #[.int .i64 0, .int .i64 0] 40))).f13 }
theorem FF.s12 (h : FF wr b0 AG A2 n3 c2 L j g e B u w) {b : Nat} (hb : u 14 = .pointer (some ⟨b, 0, none⟩)) (h11 : B 11 = true) (h7 : B 7 = true) (h12 : B 12 = false) : FF wr b0 AG A2 n3 c2 L j g e (upB B 12) u ((w.setCell ⟨b, 0, none⟩ (.int .i64 g)).setCell ⟨b, 1, none⟩ (.int .i64 e)) :=
  { gr := (h.gr.setCell (p := ⟨b, 0, none⟩) (by obtain ⟨b', q1, q2, _⟩ := h.f11 h11; rw [hb] at q1; cases q1; exact q2) _).setCell (p := ⟨b, 1, none⟩) (by obtain ⟨b', q1, q2, _⟩ := h.f11 h11; rw [hb] at q1; cases q1; exact q2) _,
    u2 := by simpa [upB, upV] using h.u2,
    u5 := by simpa [upB, upV] using h.u5,
    u13 := by simpa [upB, upV] using h.u13,
    f0 := by simpa [upB, upV] using h.f0,
    f1 := fun _ h3 => by simp [upB, (h.c6 (h.c7 h7)).1] at h3,
    f2 := by simpa [upB, upV] using h.f2,
    f3 := fun _ h6 => by simp [upB, h.c7 h7] at h6,
    f4 := by simpa [upB, upV] using h.f4,
    f5 := fun _ h6 => by simp [upB, h.c7 h7] at h6,
    c6 := by simpa [upB, upV] using h.c6,
    f6 := fun _ h6 => by simp [upB, h7] at h6,
    c7 := by simpa [upB, upV] using h.c7,
    f7 := by simpa [upB, upV] using h.f7,
    f8 := by simpa [upB, upV] using h.f8,
    f9 := by simpa [upB, upV] using h.f9,
    f10 := by simpa [upB, upV] using h.f10,
    f11 := fun _ => by
      obtain ⟨b', q1, q2, q3, _⟩ := h.f11 h11
      have q1' := q1
      rw [hb] at q1'
      cases q1'
      refine ⟨b, q1, q2, fun hx => by simp [upB] at hx, fun _ => ?_⟩
      have := q3 h12
      unfold SBox at this ⊢
      simp [World.setCell, Array.getElem?_modify, this],
    c12 := fun _ => ⟨by simpa [upB] using h11, by simpa [upB] using h7⟩,
    f13 := by simpa [upB, upV] using h.f13 }
theorem FF.s3 (h : FF wr b0 AG A2 n3 c2 L j g e B u w) {w' : World} {v' : Value} (hown : w'.ownsRow wr.heap.size 3 1 v' (0 + n3) ([] ++ L.map (Value.int .i64))) (hgrow : w.grownBy w' (u 83).ownBlock) (hat : v'.ownBlock = (u 83).ownBlock ∨ v'.ownBlock = some w.heap.size) (h1 : B 1 = true) (h3 : B 3 = false) : FF wr b0 AG A2 n3 c2 L j g e (upB B 3) (upV u 85 (v')) w' :=
  { gr := Gr.grownOwn h.gr hgrow (fun k hk => ((h.f1 h1 h3).lt k hk).1),
    u2 := by simpa [upB, upV] using h.u2,
    u5 := by simpa [upB, upV] using h.u5,
    u13 := by simpa [upB, upV] using h.u13,
    f0 := by simpa [upB, upV] using h.f0,
    f1 := fun _ hx => by simp [upB] at hx,
    f2 := by simpa [upB, upV] using h.f2,
    f3 := fun _ _ => by simpa [upV] using hown,
    f4 := by simpa [upB, upV] using h.f4,
    f5 := fun h5 h6 => by
      obtain ⟨b, q1, q2, q3, q4, _⟩ := h.f5 (by simpa [upB] using h5) (by simpa [upB] using h6)
      have hne := q4 h1 h3
      refine ⟨b, by simpa [upV] using q1, Nat.lt_of_lt_of_le q2 hgrow.size, (hgrow.block b q2 (fun he => hne he.symm)).trans q3, fun _ hx => by simp [upB] at hx, fun _ => ?_⟩
      simp only [upV, if_true]
      rcases hat with ha | ha
      · rw [ha]; exact hne
      · rw [ha]; intro he; cases he; exact Nat.lt_irrefl _ q2,
    c6 := fun h6 => (by have hx := (h.c6 (by simpa [upB] using h6)).1; rw [h3] at hx; cases hx),
    f6 := fun h6 _ => (by have hx := (h.c6 (by simpa [upB] using h6)).1; rw [h3] at hx; cases hx),
    c7 := by simpa [upB, upV] using h.c7,
    f7 := by simpa [upB, upV] using h.f7,
    f8 := by simpa [upB, upV] using h.f8,
    f9 := by simpa [upB, upV] using h.f9,
    f10 := by simpa [upB, upV] using h.f10,
    f11 := fun h11 => by
      obtain ⟨b, q1, q2, q3, q4⟩ := h.f11 (by simpa [upB] using h11)
      refine ⟨b, by simpa [upV] using q1, q2, fun hx => ?_, fun hx => ?_⟩
      · have hb := q3 (by simpa [upB] using hx)
        exact (hgrow.block b (lt_of_block hb) (fun he => own_type (h.f1 h1 h3) hb (by decide) he.symm)).trans hb
      · have hb := q4 (by simpa [upB] using hx)
        exact (hgrow.block b (lt_of_block hb) (fun he => own_type (h.f1 h1 h3) hb (by decide) he.symm)).trans hb,
    c12 := by simpa [upB, upV] using h.c12,
    f13 := by simpa [upB, upV] using h.f13 }
theorem FF.s6 (h : FF wr b0 AG A2 n3 c2 L j g e B u w) {w' : World} {v' : Value} (hown : w'.ownsRow wr.heap.size 3 1 v' (0 + n3 + 1) ([] ++ L.map (Value.int .i64) ++ [.int .i64 (j : Int)])) (hgrow : w.grownBy w' (u 85).ownBlock) (hz : IntsAt .i64 wr A2 n3 L) (hj : (Lit.int .i64 (j : Int)).wf = true) (h3 : B 3 = true) (h5 : B 5 = true) (h6 : B 6 = false) : FF wr b0 AG A2 n3 c2 L j g e (upB B 6) (upV u 88 (v')) w' :=
  { gr := Gr.grownOwn h.gr hgrow (fun k hk => ((h.f3 h3 h6).lt k hk).1),
    u2 := by simpa [upB, upV] using h.u2,
    u5 := by simpa [upB, upV] using h.u5,
    u13 := by simpa [upB, upV] using h.u13,
    f0 := by simpa [upB, upV] using h.f0,
    f1 := fun _ hx => by simp [upB, h3] at hx,
    f2 := by simpa [upB, upV] using h.f2,
    f3 := fun _ hx => by simp [upB] at hx,
    f4 := by simpa [upB, upV] using h.f4,
    f5 := fun _ hx => by simp [upB] at hx,
    c6 := fun _ => ⟨by simpa [upB] using h3, by simpa [upB] using h5⟩,
    f6 := fun _ _ => by
      have hown2 := hown
      obtain ⟨A, c, rfl⟩ := own_form hown
      have hi := ints_own hown2 hz hj
      rw [Nat.zero_add] at hi
      exact ⟨A, c, by simp [upV], hi⟩,
    c7 := fun _ => by simp [upB],
    f7 := by simpa [upB, upV] using h.f7,
    f8 := by simpa [upB, upV] using h.f8,
    f9 := by simpa [upB, upV] using h.f9,
    f10 := by simpa [upB, upV] using h.f10,
    f11 := fun h11 => by
      obtain ⟨b, q1, q2, q3, q4⟩ := h.f11 (by simpa [upB] using h11)
      refine ⟨b, by simpa [upV] using q1, q2, fun hx => ?_, fun hx => ?_⟩
      · have hb := q3 (by simpa [upB] using hx)
        exact (hgrow.block b (lt_of_block hb) (fun he => own_type (h.f3 h3 h6) hb (by decide) he.symm)).trans hb
      · have hb := q4 (by simpa [upB] using hx)
        exact (hgrow.block b (lt_of_block hb) (fun he => own_type (h.f3 h3 h6) hb (by decide) he.symm)).trans hb,
    c12 := by simpa [upB, upV] using h.c12,
    f13 := by simpa [upB, upV] using h.f13 }
end
end Go.Proofs.Ytklncffhkdbkhaa
