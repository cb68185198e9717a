/- What holds in the midst of the drawn regions of walk. -/
import Derived.Test.YtklncffhkdbkhaaTrWalkR
namespace Go.Proofs.Ytklncffhkdbkhaa
open Go.ChangeShapes Go.WideShapes Go.ChangeAt Go.RowKit

theorem NRep.off {P : Nat → Prop} {W : World} {g : Nat} {T : TypeId} {fr : Nat × Nat} (hg : W.heap[g]? = some (.cells #[] T fr)) : ∀ (m : Nat) (v : ND) (t : NT), NRep P m W v t → NRep (fun b => b ≠ g) m W v t
  | 0, _, _, h => h
  | m + 1, v, .mk k l x ks e, h => by
    obtain ⟨h1, h2, h3, h4, h5, h6, h7, h8, h9, h10, h11, h12, h13⟩ := h
    refine ⟨h1, h2, h3, h4, h5, h6, h7, h8, h9, h10, h11, h12, fun i y hy => ?_⟩
    obtain ⟨b, o, d, ha, _, hb, hc, hr⟩ := h13 i y hy
    refine ⟨b, o, d, ha, fun he => ?_, hb, hc, NRep.off hg m d y hr⟩
    subst he
    have := hc.1
    simp [World.cell?, hg] at this
theorem NRep.grownOff {W w : World} {g m : Nat} {d : ND} {t : NT} {T : TypeId} {fr : Nat × Nat} (h : NRep anyB m W d t) (hgr : W.grownBy w (some g)) (hg : W.heap[g]? = some (.cells #[] T fr)) : NRep anyB m w d t := by
  refine NRep.mono (fun _ _ => trivial) (NRep.keep (P := fun b => b ≠ g) ⟨hgr.size, fun b o hne hb => ?_⟩ m d t (NRep.off hg m d t h))
  have := hgr.block b hb (fun he => hne (by cases he; rfl))
  simp only [World.cell?, this]
structure G1 (wr : World) (l b0 : Nat) (A : Option Addr) (n c : Nat) (zs : List Int) (AG : Value) (m : Nat) (t : NT) (Pt : Bool → World → Prop) (B : Nat → Bool) (u : Nat → Value) (w : World) : Prop where
  gr : B 6 = false → Gr wr w
  u1 : u 1 = .slice A n c
  u2 : u 2 = .func (.yield l) #[] #[]
  u3 : u 3 = .pointer (some ⟨b0, 0, none⟩)
  f0 : B 0 = true → u 9 = .func (.yield l) #[] #[]
  f1 : B 1 = true → B 3 = false → ∃ g, u 10 = .slice (some ⟨g, 0, none⟩) 0 0 ∧ wr.heap.size ≤ g ∧ w.heap[g]? = some (.cells #[] 3 (0, 0))
  f2 : B 2 = true → u 11 = .slice A n c
  c3 : B 3 = true → B 1 = true
  f3 : B 3 = true → B 6 = false → ∃ A' c', u 12 = .slice A' n c' ∧ RowI w A' n c' zs
  f4 : B 4 = true → u 13 = AG
  f5 : B 5 = true → B 6 = false → ∃ d : ND, u 14 = .agg #[.int .i64 d.k, .string (bs d.l), .string (bs d.x), .slice d.A d.n d.c, .string (bs d.e)] ∧ NRep anyB m w d t
  c5 : B 5 = true → B 4 = true
  c6 : B 6 = true → B 1 = true ∧ B 3 = true ∧ B 5 = true
  c7 : B 7 = true → B 6 = true
  f6 : B 6 = true → ∃ r, Pt r w ∧ (B 7 = false → u 15 = .bool r) ∧ (B 7 = true → u 16 = .bool (!r))
section
variable {wr w : World} {l b0 : Nat} {A : Option Addr} {n c : Nat} {zs : List Int} {AG : Value} {m : Nat} {t : NT} {Pt : Bool → World → Prop} {B : Nat → Bool} {u : Nat → Value}
theorem G1.not6 (h : G1 wr l b0 A n c zs AG m t Pt B u w) (hB : B 1 = false ∨ B 3 = false ∨ B 4 = false ∨ B 5 = false) : B 6 = false := by
  cases h6 : B 6 with
  | false => rfl
  | true =>
    obtain ⟨h1, h3, h5⟩ := h.c6 h6
    have h4 := h.c5 h5
    rcases hB with h | h | h | h
    · rw [h1] at h; cases h
    · rw [h3] at h; cases h
    · rw [h4] at h; cases h
    · rw [h5] at h; cases h
theorem G1.keep {w' : World} (h : G1 wr l b0 A n c zs AG m t Pt B u w) (h6 : B 6 = false) (hg : Gr w w') : G1 wr l b0 A n c zs AG m t Pt B u w' :=
  { gr := fun _ => (h.gr h6).trans hg, u1 := h.u1, u2 := h.u2, u3 := h.u3, f0 := h.f0,
    f1 := fun h1 h3 => by
      obtain ⟨g, q1, q2, q3⟩ := h.f1 h1 h3
      exact ⟨g, q1, q2, (hg.block g (lt_of_block q3)).trans q3⟩
    f2 := h.f2, c3 := h.c3, c5 := h.c5,
    f3 := fun h3 _ => by
      obtain ⟨A', c', q1, q2⟩ := h.f3 h3 h6
      exact ⟨A', c', q1, q2.gr hg⟩
    f4 := h.f4,
    f5 := fun h5 _ => by
      obtain ⟨d, q1, q2⟩ := h.f5 h5 h6
      exact ⟨d, q1, q2.gr hg⟩
    c6 := h.c6, c7 := h.c7, f6 := fun hx => by rw [h6] at hx; cases hx }
theorem G1.s0 (h : G1 wr l b0 A n c zs AG m t Pt B u w) : G1 wr l b0 A n c zs AG m t Pt (upB B 0) (upV u 9 (.func (.yield l) #[] #[])) w :=
  { gr := by simpa [upB, upV] using h.gr,
    u1 := by simpa [upB, upV] using h.u1,
    u2 := by simpa [upB, upV] using h.u2,
    u3 := by simpa [upB, upV] using h.u3,
    f0 := by simp [upB, upV],
    f1 := by simpa [upB, upV] using h.f1,
    f2 := by simpa [upB, upV] using h.f2,
    c3 := by simpa [upB, upV] using h.c3,
    f3 := by simpa [upB, upV] using h.f3,
    f4 := by simpa [upB, upV] using h.f4,
    f5 := by simpa [upB, upV] using h.f5,
    c5 := by simpa [upB, upV] using h.c5,
    c6 := by simpa [upB, upV] using h.c6,
    c7 := by simpa [upB, upV] using h.c7,
    f6 := by simpa [upB, upV] using h.f6 }
theorem G1.s2 (h : G1 wr l b0 A n c zs AG m t Pt B u w) : G1 wr l b0 A n c zs AG m t Pt (upB B 2) (upV u 11 (.slice A n c)) w :=
  { gr := by simpa [upB, upV] using h.gr,
    u1 := by simpa [upB, upV] using h.u1,
    u2 := by simpa [upB, upV] using h.u2,
    u3 := by simpa [upB, upV] using h.u3,
    f0 := by simpa [upB, upV] using h.f0,
    f1 := by simpa [upB, upV] using h.f1,
    f2 := by simp [upB, upV],
    c3 := by simpa [upB, upV] using h.c3,
    f3 := by simpa [upB, upV] using h.f3,
    f4 := by simpa [upB, upV] using h.f4,
    f5 := by simpa [upB, upV] using h.f5,
    c5 := by simpa [upB, upV] using h.c5,
    c6 := by simpa [upB, upV] using h.c6,
    c7 := by simpa [upB, upV] using h.c7,
    f6 := by simpa [upB, upV] using h.f6 }
theorem G1.s4 (h : G1 wr l b0 A n c zs AG m t Pt B u w) : G1 wr l b0 A n c zs AG m t Pt (upB B 4) (upV u 13 (AG)) w :=
  { gr := by simpa [upB, upV] using h.gr,
    u1 := by simpa [upB, upV] using h.u1,
    u2 := by simpa [upB, upV] using h.u2,
    u3 := by simpa [upB, upV] using h.u3,
    f0 := by simpa [upB, upV] using h.f0,
    f1 := by simpa [upB, upV] using h.f1,
    f2 := by simpa [upB, upV] using h.f2,
    c3 := by simpa [upB, upV] using h.c3,
    f3 := by simpa [upB, upV] using h.f3,
    f4 := by simp [upB, upV],
    f5 := by simpa [upB, upV] using h.f5,
    c5 := by simp [upB],
    c6 := by simpa [upB, upV] using h.c6,
    c7 := by simpa [upB, upV] using h.c7,
    f6 := by simpa [upB, upV] using h.f6 }
theorem G1.s1 (h : G1 wr l b0 A n c zs AG m t Pt B u w) (h6 : B 6 = false) : G1 wr l b0 A n c zs AG m t Pt (upB B 1) (upV u 10 (.slice (some ⟨w.heap.size, 0, none⟩) 0 0)) (w.alloc (.cells #[] 3)) :=
  { gr := by simpa [upB, upV] using (h.keep h6 ((Gr.refl w).alloc (.cells #[] 3))).gr,
    u1 := by simpa [upB, upV] using (h.keep h6 ((Gr.refl w).alloc (.cells #[] 3))).u1,
    u2 := by simpa [upB, upV] using (h.keep h6 ((Gr.refl w).alloc (.cells #[] 3))).u2,
    u3 := by simpa [upB, upV] using (h.keep h6 ((Gr.refl w).alloc (.cells #[] 3))).u3,
    f0 := by simpa [upB, upV] using (h.keep h6 ((Gr.refl w).alloc (.cells #[] 3))).f0,
    f1 := fun _ _ => ⟨w.heap.size, by simp [upV], Below.size (h.gr h6), heap_alloc_new w _⟩,
    f2 := by simpa [upB, upV] using (h.keep h6 ((Gr.refl w).alloc (.cells #[] 3))).f2,
    c3 := fun _ => by simp [upB],
    f3 := by simpa [upB, upV] using (h.keep h6 ((Gr.refl w).alloc (.cells #[] 3))).f3,
    f4 := by simpa [upB, upV] using (h.keep h6 ((Gr.refl w).alloc (.cells #[] 3))).f4,
    f5 := by simpa [upB, upV] using (h.keep h6 ((Gr.refl w).alloc (.cells #[] 3))).f5,
    c5 := by simpa [upB, upV] using (h.keep h6 ((Gr.refl w).alloc (.cells #[] 3))).c5,
    c6 := fun hx => by simp [upB, h6] at hx,
    c7 := by simpa [upB, upV] using (h.keep h6 ((Gr.refl w).alloc (.cells #[] 3))).c7,
    f6 := fun hx => by simp [upB, h6] at hx }
theorem G1.s3 (h : G1 wr l b0 A n c zs AG m t Pt B u w) {w' : World} {v' : Value} (hown : w'.ownsRow wr.heap.size 3 1 v' (0 + n) ([] ++ zs.map (Value.int .i64))) {g : Nat} (hgrow : w.grownBy w' (some g)) (hge : wr.heap.size ≤ g) (hemp : w.heap[g]? = some (.cells #[] 3 (0, 0))) (hw : ∀ z ∈ zs, (Lit.int .i64 z).wf = true) (h1 : B 1 = true) (_h3 : B 3 = false) (h6 : B 6 = false) : G1 wr l b0 A n c zs AG m t Pt (upB B 3) (upV u 12 (v')) w' :=
  { gr := fun _ => Gr.grownOwn (h.gr h6) hgrow (fun k hk => by cases hk; exact hge),
    u1 := by simpa [upB, upV] using h.u1,
    u2 := by simpa [upB, upV] using h.u2,
    u3 := by simpa [upB, upV] using h.u3,
    f0 := by simpa [upB, upV] using h.f0,
    f1 := fun _ hx => by simp [upB] at hx,
    f2 := by simpa [upB, upV] using h.f2,
    c3 := fun _ => by simpa [upB] using h1,
    f3 := fun _ _ => by
      rw [Nat.zero_add, List.nil_append] at hown
      obtain ⟨A', c', hv, hr⟩ := RowI.of_own hown hw
      exact ⟨A', c', by simpa [upV] using hv, hr⟩,
    f4 := by simpa [upB, upV] using h.f4,
    f5 := fun h5 _ => by
      obtain ⟨d, q1, q2⟩ := h.f5 (by simpa [upB] using h5) h6
      exact ⟨d, by simpa [upV] using q1, q2.grownOff hgrow hemp⟩,
    c5 := by simpa [upB, upV] using h.c5,
    c6 := fun hx => by simp [upB, h6] at hx,
    c7 := by simpa [upB, upV] using h.c7,
    f6 := fun hx => by simp [upB, h6] at hx }
theorem G1.s5 (h : G1 wr l b0 A n c zs AG m t Pt B u w) {w' : World} {d : ND} (hg : Gr w w') (hr : NRep anyB m w' d t) (h4 : B 4 = true) (h6 : B 6 = false) : G1 wr l b0 A n c zs AG m t Pt (upB B 5) (upV u 14 (.agg #[.int .i64 d.k, .string (bs d.l), .string (bs d.x), .slice d.A d.n d.c, .string (bs d.e)])) w' :=
  { gr := by simpa [upB, upV] using (h.keep h6 hg).gr,
    u1 := by simpa [upB, upV] using (h.keep h6 hg).u1,
    u2 := by simpa [upB, upV] using (h.keep h6 hg).u2,
    u3 := by simpa [upB, upV] using (h.keep h6 hg).u3,
    f0 := by simpa [upB, upV] using (h.keep h6 hg).f0,
    f1 := by simpa [upB, upV] using (h.keep h6 hg).f1,
    f2 := by simpa [upB, upV] using (h.keep h6 hg).f2,
    c3 := by simpa [upB, upV] using (h.keep h6 hg).c3,
    f3 := by simpa [upB, upV] using (h.keep h6 hg).f3,
    f4 := by simpa [upB, upV] using (h.keep h6 hg).f4,
    f5 := fun _ _ => ⟨d, by simp [upV], hr⟩,
    c5 := fun _ => by simpa [upB] using h4,
    c6 := fun hx => by simp [upB, h6] at hx,
    c7 := by simpa [upB, upV] using (h.keep h6 hg).c7,
    f6 := fun hx => by simp [upB, h6] at hx }
theorem G1.s6 (h : G1 wr l b0 A n c zs AG m t Pt B u w) {w' : World} {r : Bool} (hp : Pt r w') (h1 : B 1 = true) (h3 : B 3 = true) (h5 : B 5 = true) (h6 : B 6 = false) : G1 wr l b0 A n c zs AG m t Pt (upB B 6) (upV u 15 (.bool r)) w' :=
  { gr := fun hx => by simp [upB] at hx,
    u1 := by simpa [upB, upV] using h.u1,
    u2 := by simpa [upB, upV] using h.u2,
    u3 := by simpa [upB, upV] using h.u3,
    f0 := by simpa [upB, upV] using h.f0,
    f1 := fun _ hx => by simp [upB, h3] at hx,
    f2 := by simpa [upB, upV] using h.f2,
    c3 := by simpa [upB, upV] using h.c3,
    f3 := fun _ hx => by simp [upB] at hx,
    f4 := by simpa [upB, upV] using h.f4,
    f5 := fun _ hx => by simp [upB] at hx,
    c5 := by simpa [upB, upV] using h.c5,
    c6 := fun _ => ⟨by simpa [upB] using h1, by simpa [upB] using h3, by simpa [upB] using h5⟩,
    c7 := fun _ => by simp [upB],
    f6 := fun _ => ⟨r, hp, fun _ => by simp [upV], fun hx => by have h7 := h.c7 (by simpa [upB] using hx); rw [h6] at h7; cases h7⟩ }
theorem G1.s7 (h : G1 wr l b0 A n c zs AG m t Pt B u w) {r : Bool} (hp : Pt r w) (h6 : B 6 = true) : G1 wr l b0 A n c zs AG m t Pt (upB B 7) (upV u 16 (.bool (!r))) w :=
  { gr := fun hx => by simp [upB, h6] at hx,
    u1 := by simpa [upB, upV] using h.u1,
    u2 := by simpa [upB, upV] using h.u2,
    u3 := by simpa [upB, upV] using h.u3,
    f0 := by simpa [upB, upV] using h.f0,
    f1 := by simpa [upB, upV] using h.f1,
    f2 := by simpa [upB, upV] using h.f2,
    c3 := by simpa [upB, upV] using h.c3,
    f3 := fun _ hx => by simp [upB, h6] at hx,
    f4 := by simpa [upB, upV] using h.f4,
    f5 := fun _ hx => by simp [upB, h6] at hx,
    c5 := by simpa [upB, upV] using h.c5,
    c6 := by simpa [upB, upV] using h.c6,
    c7 := fun _ => by simpa [upB] using h6,
    f6 := fun _ => ⟨r, hp, fun hx => by simp [upB] at hx, fun _ => by simp [upV]⟩ }
end
structure G6 (wr : World) (l bk : Nat) (A : Option Addr) (n c : Nat) (zs : List Int) (j : Nat) (AG : Value) (Pt : Bool → World → Prop) (B : Nat → Bool) (u : Nat → Value) (w : World) : Prop where
  gr : B 11 = false → Gr wr w
  u1 : u 1 = .slice A n c
  u2 : u 2 = .func (.yield l) #[] #[]
  u7 : u 7 = .int .i64 j
  u8 : u 8 = .pointer (some ⟨bk, 0, none⟩)
  f0 : B 0 = true → u 25 = AG
  f1 : B 1 = true → u 26 = .slice A n c
  f2 : B 2 = true → u 27 = .slice A n c
  f3 : B 3 = true → u 28 = .int .i64 n
  f4 : B 4 = true → u 29 = .slice A n c
  f5 : B 5 = true → u 30 = .int .i64 n
  f6 : B 6 = true → u 31 = .slice A n n
  f7 : B 7 = true → u 32 = .int .i64 j
  f8 : B 8 = true → B 9 = false → ∃ b, u 33 = .slice (some ⟨b, 0, none⟩) 1 1 ∧ w.heap[b]? = some (.cells #[.int .i64 (j : Int)] 3 (0, 0))
  c9 : B 9 = true → B 8 = true
  f9 : B 9 = true → B 11 = false → ∃ A' c', u 34 = .slice A' (n + 1) c' ∧ RowI w A' (n + 1) c' (zs ++ [(j : Int)])
  f10 : B 10 = true → u 35 = .func (.yield l) #[] #[]
  c11 : B 11 = true → B 0 = true ∧ B 8 = true ∧ B 9 = true
  c12 : B 12 = true → B 11 = true
  f11 : B 11 = true → ∃ r, Pt r w ∧ (B 12 = false → u 36 = .bool r) ∧ (B 12 = true → u 37 = .bool (!r))
section
variable {wr w : World} {l bk : Nat} {A : Option Addr} {n c : Nat} {zs : List Int} {j : Nat} {AG : Value} {Pt : Bool → World → Prop} {B : Nat → Bool} {u : Nat → Value}
theorem G6.not11 (h : G6 wr l bk A n c zs j AG Pt B u w) (hB : B 0 = false ∨ B 8 = false ∨ B 9 = false) : B 11 = false := by
  cases h6 : B 11 with
  | false => rfl
  | true =>
    obtain ⟨h0, h1, h3⟩ := h.c11 h6
    rcases hB with h | h | h
    · rw [h0] at h; cases h
    · rw [h1] at h; cases h
    · rw [h3] at h; cases h
theorem G6.keep {w' : World} (h : G6 wr l bk A n c zs j AG Pt B u w) (h6 : B 11 = false) (hg : Gr w w') : G6 wr l bk A n c zs j AG Pt B u w' :=
  { gr := fun _ => (h.gr h6).trans hg, u1 := h.u1, u2 := h.u2, u7 := h.u7, u8 := h.u8, f0 := h.f0, f1 := h.f1, f2 := h.f2, f3 := h.f3, f4 := h.f4, f5 := h.f5, f6 := h.f6, f7 := h.f7,
    f8 := fun h8 h9 => by
      obtain ⟨b, q1, q2⟩ := h.f8 h8 h9
      exact ⟨b, q1, (hg.block b (lt_of_block q2)).trans q2⟩
    c9 := h.c9,
    f9 := fun h9 _ => by
      obtain ⟨A', c', q1, q2⟩ := h.f9 h9 h6
      exact ⟨A', c', q1, q2.gr hg⟩
    f10 := h.f10, c11 := h.c11, c12 := h.c12, f11 := fun hx => by rw [h6] at hx; cases hx }
theorem G6.s0 (h : G6 wr l bk A n c zs j AG Pt B u w) : G6 wr l bk A n c zs j AG Pt (upB B 0) (upV u 25 (AG)) w :=
  { gr := by simpa [upB, upV] using h.gr,
    u1 := by simpa [upB, upV] using h.u1,
    u2 := by simpa [upB, upV] using h.u2,
    u7 := by simpa [upB, upV] using h.u7,
    u8 := by simpa [upB, upV] using h.u8,
    f0 := by simp [upB, upV],
    f1 := by simpa [upB, upV] using h.f1,
    f2 := by simpa [upB, upV] using h.f2,
    f3 := by simpa [upB, upV] using h.f3,
    f4 := by simpa [upB, upV] using h.f4,
    f5 := by simpa [upB, upV] using h.f5,
    f6 := by simpa [upB, upV] using h.f6,
    f7 := by simpa [upB, upV] using h.f7,
    f8 := by simpa [upB, upV] using h.f8,
    c9 := by simpa [upB, upV] using h.c9,
    f9 := by simpa [upB, upV] using h.f9,
    f10 := by simpa [upB, upV] using h.f10,
    c11 := fun hx => (by have := h.c11 (by simpa [upB] using hx); simp [upB, this.2.1, this.2.2]),
    c12 := by simpa [upB, upV] using h.c12,
    f11 := by simpa [upB, upV] using h.f11 }
theorem G6.s1 (h : G6 wr l bk A n c zs j AG Pt B u w) : G6 wr l bk A n c zs j AG Pt (upB B 1) (upV u 26 (.slice A n c)) w :=
  { gr := by simpa [upB, upV] using h.gr,
    u1 := by simpa [upB, upV] using h.u1,
    u2 := by simpa [upB, upV] using h.u2,
    u7 := by simpa [upB, upV] using h.u7,
    u8 := by simpa [upB, upV] using h.u8,
    f0 := by simpa [upB, upV] using h.f0,
    f1 := by simp [upB, upV],
    f2 := by simpa [upB, upV] using h.f2,
    f3 := by simpa [upB, upV] using h.f3,
    f4 := by simpa [upB, upV] using h.f4,
    f5 := by simpa [upB, upV] using h.f5,
    f6 := by simpa [upB, upV] using h.f6,
    f7 := by simpa [upB, upV] using h.f7,
    f8 := by simpa [upB, upV] using h.f8,
    c9 := by simpa [upB, upV] using h.c9,
    f9 := by simpa [upB, upV] using h.f9,
    f10 := by simpa [upB, upV] using h.f10,
    c11 := by simpa [upB, upV] using h.c11,
    c12 := by simpa [upB, upV] using h.c12,
    f11 := by simpa [upB, upV] using h.f11 }
theorem G6.s2 (h : G6 wr l bk A n c zs j AG Pt B u w) : G6 wr l bk A n c zs j AG Pt (upB B 2) (upV u 27 (.slice A n c)) w :=
  { gr := by simpa [upB, upV] using h.gr,
    u1 := by simpa [upB, upV] using h.u1,
    u2 := by simpa [upB, upV] using h.u2,
    u7 := by simpa [upB, upV] using h.u7,
    u8 := by simpa [upB, upV] using h.u8,
    f0 := by simpa [upB, upV] using h.f0,
    f1 := by simpa [upB, upV] using h.f1,
    f2 := by simp [upB, upV],
    f3 := by simpa [upB, upV] using h.f3,
    f4 := by simpa [upB, upV] using h.f4,
    f5 := by simpa [upB, upV] using h.f5,
    f6 := by simpa [upB, upV] using h.f6,
    f7 := by simpa [upB, upV] using h.f7,
    f8 := by simpa [upB, upV] using h.f8,
    c9 := by simpa [upB, upV] using h.c9,
    f9 := by simpa [upB, upV] using h.f9,
    f10 := by simpa [upB, upV] using h.f10,
    c11 := by simpa [upB, upV] using h.c11,
    c12 := by simpa [upB, upV] using h.c12,
    f11 := by simpa [upB, upV] using h.f11 }
theorem G6.s3 (h : G6 wr l bk A n c zs j AG Pt B u w) : G6 wr l bk A n c zs j AG Pt (upB B 3) (upV u 28 (.int .i64 n)) w :=
  { gr := by simpa [upB, upV] using h.gr,
    u1 := by simpa [upB, upV] using h.u1,
    u2 := by simpa [upB, upV] using h.u2,
    u7 := by simpa [upB, upV] using h.u7,
    u8 := by simpa [upB, upV] using h.u8,
    f0 := by simpa [upB, upV] using h.f0,
    f1 := by simpa [upB, upV] using h.f1,
    f2 := by simpa [upB, upV] using h.f2,
    f3 := by simp [upB, upV],
    f4 := by simpa [upB, upV] using h.f4,
    f5 := by simpa [upB, upV] using h.f5,
    f6 := by simpa [upB, upV] using h.f6,
    f7 := by simpa [upB, upV] using h.f7,
    f8 := by simpa [upB, upV] using h.f8,
    c9 := by simpa [upB, upV] using h.c9,
    f9 := by simpa [upB, upV] using h.f9,
    f10 := by simpa [upB, upV] using h.f10,
    c11 := by simpa [upB, upV] using h.c11,
    c12 := by simpa [upB, upV] using h.c12,
    f11 := by simpa [upB, upV] using h.f11 }
theorem G6.s4 (h : G6 wr l bk A n c zs j AG Pt B u w) : G6 wr l bk A n c zs j AG Pt (upB B 4) (upV u 29 (.slice A n c)) w :=
  { gr := by simpa [upB, upV] using h.gr,
    u1 := by simpa [upB, upV] using h.u1,
    u2 := by simpa [upB, upV] using h.u2,
    u7 := by simpa [upB, upV] using h.u7,
    u8 := by simpa [upB, upV] using h.u8,
    f0 := by simpa [upB, upV] using h.f0,
    f1 := by simpa [upB, upV] using h.f1,
    f2 := by simpa [upB, upV] using h.f2,
    f3 := by simpa [upB, upV] using h.f3,
    f4 := by simp [upB, upV],
    f5 := by simpa [upB, upV] using h.f5,
    f6 := by simpa [upB, upV] using h.f6,
    f7 := by simpa [upB, upV] using h.f7,
    f8 := by simpa [upB, upV] using h.f8,
    c9 := by simpa [upB, upV] using h.c9,
    f9 := by simpa [upB, upV] using h.f9,
    f10 := by simpa [upB, upV] using h.f10,
    c11 := by simpa [upB, upV] using h.c11,
    c12 := by simpa [upB, upV] using h.c12,
    f11 := by simpa [upB, upV] using h.f11 }
theorem G6.s5 (h : G6 wr l bk A n c zs j AG Pt B u w) : G6 wr l bk A n c zs j AG Pt (upB B 5) (upV u 30 (.int .i64 n)) w :=
  { gr := by simpa [upB, upV] using h.gr,
    u1 := by simpa [upB, upV] using h.u1,
    u2 := by simpa [upB, upV] using h.u2,
    u7 := by simpa [upB, upV] using h.u7,
    u8 := by simpa [upB, upV] using h.u8,
    f0 := by simpa [upB, upV] using h.f0,
    f1 := by simpa [upB, upV] using h.f1,
    f2 := by simpa [upB, upV] using h.f2,
    f3 := by simpa [upB, upV] using h.f3,
    f4 := by simpa [upB, upV] using h.f4,
    f5 := by simp [upB, upV],
    f6 := by simpa [upB, upV] using h.f6,
    f7 := by simpa [upB, upV] using h.f7,
    f8 := by simpa [upB, upV] using h.f8,
    c9 := by simpa [upB, upV] using h.c9,
    f9 := by simpa [upB, upV] using h.f9,
    f10 := by simpa [upB, upV] using h.f10,
    c11 := by simpa [upB, upV] using h.c11,
    c12 := by simpa [upB, upV] using h.c12,
    f11 := by simpa [upB, upV] using h.f11 }
theorem G6.s6 (h : G6 wr l bk A n c zs j AG Pt B u w) : G6 wr l bk A n c zs j AG Pt (upB B 6) (upV u 31 (.slice A n n)) w :=
  { gr := by simpa [upB, upV] using h.gr,
    u1 := by simpa [upB, upV] using h.u1,
    u2 := by simpa [upB, upV] using h.u2,
    u7 := by simpa [upB, upV] using h.u7,
    u8 := by simpa [upB, upV] using h.u8,
    f0 := by simpa [upB, upV] using h.f0,
    f1 := by simpa [upB, upV] using h.f1,
    f2 := by simpa [upB, upV] using h.f2,
    f3 := by simpa [upB, upV] using h.f3,
    f4 := by simpa [upB, upV] using h.f4,
    f5 := by simpa [upB, upV] using h.f5,
    f6 := by simp [upB, upV],
    f7 := by simpa [upB, upV] using h.f7,
    f8 := by simpa [upB, upV] using h.f8,
    c9 := by simpa [upB, upV] using h.c9,
    f9 := by simpa [upB, upV] using h.f9,
    f10 := by simpa [upB, upV] using h.f10,
    c11 := by simpa [upB, upV] using h.c11,
    c12 := by simpa [upB, upV] using h.c12,
    f11 := by simpa [upB, upV] using h.f11 }
theorem G6.s7 (h : G6 wr l bk A n c zs j AG Pt B u w) : G6 wr l bk A n c zs j AG Pt (upB B 7) (upV u 32 (.int .i64 j)) w :=
  { gr := by simpa [upB, upV] using h.gr,
    u1 := by simpa [upB, upV] using h.u1,
    u2 := by simpa [upB, upV] using h.u2,
    u7 := by simpa [upB, upV] using h.u7,
    u8 := by simpa [upB, upV] using h.u8,
    f0 := by simpa [upB, upV] using h.f0,
    f1 := by simpa [upB, upV] using h.f1,
    f2 := by simpa [upB, upV] using h.f2,
    f3 := by simpa [upB, upV] using h.f3,
    f4 := by simpa [upB, upV] using h.f4,
    f5 := by simpa [upB, upV] using h.f5,
    f6 := by simpa [upB, upV] using h.f6,
    f7 := by simp [upB, upV],
    f8 := by simpa [upB, upV] using h.f8,
    c9 := by simpa [upB, upV] using h.c9,
    f9 := by simpa [upB, upV] using h.f9,
    f10 := by simpa [upB, upV] using h.f10,
    c11 := by simpa [upB, upV] using h.c11,
    c12 := by simpa [upB, upV] using h.c12,
    f11 := by simpa [upB, upV] using h.f11 }
theorem G6.s10 (h : G6 wr l bk A n c zs j AG Pt B u w) : G6 wr l bk A n c zs j AG Pt (upB B 10) (upV u 35 (.func (.yield l) #[] #[])) w :=
  { gr := by simpa [upB, upV] using h.gr,
    u1 := by simpa [upB, upV] using h.u1,
    u2 := by simpa [upB, upV] using h.u2,
    u7 := by simpa [upB, upV] using h.u7,
    u8 := by simpa [upB, upV] using h.u8,
    f0 := by simpa [upB, upV] using h.f0,
    f1 := by simpa [upB, upV] using h.f1,
    f2 := by simpa [upB, upV] using h.f2,
    f3 := by simpa [upB, upV] using h.f3,
    f4 := by simpa [upB, upV] using h.f4,
    f5 := by simpa [upB, upV] using h.f5,
    f6 := by simpa [upB, upV] using h.f6,
    f7 := by simpa [upB, upV] using h.f7,
    f8 := by simpa [upB, upV] using h.f8,
    c9 := by simpa [upB, upV] using h.c9,
    f9 := by simpa [upB, upV] using h.f9,
    f10 := by simp [upB, upV],
    c11 := by simpa [upB, upV] using h.c11,
    c12 := by simpa [upB, upV] using h.c12,
    f11 := by simpa [upB, upV] using h.f11 }
theorem G6.s8 (h : G6 wr l bk A n c zs j AG Pt B u w) (h6 : B 11 = false) : G6 wr l bk A n c zs j AG Pt (upB B 8) (upV u 33 (.slice (some ⟨w.heap.size, 0, none⟩) 1 1)) (w.alloc (.cells #[.int .i64 (j : Int)] 3)) :=
  { gr := by simpa [upB, upV] using (h.keep h6 ((Gr.refl w).alloc (.cells #[.int .i64 (j : Int)] 3))).gr,
    u1 := by simpa [upB, upV] using (h.keep h6 ((Gr.refl w).alloc (.cells #[.int .i64 (j : Int)] 3))).u1,
    u2 := by simpa [upB, upV] using (h.keep h6 ((Gr.refl w).alloc (.cells #[.int .i64 (j : Int)] 3))).u2,
    u7 := by simpa [upB, upV] using (h.keep h6 ((Gr.refl w).alloc (.cells #[.int .i64 (j : Int)] 3))).u7,
    u8 := by simpa [upB, upV] using (h.keep h6 ((Gr.refl w).alloc (.cells #[.int .i64 (j : Int)] 3))).u8,
    f0 := by simpa [upB, upV] using (h.keep h6 ((Gr.refl w).alloc (.cells #[.int .i64 (j : Int)] 3))).f0,
    f1 := by simpa [upB, upV] using (h.keep h6 ((Gr.refl w).alloc (.cells #[.int .i64 (j : Int)] 3))).f1,
    f2 := by simpa [upB, upV] using (h.keep h6 ((Gr.refl w).alloc (.cells #[.int .i64 (j : Int)] 3))).f2,
    f3 := by simpa [upB, upV] using (h.keep h6 ((Gr.refl w).alloc (.cells #[.int .i64 (j : Int)] 3))).f3,
    f4 := by simpa [upB, upV] using (h.keep h6 ((Gr.refl w).alloc (.cells #[.int .i64 (j : Int)] 3))).f4,
    f5 := by simpa [upB, upV] using (h.keep h6 ((Gr.refl w).alloc (.cells #[.int .i64 (j : Int)] 3))).f5,
    f6 := by simpa [upB, upV] using (h.keep h6 ((Gr.refl w).alloc (.cells #[.int .i64 (j : Int)] 3))).f6,
    f7 := by simpa [upB, upV] using (h.keep h6 ((Gr.refl w).alloc (.cells #[.int .i64 (j : Int)] 3))).f7,
    f8 := fun _ _ => ⟨w.heap.size, by simp [upV], heap_alloc_new w _⟩,
    c9 := fun _ => by simp [upB],
    f9 := by simpa [upB, upV] using (h.keep h6 ((Gr.refl w).alloc (.cells #[.int .i64 (j : Int)] 3))).f9,
    f10 := by simpa [upB, upV] using (h.keep h6 ((Gr.refl w).alloc (.cells #[.int .i64 (j : Int)] 3))).f10,
    c11 := fun hx => by simp [upB, h6] at hx,
    c12 := by simpa [upB, upV] using (h.keep h6 ((Gr.refl w).alloc (.cells #[.int .i64 (j : Int)] 3))).c12,
    f11 := fun hx => by simp [upB, h6] at hx }
theorem G6.s9 (h : G6 wr l bk A n c zs j AG Pt B u w) {w' : World} {A' : Option Addr} {c' : Nat} (hg : Gr w w') (hr : RowI w' A' (n + 1) c' (zs ++ [(j : Int)])) (h8 : B 8 = true) (h6 : B 11 = false) : G6 wr l bk A n c zs j AG Pt (upB B 9) (upV u 34 (.slice A' (n + 1) c')) w' :=
  { gr := by simpa [upB, upV] using (h.keep h6 hg).gr,
    u1 := by simpa [upB, upV] using (h.keep h6 hg).u1,
    u2 := by simpa [upB, upV] using (h.keep h6 hg).u2,
    u7 := by simpa [upB, upV] using (h.keep h6 hg).u7,
    u8 := by simpa [upB, upV] using (h.keep h6 hg).u8,
    f0 := by simpa [upB, upV] using (h.keep h6 hg).f0,
    f1 := by simpa [upB, upV] using (h.keep h6 hg).f1,
    f2 := by simpa [upB, upV] using (h.keep h6 hg).f2,
    f3 := by simpa [upB, upV] using (h.keep h6 hg).f3,
    f4 := by simpa [upB, upV] using (h.keep h6 hg).f4,
    f5 := by simpa [upB, upV] using (h.keep h6 hg).f5,
    f6 := by simpa [upB, upV] using (h.keep h6 hg).f6,
    f7 := by simpa [upB, upV] using (h.keep h6 hg).f7,
    f8 := fun _ hx => by simp [upB] at hx,
    c9 := fun _ => by simpa [upB] using h8,
    f9 := fun _ _ => ⟨A', c', by simp [upV], hr⟩,
    f10 := by simpa [upB, upV] using (h.keep h6 hg).f10,
    c11 := fun hx => by simp [upB, h6] at hx,
    c12 := by simpa [upB, upV] using (h.keep h6 hg).c12,
    f11 := fun hx => by simp [upB, h6] at hx }
theorem G6.s11 (h : G6 wr l bk A n c zs j AG Pt B u w) {w' : World} {r : Bool} (hp : Pt r w') (h0 : B 0 = true) (h8 : B 8 = true) (h9 : B 9 = true) (h6 : B 11 = false) : G6 wr l bk A n c zs j AG Pt (upB B 11) (upV u 36 (.bool r)) w' :=
  { gr := fun hx => by simp [upB] at hx,
    u1 := by simpa [upB, upV] using h.u1,
    u2 := by simpa [upB, upV] using h.u2,
    u7 := by simpa [upB, upV] using h.u7,
    u8 := by simpa [upB, upV] using h.u8,
    f0 := by simpa [upB, upV] using h.f0,
    f1 := by simpa [upB, upV] using h.f1,
    f2 := by simpa [upB, upV] using h.f2,
    f3 := by simpa [upB, upV] using h.f3,
    f4 := by simpa [upB, upV] using h.f4,
    f5 := by simpa [upB, upV] using h.f5,
    f6 := by simpa [upB, upV] using h.f6,
    f7 := by simpa [upB, upV] using h.f7,
    f8 := fun _ hx => by simp [upB, h9] at hx,
    c9 := by simpa [upB, upV] using h.c9,
    f9 := fun _ hx => by simp [upB] at hx,
    f10 := by simpa [upB, upV] using h.f10,
    c11 := fun _ => ⟨by simpa [upB] using h0, by simpa [upB] using h8, by simpa [upB] using h9⟩,
    c12 := fun _ => by simp [upB],
    f11 := fun _ => ⟨r, hp, fun _ => by simp [upV], fun hx => by have h7 := h.c12 (by simpa [upB] using hx); rw [h6] at h7; cases h7⟩ }
theorem G6.s12 (h : G6 wr l bk A n c zs j AG Pt B u w) {r : Bool} (hp : Pt r w) (h6 : B 11 = true) : G6 wr l bk A n c zs j AG Pt (upB B 12) (upV u 37 (.bool (!r))) w :=
  { gr := fun hx => by simp [upB, h6] at hx,
    u1 := by simpa [upB, upV] using h.u1,
    u2 := by simpa [upB, upV] using h.u2,
    u7 := by simpa [upB, upV] using h.u7,
    u8 := by simpa [upB, upV] using h.u8,
    f0 := by simpa [upB, upV] using h.f0,
    f1 := by simpa [upB, upV] using h.f1,
    f2 := by simpa [upB, upV] using h.f2,
    f3 := by simpa [upB, upV] using h.f3,
    f4 := by simpa [upB, upV] using h.f4,
    f5 := by simpa [upB, upV] using h.f5,
    f6 := by simpa [upB, upV] using h.f6,
    f7 := by simpa [upB, upV] using h.f7,
    f8 := by simpa [upB, upV] using h.f8,
    c9 := by simpa [upB, upV] using h.c9,
    f9 := fun _ hx => by simp [upB, h6] at hx,
    f10 := by simpa [upB, upV] using h.f10,
    c11 := by simpa [upB, upV] using h.c11,
    c12 := fun _ => by simpa [upB] using h6,
    f11 := fun _ => ⟨r, hp, fun hx => by simp [upB] at hx, fun _ => by simp [upV]⟩ }
end
end Go.Proofs.Ytklncffhkdbkhaa
