/- Spans and edits, more plain laws: the reference's lists of kept bytes, undoing, composing, moving. -/
import Derived.Test.YtapginodpikijaaSpanPlain
namespace Go.Proofs.Ytapginodpikijaa

/- ## Kept: for each byte its new offset, or -1 -/
def upto (out n : Nat) : List Int := (List.range n).map fun j => ((out + j : Nat) : Int)
def keptF (size : Nat) : Nat → Nat → List EN → List Int
  | at_, out, [] => upto out (size - at_)
  | at_, out, e :: r => upto out (e.f - at_) ++ (List.replicate (e.t - e.f) (-1) ++ keptF size e.t (out + (e.f - at_) + e.s.length) r)
/-- The preserved bytes of such a list. -/
def kp : Nat → List Int → List (Nat × Nat)
  | _, [] => []
  | i, k :: r => if k < 0 then kp (i + 1) r else (i, k.toNat) :: kp (i + 1) r
theorem kp_append : ∀ (a b : List Int) (i : Nat), kp i (a ++ b) = kp i a ++ kp (i + a.length) b
  | [], b, i => by simp [kp]
  | k :: a, b, i => by
    rw [List.cons_append, kp, kp, kp_append a b (i + 1), List.length_cons, show i + 1 + a.length = i + (a.length + 1) from by omega]
    split <;> rfl
theorem upto_length (out n : Nat) : (upto out n).length = n := by simp [upto]
theorem upto_succ (out n : Nat) : upto out (n + 1) = (out : Int) :: upto (out + 1) n := by
  simp only [upto, List.range_succ_eq_map, List.map_cons, List.map_map, Nat.add_zero, List.cons.injEq, true_and]
  apply List.map_congr_left
  intro j _
  simp only [Function.comp]
  omega
theorem kp_upto : ∀ (n i out : Nat), kp i (upto out n) = (Run.mk i out n).pairs
  | 0, i, out => by simp [upto, kp, Run.pairs]
  | n + 1, i, out => by
    rw [upto_succ, kp, if_neg (by omega), kp_upto n (i + 1) (out + 1), range_map_cons]
    simp
theorem kp_neg : ∀ (n i : Nat), kp i (List.replicate n (-1)) = []
  | 0, i => rfl
  | n + 1, i => by rw [List.replicate_succ, kp, if_pos (by omega), kp_neg n]
theorem kp_kept (size : Nat) : ∀ (es : List EN) (at_ out : Nat), Ok size at_ es → kp at_ (keptF size at_ out es) = pairsF size at_ out es
  | [], at_, out, _ => kp_upto _ _ _
  | e :: r, at_, out, h => by
    obtain ⟨h1, h2, h3, h4⟩ := h
    rw [keptF, pairsF, kp_append, kp_append, kp_upto, kp_neg, List.nil_append, upto_length, List.length_replicate,
      show at_ + (e.f - at_) + (e.t - e.f) = e.t from by omega, kp_kept size r _ _ h4]
theorem keptF_length (size : Nat) : ∀ (es : List EN) (at_ out : Nat), Ok size at_ es → at_ ≤ size → (keptF size at_ out es).length = size - at_
  | [], at_, out, _, _ => upto_length _ _
  | e :: r, at_, out, h, ha => by
    obtain ⟨h1, h2, h3, h4⟩ := h
    rw [keptF, List.length_append, List.length_append, upto_length, List.length_replicate, keptF_length size r _ _ h4 h3]
    omega
/-- Between, as the reference reckons it. -/
def btwK (la lb : Nat) (b : List UInt8) : Nat → Nat → Nat → List Int → List EN
  | _, f, t, [] => if f < la ∨ t < lb then [⟨f, la, cut b t lb⟩] else []
  | i, f, t, k :: r => if k < 0 then btwK la lb b (i + 1) f t r else (if f < i ∨ t < k.toNat then [⟨f, i, cut b t k.toNat⟩] else []) ++ btwK la lb b (i + 1) (i + 1) (k.toNat + 1) r
theorem btwK_eq (la lb : Nat) (b : List UInt8) : ∀ (l : List Int) (i f t : Nat), btwK la lb b i f t l = btwP la lb b f t (kp i l)
  | [], i, f, t => rfl
  | k :: r, i, f, t => by
    rw [btwK, kp]
    split
    · exact btwK_eq la lb b r _ _ _
    · rw [btwP, btwK_eq la lb b r _ _ _]

/- ## Undoing -/
def swapP (p : Nat × Nat) : Nat × Nat := (p.2, p.1)
def setAll (k0 : Nat) (l : List Int) : List (Nat × Nat) → List Int
  | [] => l
  | (x, y) :: r => setAll k0 (l.set (y - k0) x) r
theorem setAll_skip (k0 : Nat) : ∀ (ps : List (Nat × Nat)) (a b : List Int) (i k : Nat), Rise i k ps → k0 + a.length ≤ k → setAll k0 (a ++ b) ps = a ++ setAll (k0 + a.length) b ps
  | [], a, b, i, k, _, _ => rfl
  | (x, y) :: r, a, b, i, k, h, hk => by
    obtain ⟨_, h2, h3⟩ := h
    rw [setAll, setAll, List.set_append_right _ _ (by omega), setAll_skip k0 r a _ (x + 1) (y + 1) h3 (by omega), show y - k0 - a.length = y - (k0 + a.length) from by omega]
theorem setAll_kp : ∀ (ps : List (Nat × Nat)) (i k n : Nat), Rise i k ps → (∀ p ∈ ps, p.2 < k + n) → kp k (setAll k (List.replicate n (-1)) ps) = ps.map swapP
  | [], i, k, n, _, _ => kp_neg _ _
  | (x, y) :: r, i, k, n, h, hl => by
    obtain ⟨_, h2, h3⟩ := h
    have hy := hl (x, y) (by simp)
    simp only at hy
    obtain ⟨m, hm⟩ : ∃ m, n = (y - k) + (m + 1) := ⟨n - (y - k) - 1, by omega⟩
    subst hm
    have e1 : (List.replicate (y - k + (m + 1)) (-1 : Int)).set (y - k) x = (List.replicate (y - k) (-1) ++ [(x : Int)]) ++ List.replicate m (-1) := by
      rw [← List.replicate_append_replicate, List.set_append_right _ _ (by simp), List.length_replicate, Nat.sub_self, List.replicate_succ, List.set_cons_zero]
      simp
    rw [setAll, e1, setAll_skip k r _ _ (x + 1) (y + 1) h3 (by simp; omega), kp_append, kp_append, kp_neg, List.nil_append]
    simp only [List.length_append, List.length_replicate, List.length_cons, List.length_nil, kp, List.map_cons]
    rw [if_neg (by omega)]
    have ih := setAll_kp r (x + 1) (y + 1) m h3 (fun p hp => by have := hl p (by simp [hp]); omega)
    rw [show k + (y - k + (0 + 1)) = y + 1 from by omega, show k + (y - k) = y from by omega, ih]
    simp [swapP]
theorem setAll_length (k0 : Nat) : ∀ (ps : List (Nat × Nat)) (l : List Int), (setAll k0 l ps).length = l.length
  | [], l => rfl
  | (x, y) :: r, l => by rw [setAll, setAll_length k0 r, List.length_set]
theorem rise_swap : ∀ (ps : List (Nat × Nat)) (i k : Nat), Rise i k ps → Rise k i (ps.map swapP)
  | [], _, _, _ => trivial
  | (x, y) :: r, _, _, h => ⟨h.2.1, h.1, rise_swap r (x + 1) (y + 1) h.2.2⟩
theorem same_swap {a b : List UInt8} {ps : List (Nat × Nat)} (h : Same2 a b ps) : Same2 b a (ps.map swapP) := by
  intro p hp
  obtain ⟨q, hq, rfl⟩ := List.mem_map.1 hp
  obtain ⟨h1, h2, h3⟩ := h q hq
  exact ⟨h2, h1, h3.symm⟩
def Run.swap (r : Run) : Run := ⟨r.k, r.i, r.n⟩
theorem swap_pairs (r : Run) : r.swap.pairs = r.pairs.map swapP := by
  simp only [Run.pairs, Run.swap, List.map_map]
  apply List.map_congr_left
  intro j _
  rfl
theorem swaps_pairs : ∀ rs : List Run, (rs.map Run.swap).flatMap Run.pairs = (rs.flatMap Run.pairs).map swapP
  | [] => rfl
  | r :: rs => by rw [List.map_cons, List.flatMap_cons, List.flatMap_cons, List.map_append, swap_pairs, swaps_pairs rs]

/- ## Composing -/
/-- Sorted by the first coordinate. -/
def RiseI : Nat → List (Nat × Nat) → Prop
  | _, [] => True
  | i, (x, _) :: ps => i ≤ x ∧ RiseI (x + 1) ps
theorem RiseI.mono {ps : List (Nat × Nat)} {i i' : Nat} (h : RiseI i ps) (hi : i' ≤ i) : RiseI i' ps := by
  cases ps with
  | nil => trivial
  | cons p ps => exact ⟨Nat.le_trans hi h.1, h.2⟩
theorem RiseI.le : ∀ {ps : List (Nat × Nat)} {i : Nat}, RiseI i ps → ∀ p ∈ ps, i ≤ p.1
  | [], _, _, p, hp => by simp at hp
  | (x, y) :: ps, i, h, p, hp => by
    rcases List.mem_cons.1 hp with rfl | hp
    · exact h.1
    · have := RiseI.le h.2 p hp
      have := h.1
      omega
theorem Rise.toI : ∀ {ps : List (Nat × Nat)} {i k : Nat}, Rise i k ps → RiseI i ps
  | [], _, _, _ => trivial
  | (_, _) :: _, _, _, h => ⟨h.1, Rise.toI h.2.2⟩
theorem riseI_ext : ∀ (ps qs : List (Nat × Nat)) (i j : Nat), RiseI i ps → RiseI j qs → (∀ p, p ∈ ps ↔ p ∈ qs) → ps = qs
  | [], [], _, _, _, _, _ => rfl
  | [], q :: qs, _, _, _, _, h => by have := (h q).2 (by simp); simp at this
  | p :: ps, [], _, _, _, _, h => by have := (h p).1 (by simp); simp at this
  | (x, y) :: ps, (u, v) :: qs, i, j, hp, hq, h => by
    have h1 := (h (x, y)).1 (by simp)
    have h2 := (h (u, v)).2 (by simp)
    have e : (x, y) = (u, v) := by
      rcases List.mem_cons.1 h1 with h1 | h1
      · exact h1
      · rcases List.mem_cons.1 h2 with h2 | h2
        · exact h2.symm
        · have a1 := RiseI.le hq.2 _ h1
          have a2 := RiseI.le hp.2 _ h2
          simp only at a1 a2
          omega
    cases e
    congr 1
    refine riseI_ext ps qs (x + 1) (x + 1) hp.2 hq.2 fun p => ?_
    have hp' := h p
    simp only [List.mem_cons] at hp'
    constructor
    · intro hm
      rcases hp'.1 (.inr hm) with rfl | h3
      · have := RiseI.le hp.2 _ hm; simp only at this; omega
      · exact h3
    · intro hm
      rcases hp'.2 (.inr hm) with rfl | h3
      · have := RiseI.le hq.2 _ hm; simp only at this; omega
      · exact h3
def interR (r s : Run) : Run := ⟨r.i + (max r.k s.i - r.k), s.k + (max r.k s.i - s.i), min (r.k + r.n) (s.i + s.n) - max r.k s.i⟩
def skipK (lim : Nat) : List Run → List Run
  | [] => []
  | s :: S => if s.i + s.n ≤ lim then skipK lim S else s :: S
def innerK (r : Run) : List Run → List Run
  | [] => []
  | s :: S => if s.i < r.k + r.n then interR r s :: innerK r S else []
def bothF : List Run → List Run → List Run
  | [], _ => []
  | r :: R, S => innerK r (skipK r.k S) ++ bothF R (skipK r.k S)
/-- Runs in order. -/
def RunsOk : Nat → Nat → List Run → Prop
  | _, _, [] => True
  | i, k, r :: R => i ≤ r.i ∧ k ≤ r.k ∧ 0 < r.n ∧ RunsOk (r.i + r.n) (r.k + r.n) R
theorem mem_pairs (r : Run) (p : Nat × Nat) : p ∈ r.pairs ↔ ∃ j, j < r.n ∧ p = (r.i + j, r.k + j) := by
  simp only [Run.pairs, List.mem_map, List.mem_range]
  constructor
  · rintro ⟨j, h1, h2⟩; exact ⟨j, h1, h2.symm⟩
  · rintro ⟨j, h1, h2⟩; exact ⟨j, h1, h2.symm⟩
theorem mem_inter (r s : Run) (i z : Nat) : (i, z) ∈ (interR r s).pairs ↔ ∃ k, (i, k) ∈ r.pairs ∧ (k, z) ∈ s.pairs := by
  simp only [mem_pairs, interR, Prod.mk.injEq]
  constructor
  · rintro ⟨j, h1, h2, h3⟩
    exact ⟨max r.k s.i + j, ⟨max r.k s.i - r.k + j, by omega, by omega, by omega⟩, ⟨max r.k s.i - s.i + j, by omega, by omega, by omega⟩⟩
  · rintro ⟨k, ⟨j1, a1, a2, a3⟩, ⟨j2, b1, b2, b3⟩⟩
    exact ⟨k - max r.k s.i, by omega, by omega, by omega⟩
theorem runs_lo : ∀ (S : List Run) (i k : Nat), RunsOk i k S → ∀ p ∈ S.flatMap Run.pairs, i ≤ p.1 ∧ k ≤ p.2
  | [], _, _, _, p, hp => by simp at hp
  | s :: S, i, k, h, p, hp => by
    obtain ⟨h1, h2, _, h4⟩ := h
    rw [List.flatMap_cons, List.mem_append] at hp
    rcases hp with hp | hp
    · obtain ⟨j, _, rfl⟩ := (mem_pairs s p).1 hp
      exact ⟨by show i ≤ s.i + j; omega, by show k ≤ s.k + j; omega⟩
    · have := runs_lo S _ _ h4 p hp
      omega
theorem skip_ok : ∀ (S : List Run) (lim i k : Nat), RunsOk i k S → ∃ i' k', i ≤ i' ∧ k ≤ k' ∧ RunsOk i' k' (skipK lim S) ∧ (∀ s S', skipK lim S = s :: S' → lim < s.i + s.n) ∧
    (∀ a z, lim ≤ a → ((a, z) ∈ (skipK lim S).flatMap Run.pairs ↔ (a, z) ∈ S.flatMap Run.pairs))
  | [], lim, i, k, _ => ⟨i, k, Nat.le_refl _, Nat.le_refl _, trivial, fun s S' h => by simp [skipK] at h, fun _ _ _ => Iff.rfl⟩
  | s :: S, lim, i, k, h => by
    obtain ⟨h1, h2, h3, h4⟩ := h
    rw [skipK]
    split
    · rename_i hc
      obtain ⟨i', k', a1, a2, a3, a4, a5⟩ := skip_ok S lim _ _ h4
      refine ⟨i', k', by omega, by omega, a3, a4, fun a z ha => ?_⟩
      rw [a5 a z ha, List.flatMap_cons, List.mem_append]
      constructor
      · exact .inr
      · rintro (hm | hm)
        · obtain ⟨j, hj, he⟩ := (mem_pairs s _).1 hm
          simp only [Prod.mk.injEq] at he
          omega
        · exact hm
    · rename_i hc
      exact ⟨i, k, Nat.le_refl _, Nat.le_refl _, ⟨h1, h2, h3, h4⟩, fun s' S' he => by cases he; omega, fun _ _ _ => Iff.rfl⟩
theorem mem_inner (r : Run) : ∀ (S : List Run) (a b : Nat), RunsOk a b S → ∀ i z, ((i, z) ∈ (innerK r S).flatMap Run.pairs ↔ ∃ k, (i, k) ∈ r.pairs ∧ (k, z) ∈ S.flatMap Run.pairs)
  | [], _, _, _, i, z => by simp [innerK]
  | s :: S, a, b, h, i, z => by
    obtain ⟨h1, h2, h3, h4⟩ := h
    rw [innerK]
    split
    · rw [List.flatMap_cons, List.mem_append, mem_inter, mem_inner r S _ _ h4 i z, List.flatMap_cons]
      simp only [List.mem_append]
      constructor
      · rintro (⟨k, h5, h6⟩ | ⟨k, h5, h6⟩)
        · exact ⟨k, h5, .inl h6⟩
        · exact ⟨k, h5, .inr h6⟩
      · rintro ⟨k, h5, h6 | h6⟩
        · exact .inl ⟨k, h5, h6⟩
        · exact .inr ⟨k, h5, h6⟩
    · rename_i hc
      simp only [List.flatMap_nil, List.not_mem_nil, false_iff]
      rintro ⟨k, h5, h6⟩
      have h7 := (runs_lo (s :: S) a b ⟨h1, h2, h3, h4⟩ _ h6)
      obtain ⟨j, hj, he⟩ := (mem_pairs r _).1 h5
      simp only [Prod.mk.injEq] at he
      rw [List.flatMap_cons, List.mem_append] at h6
      rcases h6 with h6 | h6
      · obtain ⟨j2, hj2, he2⟩ := (mem_pairs s _).1 h6
        simp only [Prod.mk.injEq] at he2
        omega
      · have := runs_lo S _ _ h4 _ h6
        simp only at this
        omega
theorem mem_both : ∀ (R S : List Run) (a b c d : Nat), RunsOk a b R → RunsOk c d S → ∀ i z, ((i, z) ∈ (bothF R S).flatMap Run.pairs ↔ ∃ k, (i, k) ∈ R.flatMap Run.pairs ∧ (k, z) ∈ S.flatMap Run.pairs)
  | [], S, _, _, _, _, _, _, i, z => by simp [bothF]
  | r :: R, S, a, b, c, d, hR, hS, i, z => by
    obtain ⟨h1, h2, h3, h4⟩ := hR
    obtain ⟨c', d', _, _, g1, _, g2⟩ := skip_ok S r.k c d hS
    rw [bothF, List.flatMap_append, List.mem_append, mem_inner r _ _ _ g1 i z, mem_both R _ _ _ _ _ h4 g1 i z, List.flatMap_cons]
    simp only [List.mem_append]
    constructor
    · rintro (⟨k, h5, h6⟩ | ⟨k, h5, h6⟩)
      · obtain ⟨j, hj, he⟩ := (mem_pairs r _).1 h5
        simp only [Prod.mk.injEq] at he
        exact ⟨k, .inl h5, (g2 k z (by omega)).1 h6⟩
      · have := runs_lo R _ _ h4 _ h5
        simp only at this
        exact ⟨k, .inr h5, (g2 k z (by omega)).1 h6⟩
    · rintro ⟨k, h5 | h5, h6⟩
      · obtain ⟨j, hj, he⟩ := (mem_pairs r _).1 h5
        simp only [Prod.mk.injEq] at he
        exact .inl ⟨k, h5, (g2 k z (by omega)).2 h6⟩
      · have := runs_lo R _ _ h4 _ h5
        simp only at this
        exact .inr ⟨k, h5, (g2 k z (by omega)).2 h6⟩
end Go.Proofs.Ytapginodpikijaa
