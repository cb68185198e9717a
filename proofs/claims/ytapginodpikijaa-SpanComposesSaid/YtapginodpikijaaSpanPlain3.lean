/- Spans and edits, the theorems: undoing and composing are as the reference says, and do what they should. -/
import Derived.Test.YtapginodpikijaaSpanPlain2
namespace Go.Proofs.Ytapginodpikijaa

theorem RiseI.append : ∀ {ps qs : List (Nat × Nat)} {i m : Nat}, RiseI i ps → (∀ p ∈ ps, p.1 < m) → RiseI m qs → i ≤ m → RiseI i (ps ++ qs)
  | [], qs, i, m, _, _, hq, him => hq.mono him
  | (x, y) :: ps, qs, i, m, hp, hl, hq, _ => by
    have hx := hl (x, y) (by simp)
    exact ⟨hp.1, RiseI.append hp.2 (fun p h => hl p (by simp [h])) hq (by simp only at hx; omega)⟩
theorem pairs_riseI (r : Run) : RiseI r.i r.pairs := by
  obtain ⟨i, k, n⟩ := r
  have h := Rise.run n i k [] trivial
  rw [List.append_nil] at h
  exact h.toI
theorem inner_rise (r : Run) : ∀ (S : List Run) (a b : Nat), RunsOk a b S → RiseI (r.i + (max r.k a - r.k)) ((innerK r S).flatMap Run.pairs)
  | [], _, _, _ => trivial
  | s :: S, a, b, h => by
    obtain ⟨h1, h2, h3, h4⟩ := h
    rw [innerK]
    split
    · rw [List.flatMap_cons]
      have ih := inner_rise r S _ _ h4
      have hp := pairs_riseI (interR r s)
      refine RiseI.append (m := r.i + (max r.k (s.i + s.n) - r.k)) (hp.mono (by show r.i + (max r.k a - r.k) ≤ r.i + (max r.k s.i - r.k); omega)) (fun p hm => ?_) ih (by omega)
      obtain ⟨j, hj, rfl⟩ := (mem_pairs _ p).1 hm
      simp only [interR] at hj ⊢
      omega
    · trivial
theorem both_rise : ∀ (R S : List Run) (a b c d : Nat), RunsOk a b R → RunsOk c d S → RiseI a ((bothF R S).flatMap Run.pairs)
  | [], _, _, _, _, _, _, _ => trivial
  | r :: R, S, a, b, c, d, hR, hS => by
    obtain ⟨h1, h2, h3, h4⟩ := hR
    obtain ⟨c', d', _, _, g1, _, _⟩ := skip_ok S r.k c d hS
    rw [bothF, List.flatMap_append]
    refine RiseI.append (m := r.i + r.n) ((inner_rise r _ _ _ g1).mono (by omega)) (fun p hm => ?_) (both_rise R _ _ _ _ _ h4 g1) (by omega)
    obtain ⟨x, z⟩ := p
    obtain ⟨k, hk, _⟩ := (mem_inner r _ _ _ g1 x z).1 hm
    obtain ⟨j, hj, he⟩ := (mem_pairs r _).1 hk
    simp only [Prod.mk.injEq] at he
    simp only
    omega
theorem runsF_ok (size : Nat) : ∀ (es : List EN) (at_ out : Nat), Ok size at_ es → RunsOk at_ out (runsF size at_ out es) := by
  have hk : ∀ (i k j : Nat) (R : List Run), RunsOk (max i j) (k + (j - i)) R → RunsOk i k (keepR i k j ++ R) := by
    intro i k j R h
    have hmono : ∀ {R : List Run} {i k i' k' : Nat}, RunsOk i k R → i' ≤ i → k' ≤ k → RunsOk i' k' R := by
      intro R i k i' k' h h1 h2
      cases R with
      | nil => trivial
      | cons r R => exact ⟨Nat.le_trans h1 h.1, Nat.le_trans h2 h.2.1, h.2.2⟩
    unfold keepR
    split
    · exact ⟨Nat.le_refl _, Nat.le_refl _, by show 0 < j - i; omega, hmono h (by show i + (j - i) ≤ max i j; omega) (Nat.le_refl _)⟩
    · exact hmono h (by omega) (by omega)
  intro es
  induction es with
  | nil =>
    intro at_ out _
    have := hk at_ out size [] trivial
    rwa [List.append_nil] at this
  | cons e es ih =>
    intro at_ out h
    obtain ⟨h1, h2, h3, h4⟩ := h
    have h5 := ih e.t (out + (e.f - at_) + e.s.length) h4
    rw [runsF]
    refine hk _ _ _ _ ?_
    generalize runsF size e.t (out + (e.f - at_) + e.s.length) es = R at h5
    cases R with
    | nil => trivial
    | cons r R => exact ⟨by have := h5.1; omega, by have := h5.2.1; omega, h5.2.2⟩
theorem Rise.mem_mono : ∀ {ps : List (Nat × Nat)} {i k : Nat}, Rise i k ps → ∀ p ∈ ps, ∀ q ∈ ps, p.1 < q.1 → p.2 < q.2
  | [], _, _, _, p, hp, _, _, _ => by simp at hp
  | (x, y) :: ps, i, k, h, p, hp, q, hq, hlt => by
    have lo : ∀ {ps : List (Nat × Nat)} {i k : Nat}, Rise i k ps → ∀ p ∈ ps, i ≤ p.1 ∧ k ≤ p.2 := by
      intro ps
      induction ps with
      | nil => intro i k _ p hp; simp at hp
      | cons c ps ih =>
        intro i k h p hp
        obtain ⟨h1, h2, h3⟩ := h
        rcases List.mem_cons.1 hp with rfl | hp
        · exact ⟨h1, h2⟩
        · have := ih h3 p hp; omega
    rcases List.mem_cons.1 hp with rfl | hp
    · rcases List.mem_cons.1 hq with rfl | hq
      · omega
      · have := lo h.2.2 q hq
        simp only; omega
    · rcases List.mem_cons.1 hq with rfl | hq
      · have := lo h.2.2 p hp
        simp only at hlt; omega
      · exact Rise.mem_mono h.2.2 p hp q hq hlt
theorem rise_of : ∀ (ps : List (Nat × Nat)) (i k : Nat), RiseI i ps → (∀ p ∈ ps, k ≤ p.2) → (∀ p ∈ ps, ∀ q ∈ ps, p.1 < q.1 → p.2 < q.2) → Rise i k ps
  | [], _, _, _, _, _ => trivial
  | (x, y) :: ps, i, k, h, hk, hm => by
    refine ⟨h.1, hk (x, y) (by simp), rise_of ps (x + 1) (y + 1) h.2 (fun p hp => ?_) (fun p hp q hq => hm p (by simp [hp]) q (by simp [hq]))⟩
    have := hm (x, y) (by simp) p (by simp [hp]) (by have := RiseI.le h.2 p hp; simp only; omega)
    simp only at this
    omega
theorem btwP_length (la lb : Nat) (b : List UInt8) : ∀ (ps : List (Nat × Nat)) (f t : Nat), (btwP la lb b f t ps).length ≤ ps.length + 1
  | [], f, t => by unfold btwP; split <;> simp
  | (i, k) :: ps, f, t => by
    have := btwP_length la lb b ps (i + 1) (k + 1)
    unfold btwP
    split <;> simp only [List.length_append, List.length_cons, List.length_nil] <;> omega
theorem btwP_sum (la lb : Nat) (b : List UInt8) (hb : b.length = lb) : ∀ (ps : List (Nat × Nat)) (f t : Nat), Rise f t ps → (∀ p ∈ ps, p.2 < lb) → t ≤ lb → ((btwP la lb b f t ps).map fun e => e.s.length).sum ≤ lb - t
  | [], f, t, _, _, ht => by
    unfold btwP
    split
    · simp only [List.map_cons, List.map_nil, List.sum_cons, List.sum_nil]
      rw [cut_length _ _ _ (by omega)]
      omega
    · simp
  | (i, k) :: ps, f, t, h, hl, ht => by
    have hk := hl (i, k) (by simp)
    have ih := btwP_sum la lb b hb ps (i + 1) (k + 1) h.2.2 (fun p hp => hl p (by simp [hp])) (by simp only at hk; omega)
    have h2 := h.2.1
    simp only at hk
    unfold btwP
    split
    · simp only [List.singleton_append, List.map_cons, List.sum_cons]
      rw [cut_length _ _ _ (by omega)]
      omega
    · rw [List.nil_append]; omega
theorem rise_count : ∀ (ps : List (Nat × Nat)) (i k la lb : Nat), Rise i k ps → (∀ p ∈ ps, p.1 < la ∧ p.2 < lb) → ps.length ≤ la - i ∧ ps.length ≤ lb - k
  | [], _, _, _, _, _, _ => by simp
  | (x, y) :: ps, i, k, la, lb, h, hl => by
    have h1 := hl (x, y) (by simp)
    have ih := rise_count ps (x + 1) (y + 1) la lb h.2.2 (fun p hp => hl p (by simp [hp]))
    have h2 := h.1
    have h3 := h.2.1
    simp only [List.length_cons] at *
    omega

/- ## Undoing -/
def invF (src : List UInt8) (es : List EN) : List EN := btwR (appF src 0 es).length src.length src 0 0 ((runsF src.length 0 0 es).map Run.swap)
theorem inv_pairs (src : List UInt8) (es : List EN) : invF src es = btwP (appF src 0 es).length src.length src 0 0 ((pairsF src.length 0 0 es).map swapP) := by
  unfold invF
  rw [btwR_eq _ _ _ _ _ _ (fun r hr => by
    obtain ⟨q, hq, rfl⟩ := List.mem_map.1 hr
    exact runsF_pos _ _ _ _ q hq), swaps_pairs, runsF_pairs]
theorem pairs_facts (src : List UInt8) (es : List EN) (h : Ok src.length 0 es) : Rise 0 0 (pairsF src.length 0 0 es) ∧ Same2 src (appF src 0 es) (pairsF src.length 0 0 es) := by
  refine ⟨pairsF_rise _ _ _ _ h, ?_⟩
  have := pairsF_same src es 0 [] h (Nat.zero_le _)
  simpa using this
theorem inv_ref (src : List UInt8) (es : List EN) (h : Ok src.length 0 es) :
    invF src es = btwK (appF src 0 es).length src.length src 0 0 0 (setAll 0 (List.replicate (appF src 0 es).length (-1)) (kp 0 (keptF src.length 0 0 es))) := by
  obtain ⟨h1, h2⟩ := pairs_facts src es h
  rw [inv_pairs, btwK_eq, kp_kept _ _ _ _ h, setAll_kp _ 0 0 _ h1 (fun p hp => by have := (h2 p hp).2.1; omega)]
theorem inv_apply (src : List UInt8) (es : List EN) (h : Ok src.length 0 es) : Ok (appF src 0 es).length 0 (invF src es) ∧ appF (appF src 0 es) 0 (invF src es) = src := by
  obtain ⟨h1, h2⟩ := pairs_facts src es h
  rw [inv_pairs]
  have h3 := rise_swap _ _ _ h1
  have h4 := same_swap h2
  exact ⟨btwP_ok _ _ _ _ _ _ _ h3 (fun p hp => (h4 p hp).1) (Nat.zero_le _) (Nat.le_refl _), appF_btwP0 _ _ _ h3 h4⟩
theorem inv_sizes (src : List UInt8) (es : List EN) (h : Ok src.length 0 es) : (invF src es).length ≤ src.length + 1 ∧ ((invF src es).map fun e => e.s.length).sum ≤ src.length := by
  obtain ⟨h1, h2⟩ := pairs_facts src es h
  rw [inv_pairs]
  have h3 := rise_swap _ _ _ h1
  have h4 := same_swap h2
  have h5 := rise_count _ _ _ _ _ h3 (fun p hp => ⟨(h4 p hp).1, (h4 p hp).2.1⟩)
  have h6 := btwP_length (appF src 0 es).length src.length src ((pairsF src.length 0 0 es).map swapP) 0 0
  have h7 := btwP_sum (appF src 0 es).length src.length src rfl _ 0 0 h3 (fun p hp => (h4 p hp).2.1) (Nat.zero_le _)
  exact ⟨by omega, by omega⟩

/- ## Composing -/
def ck (first second : List Int) : List Int := first.map fun k => if k < 0 then k else second.getD k.toNat (-1)
theorem mem_kp : ∀ (l : List Int) (i a b : Nat), (a, b) ∈ kp i l ↔ ∃ j, a = i + j ∧ l[j]? = some (b : Int)
  | [], i, a, b => by simp [kp]
  | k :: r, i, a, b => by
    rw [kp]
    split
    · rename_i hk
      rw [mem_kp r (i + 1) a b]
      constructor
      · rintro ⟨j, h1, h2⟩; exact ⟨j + 1, by omega, by simpa using h2⟩
      · rintro ⟨j, h1, h2⟩
        cases j with
        | zero => simp only [List.getElem?_cons_zero, Option.some.injEq] at h2; omega
        | succ j => exact ⟨j, by omega, by simpa using h2⟩
    · rename_i hk
      rw [List.mem_cons, mem_kp r (i + 1) a b]
      constructor
      · rintro (h | ⟨j, h1, h2⟩)
        · simp only [Prod.mk.injEq] at h
          exact ⟨0, by omega, by simp only [List.getElem?_cons_zero, Option.some.injEq]; omega⟩
        · exact ⟨j + 1, by omega, by simpa using h2⟩
      · rintro ⟨j, h1, h2⟩
        cases j with
        | zero =>
          left
          simp only [List.getElem?_cons_zero, Option.some.injEq] at h2
          simp only [Prod.mk.injEq]; omega
        | succ j => exact .inr ⟨j, by omega, by simpa using h2⟩
theorem kp_riseI : ∀ (l : List Int) (i : Nat), RiseI i (kp i l)
  | [], _ => trivial
  | k :: r, i => by
    rw [kp]
    split
    · exact (kp_riseI r (i + 1)).mono (by omega)
    · exact ⟨Nat.le_refl _, kp_riseI r (i + 1)⟩
theorem mem_ck (first second : List Int) (a z : Nat) : (a, z) ∈ kp 0 (ck first second) ↔ ∃ k, (a, k) ∈ kp 0 first ∧ (k, z) ∈ kp 0 second := by
  simp only [mem_kp, Nat.zero_add, ck, List.getElem?_map]
  constructor
  · rintro ⟨j, rfl, h⟩
    cases hf : first[a]? with
    | none => rw [hf] at h; cases h
    | some k =>
      rw [hf] at h
      simp only [Option.map_some, Option.some.injEq] at h
      split at h
      · omega
      · refine ⟨k.toNat, ⟨a, rfl, by rw [hf]; congr 1; omega⟩, k.toNat, rfl, ?_⟩
        rw [List.getD_eq_getElem?_getD] at h
        cases hs : second[k.toNat]? with
        | none => rw [hs] at h; simp only [Option.getD_none] at h; omega
        | some q => rw [hs] at h; simp only [Option.getD_some] at h; rw [h]
  · rintro ⟨k, ⟨j, rfl, h1⟩, j2, rfl, h2⟩
    refine ⟨a, rfl, ?_⟩
    rw [h1]
    simp only [Option.map_some, Option.some.injEq]
    rw [if_neg (by omega), List.getD_eq_getElem?_getD, Int.toNat_natCast, h2]
    rfl
def compF (src : List UInt8) (a b : List EN) : List EN :=
  btwR src.length (appF (appF src 0 a) 0 b).length (appF (appF src 0 a) 0 b) 0 0 (bothF (runsF src.length 0 0 a) (runsF (appF src 0 a).length 0 0 b))
theorem inner_pos (r : Run) : ∀ (S : List Run) (a b : Nat), RunsOk a b S → (∀ s S', S = s :: S' → r.k < s.i + s.n) → 0 < r.n → ∀ q ∈ innerK r S, 0 < q.n
  | [], _, _, _, _, _, q, hq => by simp [innerK] at hq
  | s :: S, a, b, h, hk, hn, q, hq => by
    obtain ⟨h1, h2, h3, h4⟩ := h
    have h5 := hk s S rfl
    rw [innerK] at hq
    split at hq
    · rename_i hc
      rcases List.mem_cons.1 hq with rfl | hq
      · simp only [interR]; omega
      · exact inner_pos r S _ _ h4 (fun s' S' he => by subst he; have := h4.1; have := h4.2.2.1; omega) hn q hq
    · simp at hq
theorem both_pos : ∀ (R S : List Run) (a b c d : Nat), RunsOk a b R → RunsOk c d S → ∀ q ∈ bothF R S, 0 < q.n
  | [], _, _, _, _, _, _, _, q, hq => by simp [bothF] at hq
  | r :: R, S, a, b, c, d, hR, hS, q, hq => by
    obtain ⟨h1, h2, h3, h4⟩ := hR
    obtain ⟨c', d', _, _, g1, g0, _⟩ := skip_ok S r.k c d hS
    rw [bothF, List.mem_append] at hq
    rcases hq with hq | hq
    · exact inner_pos r _ _ _ g1 g0 h3 q hq
    · exact both_pos R _ _ _ _ _ h4 g1 q hq
/-- The pairs of the composition. -/
def compP (src : List UInt8) (a b : List EN) : List (Nat × Nat) := (bothF (runsF src.length 0 0 a) (runsF (appF src 0 a).length 0 0 b)).flatMap Run.pairs
theorem comp_pairs (src : List UInt8) (a b : List EN) (ha : Ok src.length 0 a) (hb : Ok (appF src 0 a).length 0 b) :
    compF src a b = btwP src.length (appF (appF src 0 a) 0 b).length (appF (appF src 0 a) 0 b) 0 0 (compP src a b) := by
  unfold compF compP
  rw [btwR_eq _ _ _ _ _ _ (both_pos _ _ _ _ _ _ (runsF_ok _ _ _ _ ha) (runsF_ok _ _ _ _ hb))]
theorem mem_compP (src : List UInt8) (a b : List EN) (ha : Ok src.length 0 a) (hb : Ok (appF src 0 a).length 0 b) (i z : Nat) :
    (i, z) ∈ compP src a b ↔ ∃ k, (i, k) ∈ pairsF src.length 0 0 a ∧ (k, z) ∈ pairsF (appF src 0 a).length 0 0 b := by
  unfold compP
  rw [mem_both _ _ _ _ _ _ (runsF_ok _ _ _ _ ha) (runsF_ok _ _ _ _ hb), runsF_pairs, runsF_pairs]
theorem compP_facts (src : List UInt8) (a b : List EN) (ha : Ok src.length 0 a) (hb : Ok (appF src 0 a).length 0 b) :
    Rise 0 0 (compP src a b) ∧ Same2 src (appF (appF src 0 a) 0 b) (compP src a b) := by
  obtain ⟨a1, a2⟩ := pairs_facts src a ha
  obtain ⟨b1, b2⟩ := pairs_facts _ b hb
  constructor
  · refine rise_of _ 0 0 (both_rise _ _ 0 0 0 0 (runsF_ok _ _ _ _ ha) (runsF_ok _ _ _ _ hb)) (fun _ _ => Nat.zero_le _) ?_
    rintro ⟨i, z⟩ hp ⟨j, y⟩ hq hlt
    obtain ⟨k, h1, h2⟩ := (mem_compP src a b ha hb i z).1 hp
    obtain ⟨l, h3, h4⟩ := (mem_compP src a b ha hb j y).1 hq
    have h5 := a1.mem_mono (i, k) h1 (j, l) h3 hlt
    have h6 := b1.mem_mono (k, z) h2 (l, y) h4 h5
    exact h6
  · rintro ⟨i, z⟩ hp
    obtain ⟨k, h1, h2⟩ := (mem_compP src a b ha hb i z).1 hp
    obtain ⟨c1, c2, c3⟩ := a2 _ h1
    obtain ⟨d1, d2, d3⟩ := b2 _ h2
    exact ⟨c1, d2, c3.trans d3⟩
theorem comp_ref (src : List UInt8) (a b : List EN) (ha : Ok src.length 0 a) (hb : Ok (appF src 0 a).length 0 b) :
    compF src a b = btwK src.length (appF (appF src 0 a) 0 b).length (appF (appF src 0 a) 0 b) 0 0 0 (ck (keptF src.length 0 0 a) (keptF (appF src 0 a).length 0 0 b)) := by
  rw [comp_pairs src a b ha hb, btwK_eq]
  congr 1
  refine riseI_ext _ _ 0 0 (compP_facts src a b ha hb).1.toI (kp_riseI _ _) ?_
  rintro ⟨i, z⟩
  rw [mem_compP src a b ha hb, mem_ck, kp_kept _ _ _ _ ha, kp_kept _ _ _ _ hb]
theorem comp_apply (src : List UInt8) (a b : List EN) (ha : Ok src.length 0 a) (hb : Ok (appF src 0 a).length 0 b) :
    Ok src.length 0 (compF src a b) ∧ appF src 0 (compF src a b) = appF (appF src 0 a) 0 b := by
  obtain ⟨h1, h2⟩ := compP_facts src a b ha hb
  rw [comp_pairs src a b ha hb]
  exact ⟨btwP_ok _ _ _ _ _ _ _ h1 (fun p hp => (h2 p hp).1) (Nat.zero_le _) (Nat.le_refl _), appF_btwP0 _ _ _ h1 h2⟩
theorem comp_sizes (src : List UInt8) (a b : List EN) (ha : Ok src.length 0 a) (hb : Ok (appF src 0 a).length 0 b) :
    (compF src a b).length ≤ src.length + 1 ∧ ((compF src a b).map fun e => e.s.length).sum ≤ (appF (appF src 0 a) 0 b).length := by
  obtain ⟨h1, h2⟩ := compP_facts src a b ha hb
  rw [comp_pairs src a b ha hb]
  have h5 := rise_count _ _ _ _ _ h1 (fun p hp => ⟨(h2 p hp).1, (h2 p hp).2.1⟩)
  have h6 := btwP_length src.length (appF (appF src 0 a) 0 b).length (appF (appF src 0 a) 0 b) (compP src a b) 0 0
  have h7 := btwP_sum src.length _ (appF (appF src 0 a) 0 b) rfl _ 0 0 h1 (fun p hp => (h2 p hp).2.1) (Nat.zero_le _)
  exact ⟨by omega, by omega⟩

/- ## Moving -/
def moveL : List ED → Int → Int → Int × Bool
  | [], at_, by_ => (at_ + by_, true)
  | e :: r, at_, by_ => if at_ < e.f then (at_ + by_, true) else if at_ < e.t then (e.f + by_, false) else moveL r at_ (by_ + (e.s.length - (e.t - e.f)))
def moveF (es : List ED) (at_ : Int) : Int × Bool := if at_ < 0 then (0, false) else moveL es at_ 0
/-- A preserved byte is found where it is moved to. -/
theorem move_found (src : List UInt8) : ∀ (es : List EN) (a : Nat) (pre : List UInt8) (i : Nat), Ok src.length a es → a ≤ src.length → a ≤ i → i < src.length → (moveL (es.map EN.ed) i (pre.length - a)).2 = true →
    0 ≤ (moveL (es.map EN.ed) i (pre.length - a)).1 ∧ (moveL (es.map EN.ed) i (pre.length - a)).1 < (pre ++ appF src a es).length ∧
      (pre ++ appF src a es)[(moveL (es.map EN.ed) i (pre.length - a)).1.toNat]? = src[i]?
  | [], a, pre, i, _, ha, hi, hl, _ => by
    rw [List.map_nil, moveL, appF]
    simp only [List.length_append, List.length_drop]
    refine ⟨by omega, by omega, ?_⟩
    rw [List.getElem?_append_right (by omega), List.getElem?_drop]
    congr 1; omega
  | e :: r, a, pre, i, h, ha, hi, hl, hm => by
    obtain ⟨h1, h2, h3, h4⟩ := h
    rw [List.map_cons, moveL] at hm ⊢
    have hcl := cut_length src a e.f (by omega)
    by_cases c1 : (i : Int) < (e.ed).f
    · rw [if_pos c1]
      have c1' : i < e.f := by simpa [EN.ed] using c1
      rw [appF]
      simp only [List.length_append]
      refine ⟨by omega, by omega, ?_⟩
      rw [List.getElem?_append_right (by omega), List.append_assoc, List.getElem?_append_left (by omega)]
      unfold cut
      rw [List.getElem?_take, if_pos (by omega), List.getElem?_drop]
      congr 1; omega
    · rw [if_neg c1] at hm ⊢
      by_cases c2 : (i : Int) < (e.ed).t
      · rw [if_pos c2] at hm; cases hm
      · rw [if_neg c2] at hm ⊢
        have c2' : e.t ≤ i := by simpa [EN.ed] using c2
        have hby : (pre.length : Int) - a + ((e.ed).s.length - ((e.ed).t - (e.ed).f)) = ((pre ++ (cut src a e.f ++ e.s)).length : Int) - e.t := by
          simp only [EN.ed, List.length_append]
          omega
        rw [hby] at hm ⊢
        have ih := move_found src r e.t (pre ++ (cut src a e.f ++ e.s)) i h4 h3 c2' hl hm
        rw [appF]
        simpa only [List.append_assoc] using ih
end Go.Proofs.Ytapginodpikijaa
