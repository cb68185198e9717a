/- Spans and edits, the plain laws: no program in sight. -/
import Derived.Test.YtapginodpikijaaBase
namespace Go.Proofs.Ytapginodpikijaa

/-- An edit as it lies in memory. -/
structure ED where
  (f t : Int) (s : List UInt8)
/-- An edit whose span is valid. -/
structure EN where
  (f t : Nat) (s : List UInt8)
def EN.ed (e : EN) : ED := ⟨e.f, e.t, e.s⟩

/- ## Check -/
def validS (f t size : Int) : Bool := decide (0 ≤ f ∧ f ≤ t ∧ t ≤ size)
def checkL (size : Int) : List ED → Int → Int → Int
  | [], _, _ => 0
  | e :: r, lf, lt => if validS e.f e.t size = false then 2 else if e.f < lt ∨ (e.f = lf ∧ e.t = lt ∧ e.f = e.t) then 25 else checkL size r e.f e.t
def checkF (es : List ED) (size : Int) : Int := if 4096 < es.length then 10 else checkL size es (-1) 0
/-- The reference: the edit before, if there is one. -/
def checkLR (size : Int) : List ED → Option (Int × Int) → Int
  | [], _ => 0
  | e :: r, p => if validS e.f e.t size = false then 2 else
      match p with
      | none => checkLR size r (some (e.f, e.t))
      | some (pf, pt) => if e.f < pt ∨ pf = e.t then 25 else checkLR size r (some (e.f, e.t))
theorem checkL_eq_some (size : Int) : ∀ (es : List ED) (pf pt : Int), 0 ≤ pf → pf ≤ pt → checkL size es pf pt = checkLR size es (some (pf, pt))
  | [], _, _, _, _ => rfl
  | e :: r, pf, pt, h0, h1 => by
    rw [checkL, checkLR]
    split
    · rfl
    · rename_i hv
      simp only [validS, decide_eq_false_iff_not, Classical.not_not] at hv
      have ih := checkL_eq_some size r e.f e.t hv.1 hv.2.1
      by_cases hc : e.f < pt ∨ pf = e.t
      · rw [if_pos hc]
        rcases hc with hc | hc
        · rw [if_pos (.inl hc)]
        · by_cases hlt : e.f < pt
          · rw [if_pos (.inl hlt)]
          · rw [if_pos (.inr ⟨by omega, by omega, by omega⟩)]
      · rw [if_neg hc, if_neg (by omega), ih]
theorem checkL_eq (size : Int) (es : List ED) : checkL size es (-1) 0 = checkLR size es none := by
  cases es with
  | nil => rfl
  | cons e r =>
    rw [checkL, checkLR]
    split
    · rfl
    · rename_i hv
      simp only [validS, decide_eq_false_iff_not, Classical.not_not] at hv
      rw [if_neg (by omega), checkL_eq_some size r e.f e.t hv.1 hv.2.1]
/-- The edits in order, from an offset on. -/
def Ok (size : Nat) : Nat → List EN → Prop
  | _, [] => True
  | at_, e :: r => at_ ≤ e.f ∧ e.f ≤ e.t ∧ e.t ≤ size ∧ Ok size e.t r
theorem ok_of_checkL (size : Nat) : ∀ (es : List ED) (lf : Int) (lt : Nat), checkL size es lf lt = 0 → ∃ ns : List EN, es = ns.map EN.ed ∧ Ok size lt ns
  | [], _, _, _ => ⟨[], rfl, trivial⟩
  | e :: r, lf, lt, h => by
    rw [checkL] at h
    split at h
    · cases h
    · rename_i hv
      simp only [validS, decide_eq_false_iff_not, Classical.not_not] at hv
      split at h
      · cases h
      · rename_i hc
        obtain ⟨n, hn⟩ := Int.eq_ofNat_of_zero_le (show 0 ≤ e.t by omega)
        obtain ⟨q, hq⟩ := Int.eq_ofNat_of_zero_le hv.1
        rw [hn] at h
        obtain ⟨ns, h1, h2⟩ := ok_of_checkL size r e.f n h
        refine ⟨⟨q, n, e.s⟩ :: ns, ?_, ?_⟩
        · rw [List.map_cons, ← h1]
          congr 1
          obtain ⟨f, t, s⟩ := e
          simp only at hn hq
          subst hn hq
          rfl
        · exact ⟨by show lt ≤ q; omega, by show q ≤ n; omega, by show n ≤ size; omega, h2⟩
theorem ok_of_check (size : Nat) (es : List ED) (h : checkF es size = 0) : ∃ ns : List EN, es = ns.map EN.ed ∧ Ok size 0 ns := by
  unfold checkF at h
  split at h
  · cases h
  · exact ok_of_checkL size es (-1) 0 h

/- ## Apply -/
/-- A part of a text. -/
def cut (l : List UInt8) (i j : Nat) : List UInt8 := (l.drop i).take (j - i)
/-- The edited text, from an offset on. -/
def appF (src : List UInt8) : Nat → List EN → List UInt8
  | at_, [] => src.drop at_
  | at_, e :: r => cut src at_ e.f ++ e.s ++ appF src e.t r
/-- The runs of preserved bytes: offsets before and after, and how many. -/
structure Run where
  (i k n : Nat)
def keepR (i k j : Nat) : List Run := if i < j then [⟨i, k, j - i⟩] else []
def runsF (size : Nat) : Nat → Nat → List EN → List Run
  | at_, out, [] => keepR at_ out size
  | at_, out, e :: r => keepR at_ out e.f ++ runsF size e.t (out + (e.f - at_) + e.s.length) r
def Run.pairs (r : Run) : List (Nat × Nat) := (List.range r.n).map fun j => (r.i + j, r.k + j)
/-- The preserved bytes, one by one. -/
def pairsF (size : Nat) : Nat → Nat → List EN → List (Nat × Nat)
  | at_, out, [] => (Run.mk at_ out (size - at_)).pairs
  | at_, out, e :: r => (Run.mk at_ out (e.f - at_)).pairs ++ pairsF size e.t (out + (e.f - at_) + e.s.length) r
theorem keepR_pairs (i k j : Nat) : (keepR i k j).flatMap Run.pairs = (Run.mk i k (j - i)).pairs := by
  unfold keepR
  split
  · simp
  · rename_i h
    have : j - i = 0 := by omega
    simp [Run.pairs, this]
theorem runsF_pairs (size : Nat) : ∀ (es : List EN) (at_ out : Nat), (runsF size at_ out es).flatMap Run.pairs = pairsF size at_ out es
  | [], at_, out => keepR_pairs _ _ _
  | e :: r, at_, out => by
    rw [runsF, pairsF, List.flatMap_append, keepR_pairs, runsF_pairs size r]

/- ## Between -/
/-- The edits in normal form, from the runs. -/
def btwR (la lb : Nat) (b : List UInt8) : Nat → Nat → List Run → List EN
  | f, t, [] => if f < la ∨ t < lb then [⟨f, la, cut b t lb⟩] else []
  | f, t, r :: rs => (if f < r.i ∨ t < r.k then [⟨f, r.i, cut b t r.k⟩] else []) ++ btwR la lb b (r.i + r.n) (r.k + r.n) rs
/-- The same, from the preserved bytes. -/
def btwP (la lb : Nat) (b : List UInt8) : Nat → Nat → List (Nat × Nat) → List EN
  | f, t, [] => if f < la ∨ t < lb then [⟨f, la, cut b t lb⟩] else []
  | f, t, (i, k) :: ps => (if f < i ∨ t < k then [⟨f, i, cut b t k⟩] else []) ++ btwP la lb b (i + 1) (k + 1) ps
theorem range_map_cons (i k n : Nat) : (Run.mk i k (n + 1)).pairs = (i, k) :: (Run.mk (i + 1) (k + 1) n).pairs := by
  simp only [Run.pairs, List.range_succ_eq_map, List.map_cons, List.map_map, Nat.add_zero, List.cons.injEq, true_and]
  apply List.map_congr_left
  intro j _
  simp only [Function.comp, Prod.mk.injEq]
  omega
theorem btwP_run (la lb : Nat) (b : List UInt8) : ∀ (n i k : Nat) (ps : List (Nat × Nat)), btwP la lb b i k ((Run.mk i k n).pairs ++ ps) = btwP la lb b (i + n) (k + n) ps
  | 0, i, k, ps => by simp [Run.pairs]
  | n + 1, i, k, ps => by
    rw [range_map_cons, List.cons_append, btwP, if_neg (by omega), List.nil_append, btwP_run la lb b n (i + 1) (k + 1) ps]
    congr 1 <;> omega
theorem btwR_eq (la lb : Nat) (b : List UInt8) : ∀ (rs : List Run) (f t : Nat), (∀ r ∈ rs, 0 < r.n) → btwR la lb b f t rs = btwP la lb b f t (rs.flatMap Run.pairs)
  | [], f, t, _ => rfl
  | ⟨i, k, n⟩ :: rs, f, t, h => by
    have hn : 0 < n := h ⟨i, k, n⟩ (by simp)
    obtain ⟨n, rfl⟩ : ∃ q, n = q + 1 := ⟨n - 1, by omega⟩
    rw [btwR, btwR_eq la lb b rs _ _ (fun r hr => h r (by simp [hr])), List.flatMap_cons, range_map_cons, List.cons_append, btwP, btwP_run]
    congr 2 <;> (dsimp only; omega)
theorem runsF_pos (size : Nat) : ∀ (es : List EN) (at_ out : Nat), ∀ r ∈ runsF size at_ out es, 0 < r.n := by
  have hk : ∀ i k j, ∀ r ∈ keepR i k j, 0 < r.n := by
    intro i k j r hr
    unfold keepR at hr
    split at hr
    · simp only [List.mem_singleton] at hr
      subst hr
      simp only
      omega
    · simp at hr
  intro es
  induction es with
  | nil => intro at_ out r hr; exact hk _ _ _ r hr
  | cons e es ih =>
    intro at_ out r hr
    rw [runsF, List.mem_append] at hr
    rcases hr with hr | hr
    · exact hk _ _ _ r hr
    · exact ih _ _ r hr

/- ## Pairs: strictly rising in both coordinates -/
def Rise : Nat → Nat → List (Nat × Nat) → Prop
  | _, _, [] => True
  | i, k, (x, y) :: ps => i ≤ x ∧ k ≤ y ∧ Rise (x + 1) (y + 1) ps
theorem Rise.mono {ps : List (Nat × Nat)} {i k i' k' : Nat} (h : Rise i k ps) (hi : i' ≤ i) (hk : k' ≤ k) : Rise i' k' ps := by
  cases ps with
  | nil => trivial
  | cons p ps => exact ⟨Nat.le_trans hi h.1, Nat.le_trans hk h.2.1, h.2.2⟩
theorem Rise.run : ∀ (n i k : Nat) (ps : List (Nat × Nat)), Rise (i + n) (k + n) ps → Rise i k ((Run.mk i k n).pairs ++ ps)
  | 0, i, k, ps, h => by simpa [Run.pairs] using h
  | n + 1, i, k, ps, h => by
    rw [range_map_cons, List.cons_append]
    exact ⟨Nat.le_refl _, Nat.le_refl _, Rise.run n (i + 1) (k + 1) ps (by rw [show i + 1 + n = i + (n + 1) from by omega, show k + 1 + n = k + (n + 1) from by omega]; exact h)⟩
theorem pairsF_rise (size : Nat) : ∀ (es : List EN) (at_ out : Nat), Ok size at_ es → Rise at_ out (pairsF size at_ out es)
  | [], at_, out, _ => by
    have := Rise.run (size - at_) at_ out [] trivial
    rwa [List.append_nil] at this
  | e :: r, at_, out, h => by
    obtain ⟨h1, h2, _, h4⟩ := h
    have ih := pairsF_rise size r e.t (out + (e.f - at_) + e.s.length) h4
    exact Rise.run (e.f - at_) at_ out _ (ih.mono (by omega) (by omega))
/-- What a pair says of the two texts. -/
def Same2 (a b : List UInt8) (ps : List (Nat × Nat)) : Prop := ∀ p ∈ ps, p.1 < a.length ∧ p.2 < b.length ∧ a[p.1]? = b[p.2]?

/- ## The edits from pairs: they apply, and give the other text -/
theorem cut_self (l : List UInt8) (i : Nat) : cut l i i = [] := by simp [cut]
theorem cut_append (l : List UInt8) (i j : Nat) (h : i ≤ j) : cut l i j ++ l.drop j = l.drop i := by
  unfold cut
  have h1 : l.drop j = (l.drop i).drop (j - i) := by rw [List.drop_drop]; congr 1; omega
  rw [h1, List.take_append_drop]
theorem cut_cut (l : List UInt8) (i j k : Nat) (h : i ≤ j) (h2 : j ≤ k) : cut l i j ++ cut l j k = cut l i k := by
  unfold cut
  have h1 : l.drop j = (l.drop i).drop (j - i) := by rw [List.drop_drop]; congr 1; omega
  rw [h1, show k - i = (j - i) + (k - j) from by omega, List.take_add]
theorem cut_length (l : List UInt8) (i j : Nat) (h : j ≤ l.length) : (cut l i j).length = j - i := by
  unfold cut
  rw [List.length_take, List.length_drop]
  omega
theorem cut_succ (l : List UInt8) (i j : Nat) (h : i ≤ j) (x : UInt8) (hx : l[j]? = some x) : cut l i (j + 1) = cut l i j ++ [x] := by
  rw [← cut_cut l i j (j + 1) h (by omega)]
  congr 1
  unfold cut
  obtain ⟨hj, rfl⟩ := List.getElem?_eq_some_iff.1 hx
  rw [List.drop_eq_getElem_cons hj, show j + 1 - j = 1 from by omega]
  rfl
theorem btwP_ok (la lb : Nat) (b : List UInt8) : ∀ (ps : List (Nat × Nat)) (f t at_ : Nat), Rise f t ps → (∀ p ∈ ps, p.1 < la) → f ≤ la → at_ ≤ f → Ok la at_ (btwP la lb b f t ps)
  | [], f, t, at_, _, _, hf, ha => by
    unfold btwP
    split
    · exact ⟨ha, hf, Nat.le_refl _, trivial⟩
    · trivial
  | (i, k) :: ps, f, t, at_, hr, hl, hf, ha => by
    obtain ⟨h1, h2, h3⟩ := hr
    have hi : i < la := hl (i, k) (by simp)
    have ih := fun a h => btwP_ok la lb b ps (i + 1) (k + 1) a h3 (fun p hp => hl p (by simp [hp])) (by omega)
    unfold btwP
    split
    · exact ⟨ha, h1, by show i ≤ la; omega, ih i (by omega) (by omega)⟩
    · exact ih at_ (by omega) (by omega)
/-- Applied to a, from an offset on behind which so much has been kept already. -/
theorem appF_btwP (a b : List UInt8) : ∀ (ps : List (Nat × Nat)) (f t at_ : Nat), Rise f t ps → Same2 a b ps → f ≤ a.length → t ≤ b.length → at_ ≤ f → f - at_ ≤ t → cut a at_ f = cut b (t - (f - at_)) t →
    appF a at_ (btwP a.length b.length b f t ps) = b.drop (t - (f - at_))
  | [], f, t, at_, _, _, hf, ht, ha, hs, hk => by
    unfold btwP
    split
    · rw [appF, appF, hk, List.drop_length, List.append_nil]
      rw [cut_cut b _ t b.length (by omega) ht]
      unfold cut
      rw [List.take_of_length_le (by rw [List.length_drop]; omega)]
    · rename_i h
      have h1 : f = a.length := by omega
      have h2 : t = b.length := by omega
      rw [appF]
      have h3 : a.drop at_ = cut a at_ f := by unfold cut; rw [List.take_of_length_le (by rw [List.length_drop]; omega)]
      rw [h3, hk]
      unfold cut
      rw [List.take_of_length_le (by rw [List.length_drop]; omega)]
  | (i, k) :: ps, f, t, at_, hr, hl, hf, ht, ha, hs, hk => by
    obtain ⟨h1, h2, h3⟩ := hr
    obtain ⟨g1, g2, g3⟩ := hl (i, k) (by simp)
    simp only at g1 g2 g3
    have hl' : Same2 a b ps := fun p hp => hl p (by simp [hp])
    have hx : ∃ x, a[i]? = some x ∧ b[k]? = some x := ⟨a[i], List.getElem?_eq_getElem g1, by rw [← g3, List.getElem?_eq_getElem g1]⟩
    obtain ⟨x, hxa, hxb⟩ := hx
    unfold btwP
    split
    · rw [List.singleton_append, appF]
      have ih := appF_btwP a b ps (i + 1) (k + 1) i h3 hl' (by omega) (by omega) (by omega) (by omega) (by
        rw [cut_succ a i i (Nat.le_refl _) x hxa, cut_self, show k + 1 - (i + 1 - i) = k from by omega, cut_succ b k k (Nat.le_refl _) x hxb, cut_self])
      simp only
      rw [ih, hk, show k + 1 - (i + 1 - i) = k from by omega, cut_cut b _ t k (by omega) h2, cut_append b _ k (by omega)]
    · rename_i h
      have e1 : f = i := by omega
      have e2 : t = k := by omega
      subst e1 e2
      rw [List.nil_append]
      have ih := appF_btwP a b ps (f + 1) (t + 1) at_ h3 hl' (by omega) (by omega) (by omega) (by omega) (by
        rw [cut_succ a at_ f ha x hxa, hk, show t + 1 - (f + 1 - at_) = t - (f - at_) from by omega, cut_succ b _ t (by omega) x hxb])
      rw [ih]
      congr 1
      omega
theorem appF_btwP0 (a b : List UInt8) (ps : List (Nat × Nat)) (hr : Rise 0 0 ps) (hs : Same2 a b ps) : appF a 0 (btwP a.length b.length b 0 0 ps) = b := by
  have := appF_btwP a b ps 0 0 0 hr hs (Nat.zero_le _) (Nat.zero_le _) (Nat.le_refl _) (Nat.zero_le _) rfl
  simpa using this
/-- The preserved bytes are the same. -/
theorem pairsF_same (src : List UInt8) : ∀ (es : List EN) (at_ : Nat) (pre : List UInt8), Ok src.length at_ es → at_ ≤ src.length →
    Same2 src (pre ++ appF src at_ es) (pairsF src.length at_ pre.length es)
  | [], at_, pre, _, ha => by
    intro p hp
    rw [pairsF] at hp
    simp only [Run.pairs, List.mem_map, List.mem_range] at hp
    obtain ⟨j, hj, rfl⟩ := hp
    simp only
    rw [appF]
    refine ⟨by omega, by rw [List.length_append, List.length_drop]; omega, ?_⟩
    rw [List.getElem?_append_right (by omega), List.getElem?_drop]
    congr 1; omega
  | e :: r, at_, pre, h, ha => by
    obtain ⟨h1, h2, h3, h4⟩ := h
    intro p hp
    rw [pairsF, List.mem_append] at hp
    rw [appF]
    rcases hp with hp | hp
    · simp only [Run.pairs, List.mem_map, List.mem_range] at hp
      obtain ⟨j, hj, rfl⟩ := hp
      simp only
      have hcl := cut_length src at_ e.f (by omega)
      refine ⟨by omega, by simp only [List.length_append]; omega, ?_⟩
      rw [List.getElem?_append_right (by omega), List.append_assoc, List.getElem?_append_left (by omega)]
      unfold cut
      rw [List.getElem?_take, if_pos (by omega), List.getElem?_drop]
      congr 1; omega
    · have ih := pairsF_same src r e.t (pre ++ (cut src at_ e.f ++ e.s)) h4 h3 p (by
        simp only [List.length_append, cut_length src at_ e.f (by omega)]
        rw [← Nat.add_assoc]
        exact hp)
      simpa only [List.append_assoc] using ih
theorem appF_length (src : List UInt8) : ∀ (es : List EN) (at_ : Nat), Ok src.length at_ es → at_ ≤ src.length → (appF src at_ es).length ≤ src.length - at_ + (es.map fun e => e.s.length).sum
  | [], at_, _, _ => by rw [appF, List.length_drop]; simp
  | e :: r, at_, h, ha => by
    obtain ⟨h1, h2, h3, h4⟩ := h
    have ih := appF_length src r e.t h4 h3
    rw [appF, List.length_append, List.length_append, cut_length _ _ _ (by omega), List.map_cons, List.sum_cons]
    omega
end Go.Proofs.Ytapginodpikijaa
