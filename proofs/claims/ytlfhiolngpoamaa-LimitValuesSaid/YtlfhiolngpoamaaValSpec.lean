/- Plain functions on the shapes of values: nesting and number of nodes, as the program and as the reference reckon them. -/
import Derived.Test.YtlfhiolngpoamaaValParts
namespace Go.Proofs.Ytlfhiolngpoamaa

mutual
def deepF : VT → Int → Bool
  | .mk k l f, n => if n < 1 then true else if k = 6 then deepL l (n - 1) else if k = 7 then deepL f (n - 1) else false
def deepL : List VT → Int → Bool
  | [], _ => false
  | x :: r, n => deepF x n || deepL r n
end
theorem deepF_eq (t : VT) (n : Int) : deepF t n = if n < 1 then true else deepL (partsF t) (n - 1) := by
  obtain ⟨k, l, f⟩ := t
  rw [partsF_mk, deepF]
  split
  · rfl
  · split
    · rfl
    · split
      · rfl
      · rw [deepL]
mutual
def nodesF : VT → Nat
  | .mk k l f => 1 + if k = 6 then nodesL l else if k = 7 then nodesL f else 0
def nodesL : List VT → Nat
  | [] => 0
  | x :: r => nodesF x + nodesL r
end
theorem nodesF_eq (t : VT) : nodesF t = 1 + nodesL (partsF t) := by
  obtain ⟨k, l, f⟩ := t
  rw [partsF_mk, nodesF]
  split
  · rfl
  · split
    · rfl
    · rw [nodesL]
mutual
theorem nodesF_le : ∀ t : VT, nodesF t ≤ sizeF t
  | .mk k l f => by
    have h1 := nodesL_le l
    have h2 := nodesL_le f
    rw [nodesF, sizeF]
    split
    · omega
    · split <;> omega
theorem nodesL_le : ∀ l : List VT, nodesL l ≤ sizeL l
  | [] => Nat.le_refl _
  | x :: r => by
    have h1 := nodesF_le x
    have h2 := nodesL_le r
    rw [nodesL, sizeL]
    omega
end
mutual
def countF : VT → Int → Int
  | .mk k l f, most => if k = 6 then countL l most 1 else if k = 7 then countL f most 1 else 1
def countL : List VT → Int → Int → Int
  | [], _, n => n
  | x :: r, most, n => if most < n then n else countL r most (n + countF x (most - n))
end
theorem countF_eq (t : VT) (most : Int) : countF t most = countL (partsF t) most 1 := by
  obtain ⟨k, l, f⟩ := t
  rw [partsF_mk, countF]
  split
  · rfl
  · split
    · rfl
    · rw [countL]
theorem countL_over (l : List VT) (most n : Int) (h : most < n) : countL l most n = n := by
  cases l with
  | nil => rw [countL]
  | cons x r => rw [countL, if_pos h]
mutual
theorem countF_spec : ∀ (t : VT) (most : Int), 1 ≤ countF t most ∧ countF t most ≤ nodesF t ∧ (((nodesF t : Int) ≤ most → countF t most = nodesF t) ∧ (most < (nodesF t : Int) → most < countF t most))
  | .mk k l f, most => by
    have h1 := countL_spec l most 1
    have h2 := countL_spec f most 1
    rw [countF, nodesF]
    split
    · refine ⟨by omega, by omega, fun h => ?_, fun h => ?_⟩
      · have := h1.2.2.1 (by omega); omega
      · have := h1.2.2.2 (by omega); omega
    · split
      · refine ⟨by omega, by omega, fun h => ?_, fun h => ?_⟩
        · have := h2.2.2.1 (by omega); omega
        · have := h2.2.2.2 (by omega); omega
      · exact ⟨by omega, by omega, fun _ => by omega, fun h => by omega⟩
theorem countL_spec : ∀ (l : List VT) (most n : Int), n ≤ countL l most n ∧ countL l most n ≤ n + nodesL l ∧ ((n + (nodesL l : Int) ≤ most → countL l most n = n + nodesL l) ∧ (most < n + (nodesL l : Int) → most < countL l most n))
  | [], most, n => by
    rw [countL, nodesL]
    exact ⟨by omega, by omega, fun _ => by omega, fun h => by omega⟩
  | x :: r, most, n => by
    rw [countL, nodesL]
    split
    · exact ⟨by omega, by omega, fun _ => by omega, fun h => by omega⟩
    · rename_i hn
      have h1 := countF_spec x (most - n)
      have h2 := countL_spec r most (n + countF x (most - n))
      refine ⟨by omega, by omega, fun h => ?_, fun h => ?_⟩
      · have h3 := h1.2.2.1 (by omega)
        have h4 := h2.2.2.1 (by omega)
        omega
      · by_cases hx : (nodesF x : Int) ≤ most - n
        · have h3 := h1.2.2.1 hx
          exact h2.2.2.2 (by omega)
        · have h3 := h1.2.2.2 (by omega)
          omega
end
theorem sizeL_get : ∀ (l : List VT) (i : Nat) (x : VT), l[i]? = some x → sizeF x ≤ sizeL l
  | [], i, x, h => by simp at h
  | y :: r, 0, x, h => by
    simp only [List.getElem?_cons_zero, Option.some.injEq] at h
    subst h
    rw [sizeL]; omega
  | y :: r, i + 1, x, h => by
    have := sizeL_get r i x (by simpa using h)
    rw [sizeL]; omega
theorem sizeL_parts (t : VT) : sizeL (partsF t) < sizeF t := by
  obtain ⟨k, l, f⟩ := t
  rw [partsF_mk, sizeF]
  split
  · omega
  · split
    · omega
    · rw [sizeL]; omega
theorem size_part {t x : VT} {i : Nat} (h : (partsF t)[i]? = some x) (hs : sizeF t ≤ 500) : sizeF x ≤ 500 := by
  have h1 := sizeL_get _ i x h
  have h2 := sizeL_parts t
  omega
theorem nodesL_get : ∀ (l : List VT) (i : Nat) (x : VT), l[i]? = some x → nodesL (l.take i) + nodesF x ≤ nodesL l
  | [], i, x, h => by simp at h
  | y :: r, 0, x, h => by
    simp only [List.getElem?_cons_zero, Option.some.injEq] at h
    subst h
    simp only [List.take_zero, nodesL]; omega
  | y :: r, i + 1, x, h => by
    have := nodesL_get r i x (by simpa using h)
    simp only [List.take_succ_cons, nodesL]; omega
/- What light finds: a value that is not too large. -/
mutual
theorem lightF_size : ∀ (t : VT) (d n : Int), 0 ≤ lightF t d n → (sizeF t : Int) ≤ n - lightF t d n
  | .mk k l f, d, n, h => by
    rw [lightF] at h ⊢
    split at h
    · omega
    · rename_i hc
      rw [if_neg hc]
      have h0 : 0 ≤ lightL l (d - 1) (n - 1) := by
        rcases Int.lt_or_le (lightL l (d - 1) (n - 1)) 0 with hl | hl
        · rw [lightL_neg _ _ _ hl] at h; exact h
        · exact hl
      have h1 := lightL_size l (d - 1) (n - 1) h0
      have h2 := lightL_size f (d - 1) (lightL l (d - 1) (n - 1)) h
      rw [sizeF]
      omega
theorem lightL_size : ∀ (l : List VT) (d n : Int), 0 ≤ lightL l d n → (sizeL l : Int) ≤ n - lightL l d n
  | [], d, n, h => by
    rw [lightL, sizeL]; omega
  | x :: r, d, n, h => by
    rw [lightL] at h ⊢
    split at h
    · rename_i hn
      rw [if_pos hn]
      have h0 : 0 ≤ lightF x d n := by
        rcases Int.lt_or_le (lightF x d n) 0 with hl | hl
        · rw [lightL_neg _ _ _ hl] at h; exact h
        · exact hl
      have h1 := lightF_size x d n h0
      have h2 := lightL_size r d (lightF x d n) h
      rw [sizeL]
      omega
    · omega
end
end Go.Proofs.Ytlfhiolngpoamaa
