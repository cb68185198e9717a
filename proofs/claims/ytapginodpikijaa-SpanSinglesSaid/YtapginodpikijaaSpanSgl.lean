/- The single edit between two texts: plain laws. -/
import Derived.Test.YtapginodpikijaaSpanApplies
namespace Go.Proofs.Ytapginodpikijaa
open Go.ChangeShapes Go.WideShapes Go.ChangeAt Go.RowKit

/-- How many bytes both begin with, at most so many. -/
def preN : Nat → List UInt8 → List UInt8 → Nat
  | n + 1, x :: a, y :: b => if x = y then preN n a b + 1 else 0
  | _, _, _ => 0
theorem preN_le : ∀ (n : Nat) (a b : List UInt8), preN n a b ≤ n ∧ preN n a b ≤ a.length ∧ preN n a b ≤ b.length
  | 0, a, b => by simp [preN]
  | n + 1, [], b => by simp [preN]
  | n + 1, x :: a, [] => by simp [preN]
  | n + 1, x :: a, y :: b => by
    have := preN_le n a b
    rw [preN]
    split
    · simp only [List.length_cons]; omega
    · simp
theorem preN_take : ∀ (n : Nat) (a b : List UInt8), a.take (preN n a b) = b.take (preN n a b)
  | 0, a, b => by simp [preN]
  | n + 1, [], b => by simp [preN]
  | n + 1, x :: a, [] => by simp [preN]
  | n + 1, x :: a, y :: b => by
    have := preN_take n a b
    rw [preN]
    split
    · rename_i h; subst h; simp [this]
    · simp
theorem preN_yes {n : Nat} {a b : List UInt8} {p : Nat} (hp : p < n) (ha : p < a.length) (hb : p < b.length) (h : a[p] = b[p]) : preN (n - p) (a.drop p) (b.drop p) = preN (n - (p + 1)) (a.drop (p + 1)) (b.drop (p + 1)) + 1 := by
  rw [List.drop_eq_getElem_cons ha, List.drop_eq_getElem_cons hb, show n - p = (n - (p + 1)) + 1 from by omega, preN, if_pos h]
theorem preN_no {n : Nat} {a b : List UInt8} {p : Nat} (hp : p < n) (ha : p < a.length) (hb : p < b.length) (h : a[p] ≠ b[p]) : preN (n - p) (a.drop p) (b.drop p) = 0 := by
  rw [List.drop_eq_getElem_cons ha, List.drop_eq_getElem_cons hb, show n - p = (n - (p + 1)) + 1 from by omega, preN, if_neg h]
theorem preN_end (a b : List UInt8) : preN 0 a b = 0 := by simp [preN]
def sglP (a b : List UInt8) : Nat := preN (min a.length b.length) a b
def sglS (a b : List UInt8) : Nat := preN (min a.length b.length - sglP a b) a.reverse b.reverse
def sglE (a b : List UInt8) : EN := ⟨sglP a b, a.length - sglS a b, cut b (sglP a b) (b.length - sglS a b)⟩
theorem sgl_bounds (a b : List UInt8) : sglP a b + sglS a b ≤ a.length ∧ sglP a b + sglS a b ≤ b.length := by
  have h1 := preN_le (min a.length b.length) a b
  have h2 := preN_le (min a.length b.length - sglP a b) a.reverse b.reverse
  unfold sglS
  unfold sglP at *
  omega
theorem sgl_ok (a b : List UInt8) : Ok a.length 0 [sglE a b] := by
  have h := sgl_bounds a b
  refine ⟨Nat.zero_le _, ?_, ?_, trivial⟩
  · show sglP a b ≤ a.length - sglS a b; omega
  · show a.length - sglS a b ≤ a.length; omega
theorem sgl_apply (a b : List UInt8) : appF a 0 [sglE a b] = b := by
  have h := sgl_bounds a b
  have h1 : a.take (sglP a b) = b.take (sglP a b) := preN_take _ _ _
  have h2 : a.reverse.take (sglS a b) = b.reverse.take (sglS a b) := preN_take _ _ _
  have h3 : a.drop (a.length - sglS a b) = b.drop (b.length - sglS a b) := by
    have := congrArg List.reverse h2
    rw [List.reverse_take, List.reverse_take, List.reverse_reverse, List.reverse_reverse, List.length_reverse, List.length_reverse] at this
    exact this
  show cut a 0 (sglP a b) ++ cut b (sglP a b) (b.length - sglS a b) ++ a.drop (a.length - sglS a b) = b
  rw [h3, show cut a 0 (sglP a b) = cut b 0 (sglP a b) from by simpa [cut] using h1, cut_cut b 0 _ _ (Nat.zero_le _) (by omega), cut_append b 0 _ (Nat.zero_le _)]
  rfl
theorem sgl_size (a b : List UInt8) : (sglE a b).s.length ≤ b.length := by
  show (cut b (sglP a b) (b.length - sglS a b)).length ≤ _
  rw [cut_length _ _ _ (by omega)]
  omega
end Go.Proofs.Ytapginodpikijaa
