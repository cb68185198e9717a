/- Arguments in memory, as lists: slices of integers. -/
import Derived.Test.YtbfnmgiccbdglaaBase
namespace Go.Proofs.Ytbfnmgiccbdglaa
open Go.ChangeShapes Go.WideShapes Go.ChangeAt Go.RowKit

theorem add_shape {a : Addr} {i : Nat} (h0 : a.spot = none) : a.add i = ⟨a.block, a.off + i, none⟩ := by
  obtain ⟨b, o, s⟩ := a
  simp only at h0
  subst h0
  unfold Addr.add
  split
  · rename_i h; subst h; rfl
  · rfl
theorem spot_of_cell {W : World} {a : Addr} {v : Value} (h : W.cell? a = some v) : a.spot = none := by
  unfold World.cell? at h
  split at h
  · by_cases hs : a.spot.isSome
    · rw [if_pos hs] at h; cases h
    · cases hsp : a.spot with
      | none => rfl
      | some x => rw [hsp] at hs; exact absurd rfl hs
  · cases h
theorem block_of_cell {W : World} {a : Addr} {v : Value} (h : W.cell? a = some v) : a.block < W.heap.size := World.block_lt_of_cell? W _ h

/-- The slice at A, of length len, holds these numbers. -/
def IntsAt (k : IntKind) (W : World) (A : Option Addr) (len : Nat) (zs : List Int) : Prop :=
  zs.length = len ∧ (∀ z ∈ zs, (Lit.int k z).wf = true) ∧
    (0 < len → ∃ b off, A = some ⟨b, off, none⟩ ∧ b < W.heap.size ∧ ∀ i, i < len → W.cell? ⟨b, off + i, none⟩ = some (.int k (zs.getD i 0)))

/-- A choice for each index below n. -/
theorem choose_list {α : Type} {p : Nat → α → Prop} : ∀ n : Nat, (∀ i, i < n → ∃ x, p i x) → ∃ l : List α, l.length = n ∧ ∀ (i : Nat) (h : i < l.length), p i l[i]
  | 0, _ => ⟨[], rfl, fun i h => absurd h (by simp)⟩
  | n + 1, h => by
    obtain ⟨l, hl, hp⟩ := choose_list (p := p) n (fun i hi => h i (by omega))
    obtain ⟨x, hx⟩ := h n (by omega)
    refine ⟨l ++ [x], by simp [hl], fun i hi => ?_⟩
    by_cases hin : i < l.length
    · rw [List.getElem_append_left hin]; exact hp i hin
    · have he : i = n := by simp at hi; omega
      subst he
      rw [List.getElem_append_right (by omega)]
      simpa [hl] using hx

theorem rd_intslice {P : Program} {W : World} {n : Nat} {t e : TypeId} {k : IntKind} {cs : List Value} (ht : P.underlying t = some (.slice e)) (he : P.underlying e = some (.int k)) (hc : P.cellsOf e = 1)
    (h : Rd P W n t cs) : ∃ (A : Option Addr) (len cap : Nat) (zs : List Int), cs = [.slice A len cap] ∧ len ≤ cap ∧ cap ≤ maxLen ∧ IntsAt k W A len zs := by
  rcases Rd.slice ht h with h0 | ⟨a, len, cap, m, _, h1, h2, h3, h4⟩
  · exact ⟨none, 0, 0, [], h0, Nat.le_refl _, Nat.zero_le _, rfl, by simp, fun h => absurd h (by omega)⟩
  · rw [hc] at h4
    have h5 : ∀ i, i < len → ∃ z : Int, W.cell? (a.add i) = some (.int k z) ∧ (Lit.int k z).wf = true := by
      intro i hi
      obtain ⟨es, hl, hcell, hrd⟩ := h4 i hi
      obtain ⟨z, hz, hw⟩ := Rd.int he hrd
      have := hcell 0 (by omega)
      rw [hz] at this
      exact ⟨z, by simpa [Addr.add] using this, hw⟩
    obtain ⟨zs, hzl, hzs⟩ := choose_list len h5
    refine ⟨some a, len, cap, zs, h1, h2, h3, hzl, ?_, ?_⟩
    · intro z hz
      obtain ⟨i, hi, rfl⟩ := List.mem_iff_getElem.1 hz
      exact (hzs i hi).2
    · intro hpos
      have h6 := (hzs 0 (by omega)).1
      have h7 : a.add 0 = a := by simp [Addr.add]
      rw [h7] at h6
      have hsp := spot_of_cell h6
      refine ⟨a.block, a.off, by obtain ⟨b, o, s⟩ := a; simp only at hsp; subst hsp; rfl, block_of_cell h6, fun i hi => ?_⟩
      rw [← add_shape hsp, (hzs i (by omega)).1]
      simp [List.getD, List.getElem?_eq_getElem (show i < zs.length by omega)]
theorem IntsAt.keep {k : IntKind} {W w : World} {A : Option Addr} {len : Nat} {zs : List Int} (h : IntsAt k W A len zs) (hg : Gr W w) : IntsAt k w A len zs := by
  obtain ⟨h1, h2, h3⟩ := h
  refine ⟨h1, h2, fun hp => ?_⟩
  obtain ⟨b, off, h4, h5, h6⟩ := h3 hp
  exact ⟨b, off, h4, Gr.lt hg h5, fun i hi => (hg.cells.1 b _ h5).trans (h6 i hi)⟩
end Go.Proofs.Ytbfnmgiccbdglaa
