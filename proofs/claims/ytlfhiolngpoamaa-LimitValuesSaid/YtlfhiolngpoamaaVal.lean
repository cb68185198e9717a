/- Values in memory as trees: what a value of type api.Value leads to, and the plain functions on such trees. -/
import Derived.Test.YtlfhiolngpoamaaRead
namespace Go.Proofs.Ytlfhiolngpoamaa
open Go.ChangeShapes Go.WideShapes Go.ChangeAt Go.RowKit

/-- The shape of a value: its kind, its elements, the values of its fields. -/
inductive VT where
  | mk (kind : Int) (list fields : List VT)
/-- The thirteen cells of a value. -/
structure VD where
  (k : Int) (b1 b2 : Bool) (s1 : ByteArray) (i1 i2 i3 i4 i5 : Int) (s2 : ByteArray) (bA : Option Addr) (bn bc : Nat) (lA : Option Addr) (ln lc : Nat) (fA : Option Addr) (fn fc : Nat)
def VD.cells (v : VD) : List Value := [.int .i64 v.k, .bool v.b1, .bool v.b2, .string v.s1, .int .i64 v.i1, .int .i64 v.i2, .int .i64 v.i3, .int .i64 v.i4, .int .i64 v.i5, .string v.s2, .slice v.bA v.bn v.bc, .slice v.lA v.ln v.lc, .slice v.fA v.fn v.fc]
/-- The thirteen cells lie at this place. -/
def VCells (W : World) (b o : Nat) (v : VD) : Prop :=
  (W.cell? ⟨b, o, none⟩ = some (.int .i64 v.k) ∧ W.cell? ⟨b, o + 1, none⟩ = some (.bool v.b1) ∧ W.cell? ⟨b, o + 2, none⟩ = some (.bool v.b2) ∧ W.cell? ⟨b, o + 3, none⟩ = some (.string v.s1) ∧
    W.cell? ⟨b, o + 4, none⟩ = some (.int .i64 v.i1) ∧ W.cell? ⟨b, o + 5, none⟩ = some (.int .i64 v.i2) ∧ W.cell? ⟨b, o + 6, none⟩ = some (.int .i64 v.i3) ∧ W.cell? ⟨b, o + 7, none⟩ = some (.int .i64 v.i4) ∧
    W.cell? ⟨b, o + 8, none⟩ = some (.int .i64 v.i5) ∧ W.cell? ⟨b, o + 9, none⟩ = some (.string v.s2) ∧ W.cell? ⟨b, o + 10, none⟩ = some (.slice v.bA v.bn v.bc) ∧ W.cell? ⟨b, o + 11, none⟩ = some (.slice v.lA v.ln v.lc) ∧
    W.cell? ⟨b, o + 12, none⟩ = some (.slice v.fA v.fn v.fc))
theorem VCells.of {W : World} {b o : Nat} {v : VD} (h : ∀ j, j < 13 → W.cell? ⟨b, o + j, none⟩ = v.cells[j]?) : VCells W b o v :=
  ⟨h 0 (by omega), h 1 (by omega), h 2 (by omega), h 3 (by omega), h 4 (by omega), h 5 (by omega), h 6 (by omega), h 7 (by omega), h 8 (by omega), h 9 (by omega), h 10 (by omega), h 11 (by omega), h 12 (by omega)⟩
theorem VCells.to {W : World} {b o : Nat} {v : VD} (h : VCells W b o v) : ∀ (j : Nat) (u : Value), v.cells[j]? = some u → W.cell? ⟨b, o + j, none⟩ = some u := by
  obtain ⟨h0, h1, h2, h3, h4, h5, h6, h7, h8, h9, h10, h11, h12⟩ := h
  intro j u hu
  match j, hu with
  | 0, hu => exact h0.trans hu
  | 1, hu => exact h1.trans hu
  | 2, hu => exact h2.trans hu
  | 3, hu => exact h3.trans hu
  | 4, hu => exact h4.trans hu
  | 5, hu => exact h5.trans hu
  | 6, hu => exact h6.trans hu
  | 7, hu => exact h7.trans hu
  | 8, hu => exact h8.trans hu
  | 9, hu => exact h9.trans hu
  | 10, hu => exact h10.trans hu
  | 11, hu => exact h11.trans hu
  | 12, hu => exact h12.trans hu
  | j + 13, hu => simp [VD.cells] at hu
theorem VCells.keep {W w : World} {b o : Nat} {v : VD} (h : VCells W b o v) (hg : Gr W w) (hb : b < W.heap.size) : VCells w b o v := by
  have k := hg.cells.1
  unfold VCells at *
  simp only [k _ _ hb]
  exact h

/-- What leads from a value to its elements and to the values of its fields, m levels deep. -/
def VRep : Nat → World → VD → VT → Prop
  | 0, _, _, _ => False
  | m + 1, W, v, .mk k l f => v.k = k ∧ v.ln = l.length ∧ v.fn = f.length ∧ v.ln ≤ v.lc ∧ v.lc ≤ maxLen ∧ v.fn ≤ v.fc ∧ v.fc ≤ maxLen ∧
      (∀ (i : Nat) (x : VT), l[i]? = some x → ∃ (b o : Nat) (e : VD), v.lA = some ⟨b, o, none⟩ ∧ b < W.heap.size ∧ VCells W b (o + i * 13) e ∧ VRep m W e x) ∧
      (∀ (i : Nat) (x : VT), f[i]? = some x → ∃ (b o : Nat) (e : VD) (s : ByteArray), v.fA = some ⟨b, o, none⟩ ∧ b < W.heap.size ∧ W.cell? ⟨b, o + i * 14, none⟩ = some (.string s) ∧ VCells W b (o + i * 14 + 1) e ∧ VRep m W e x)
theorem VRep.keep {W w : World} (hg : Gr W w) : ∀ (m : Nat) (v : VD) (t : VT), VRep m W v t → VRep m w v t
  | 0, _, _, h => h
  | m + 1, v, .mk k l f, h => by
    obtain ⟨h1, h2, h3, h4, h5, h6, h7, h8, h9⟩ := h
    refine ⟨h1, h2, h3, h4, h5, h6, h7, fun i x hx => ?_, fun i x hx => ?_⟩
    · obtain ⟨b, o, e, ha, hb, hc, hr⟩ := h8 i x hx
      exact ⟨b, o, e, ha, Nat.lt_of_lt_of_le hb (Below.size hg), hc.keep hg hb, VRep.keep hg m e x hr⟩
    · obtain ⟨b, o, e, s, ha, hb, hs, hc, hr⟩ := h9 i x hx
      exact ⟨b, o, e, s, ha, Nat.lt_of_lt_of_le hb (Below.size hg), (hg.cells.1 _ _ hb).trans hs, hc.keep hg hb, VRep.keep hg m e x hr⟩

mutual
def lightF : VT → Int → Int → Int
  | .mk _ l f, d, n => if d < 1 ∨ n < 1 ∨ 200 < l.length ∨ 200 < f.length then -1 else lightL f (d - 1) (lightL l (d - 1) (n - 1))
def lightL : List VT → Int → Int → Int
  | [], _, n => n
  | x :: r, d, n => if 0 ≤ n then lightL r d (lightF x d n) else n
end
mutual
theorem lightF_le : ∀ (t : VT) (d n : Int), -1 ≤ n → -1 ≤ lightF t d n ∧ lightF t d n ≤ n
  | .mk _ l f, d, n, h => by
    unfold lightF
    split
    · omega
    · rename_i hc
      have h1 := lightL_le l (d - 1) (n - 1) (by omega)
      have h2 := lightL_le f (d - 1) (lightL l (d - 1) (n - 1)) h1.1
      omega
theorem lightL_le : ∀ (l : List VT) (d n : Int), -1 ≤ n → -1 ≤ lightL l d n ∧ lightL l d n ≤ n
  | [], _, n, h => by unfold lightL; omega
  | x :: r, d, n, h => by
    unfold lightL
    split
    · have h1 := lightF_le x d n h
      have h2 := lightL_le r d (lightF x d n) h1.1
      omega
    · omega
end
theorem lightL_neg (l : List VT) (d n : Int) (h : n < 0) : lightL l d n = n := by
  cases l with
  | nil => unfold lightL; rfl
  | cons x r => unfold lightL; rw [if_neg (by omega)]
theorem drop_cons {α : Type} {l : List α} {j : Nat} {x : α} (h : l[j]? = some x) : l.drop j = x :: l.drop (j + 1) := by
  obtain ⟨hl, hx⟩ := List.getElem?_eq_some_iff.1 h
  rw [List.drop_eq_getElem_cons hl, hx]
/-- A call that returns this int and leaves old memory alone. -/
def RI (z : Int) (w : World) (e : Ending) (w' : World) : Prop := e = .returned (.int .i64 z) ∧ Gr w w'
end Go.Proofs.Ytlfhiolngpoamaa
