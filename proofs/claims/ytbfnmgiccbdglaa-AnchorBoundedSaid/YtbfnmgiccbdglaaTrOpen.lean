/- An argument of type api.Node, opened: its five cells, and the tree that they lead to. -/
import Derived.Test.YtbfnmgiccbdglaaTr
namespace Go.Proofs.Ytbfnmgiccbdglaa
open Go.ChangeShapes Go.WideShapes Go.ChangeAt Go.RowKit

def anyB : Nat → Prop := fun _ => True
theorem cells1 : Try.prog.cellsOf 3 = 1 := by kernel_rfl
theorem cellsS : Try.prog.cellsOf 9 = 1 := by kernel_rfl
theorem cellsL : Try.prog.cellsOf 22 = 1 := by kernel_rfl
theorem cellsN : Try.prog.cellsOf 24 = 5 := by kernel_rfl
theorem Rd.fld {P : Program} {W : World} {m : Nat} {cs : List Value} {fs : Array Field} (hf : ∀ (i : Nat) (f : Field), fs[i]? = some f → Rd P W m f.type ((cs.drop f.offset).take (P.cellsOf f.type)))
    (i ty o k : Nat) {f : Field} (hi : fs[i]? = some f) (hty : f.type = ty) (ho : f.offset = o) (hk : P.cellsOf ty = k) : Rd P W m ty ((cs.drop o).take k) := by
  have h := hf i f hi
  rw [hty, ho, hk] at h
  exact h
theorem rd_int1 {W : World} {n : Nat} {c : Value} (h : Rd Try.prog W n 3 [c]) : ∃ z : Int, c = .int .i64 z ∧ (Lit.int .i64 z).wf = true := by
  obtain ⟨z, hz, hw⟩ := Rd.int Try.underlying3 h
  exact ⟨z, by simpa using hz, hw⟩
theorem rd_string1 {W : World} {n : Nat} {c : Value} (h : Rd Try.prog W n 9 [c]) : ∃ z : List UInt8, c = .string (bs z) ∧ z.length ≤ maxLen := by
  obtain ⟨z, hz, hm⟩ := Rd.string Try.underlying9 h
  exact ⟨z.data.toList, by rw [bs_toList]; simpa using hz, hm⟩
/-- A slice whose elements have k cells: the address of each. -/
theorem rd_slice_at {P : Program} {W : World} {n k : Nat} {t e : TypeId} {cs : List Value} (ht : P.underlying t = some (.slice e)) (hc : P.cellsOf e = k) (hk : 0 < k) (h : Rd P W n t cs) :
    ∃ (A : Option Addr) (len cap : Nat), cs = [.slice A len cap] ∧ len ≤ cap ∧ cap ≤ maxLen ∧ (A = none → cap = 0) ∧
      ∀ i, i < len → ∃ (b o m : Nat) (es : List Value), A = some ⟨b, o, none⟩ ∧ b < W.heap.size ∧ n = m + 1 ∧ es.length = k ∧ (∀ j, j < k → W.cell? ⟨b, o + i * k + j, none⟩ = es[j]?) ∧ Rd P W m e es := by
  rcases Rd.slice ht h with h0 | ⟨a, len, cap, m, hn, h1, h2, h3, h4⟩
  · exact ⟨none, 0, 0, h0, Nat.le_refl _, Nat.zero_le _, fun _ => rfl, fun i hi => absurd hi (by omega)⟩
  · refine ⟨some a, len, cap, h1, h2, h3, (fun h => by cases h), fun i hi => ?_⟩
    rw [hc] at h4
    obtain ⟨es0, hl0, hc0, _⟩ := h4 0 (by omega)
    have h5 := hc0 0 hk
    have h6 : (a.add (0 * k)).add 0 = a := by simp [Addr.add]
    rw [h6, List.getElem?_eq_getElem (by omega)] at h5
    have hsp := spot_of_cell h5
    obtain ⟨es, hl, hcs, hr⟩ := h4 i hi
    refine ⟨a.block, a.off, m, es, by obtain ⟨b, o, s⟩ := a; simp only at hsp; subst hsp; rfl, block_of_cell h5, hn, hl, fun j hj => ?_, hr⟩
    rw [← hcs j hj, add_shape hsp, add_shape rfl]
theorem list5 {α : Type} {l : List α} (h : l.length = 5) : ∃ a0 a1 a2 a3 a4, l = [a0, a1, a2, a3, a4] := by
  match l, h with
  | [a0, a1, a2, a3, a4], _ => exact ⟨a0, a1, a2, a3, a4, rfl⟩
theorem rd_node {W : World} : ∀ (N n : Nat) (cs : List Value), n ≤ N → Rd Try.prog W n 24 cs → ∃ (v : ND) (t : NT), cs = v.cells ∧ NRep anyB N W v t := by
  intro N
  induction N with
  | zero =>
    intro n cs hn h
    obtain ⟨m, hm, _⟩ := Rd.struct Try.underlying24 h
    omega
  | succ N ih =>
    intro n cs hn h
    obtain ⟨m, hm, hl, hf⟩ := Rd.struct Try.underlying24 h
    rw [cellsN] at hl
    obtain ⟨c0, c1, c2, c3, c4, rfl⟩ := list5 hl
    have g0 : Rd Try.prog W m 3 [c0] := Rd.fld hf 0 3 0 1 rfl rfl rfl cells1
    have g1 : Rd Try.prog W m 9 [c1] := Rd.fld hf 1 9 1 1 rfl rfl rfl cellsS
    have g2 : Rd Try.prog W m 9 [c2] := Rd.fld hf 2 9 2 1 rfl rfl rfl cellsS
    have g3 : Rd Try.prog W m 22 [c3] := Rd.fld hf 3 22 3 1 rfl rfl rfl cellsL
    have g4 : Rd Try.prog W m 9 [c4] := Rd.fld hf 4 9 4 1 rfl rfl rfl cellsS
    obtain ⟨k, rfl, hk⟩ := rd_int1 g0
    obtain ⟨l, rfl, h1⟩ := rd_string1 g1
    obtain ⟨x, rfl, h2⟩ := rd_string1 g2
    obtain ⟨e, rfl, h4⟩ := rd_string1 g4
    obtain ⟨A, ln, lc, hlv, hl1, hl2, hl0, hl3⟩ := rd_slice_at Try.underlying22 cellsN (by omega) g3
    simp only [List.cons.injEq, and_true] at hlv
    subst hlv
    have hL : ∀ i, i < ln → ∃ y : NT, ∃ (b o : Nat) (d : ND), A = some ⟨b, o, none⟩ ∧ anyB b ∧ b < W.heap.size ∧ NCells W b (o + i * 5) d ∧ NRep anyB N W d y := by
      intro i hi
      obtain ⟨b, o, q, es, ha, hb, hq, _, hcs, hr⟩ := hl3 i hi
      obtain ⟨d, y, rfl, hy⟩ := ih q es (by omega) hr
      exact ⟨y, b, o, d, ha, trivial, hb, NCells.of hcs, hy⟩
    obtain ⟨ks, hll, hlp⟩ := choose_list ln hL
    refine ⟨⟨k, l, x, A, ln, lc, e⟩, .mk k l x ks e, rfl, rfl, rfl, rfl, rfl, hll.symm, hl1, hl2, hk, h1, h2, h4, hl0, fun i y hy => ?_⟩
    obtain ⟨hi, rfl⟩ := List.getElem?_eq_some_iff.1 hy
    exact hlp i hi
theorem open_node {W : World} {H : Type} {enc : TypeId × Value → H} {r : Reach} {base : Nat} {v : Value} {d : DataW H} {p : List MemPlace}
    (hv : Value.okWide Try.prog W r base 24 v) (h : DataW.Trod enc Try.prog W 0 (fun _ => true) true 24 v d p) : ∃ (e : ND) (t : NT) (m : Nat), v = .agg e.cells.toArray ∧ NRep anyB m W e t := by
  obtain ⟨cs, rfl, _⟩ := okWide_struct Try.underlying24 hv
  obtain ⟨n, hn⟩ := Rd.of_trod h
  obtain ⟨e, t, h1, h2⟩ := rd_node n n _ (Nat.le_refl _) hn
  refine ⟨e, t, n, ?_, h2⟩
  simp only [Value.cells] at h1
  rw [← h1]
end Go.Proofs.Ytbfnmgiccbdglaa
