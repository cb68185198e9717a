/- An argument of type api.Value, opened: its thirteen cells, and the shape that they lead to. -/
import Derived.Test.YtlfhiolngpoamaaVal
namespace Go.Proofs.Ytlfhiolngpoamaa
open Go.ChangeShapes Go.WideShapes Go.ChangeAt Go.RowKit

theorem VRep.up {W : World} : ∀ (m : Nat) (v : VD) (t : VT), VRep m W v t → VRep (m + 1) W v t
  | 0, _, _, h => h.elim
  | m + 1, v, .mk k l f, h => by
    obtain ⟨h1, h2, h3, h4, h5, h6, h7, h8, h9⟩ := h
    refine ⟨h1, h2, h3, h4, h5, h6, h7, fun i x hx => ?_, fun i x hx => ?_⟩
    · obtain ⟨b, o, e, ha, hb, hc, hr⟩ := h8 i x hx
      exact ⟨b, o, e, ha, hb, hc, VRep.up m e x hr⟩
    · obtain ⟨b, o, e, s, ha, hb, hs, hc, hr⟩ := h9 i x hx
      exact ⟨b, o, e, s, ha, hb, hs, hc, VRep.up m e x hr⟩
theorem VRep.ups {W : World} {m : Nat} {v : VD} {t : VT} (h : VRep m W v t) : ∀ n, m ≤ n → VRep n W v t
  | 0, hn => by
    have : m = 0 := by omega
    subst this; exact h
  | n + 1, hn => by
    rcases Nat.lt_or_ge m (n + 1) with hlt | hge
    · exact VRep.up n v t (h.ups n (by omega))
    · have : m = n + 1 := by omega
      subst this; exact h
theorem cells1 : Try.prog.cellsOf 3 = 1 := by kernel_rfl
theorem cellsB : Try.prog.cellsOf 4 = 1 := by kernel_rfl
theorem cellsS : Try.prog.cellsOf 9 = 1 := by kernel_rfl
theorem cellsD : Try.prog.cellsOf 43 = 3 := by kernel_rfl
theorem cellsT : Try.prog.cellsOf 45 = 4 := by kernel_rfl
theorem cellsY : Try.prog.cellsOf 46 = 1 := by kernel_rfl
theorem cellsL : Try.prog.cellsOf 47 = 1 := by kernel_rfl
theorem cellsF : Try.prog.cellsOf 48 = 1 := by kernel_rfl
theorem cellsV : Try.prog.cellsOf 50 = 13 := by kernel_rfl
theorem cellsFd : Try.prog.cellsOf 56 = 14 := by kernel_rfl
theorem Rd.fld {P : Program} {W : World} {m : Nat} {cs : List Value} {fs : Array Field} (hf : ∀ (i : Nat) (f : Field), fs[i]? = some f → Rd P W m f.type ((cs.drop f.offset).take (P.cellsOf f.type)))
    (i ty o k : Nat) {f : Field} (hi : fs[i]? = some f) (hty : f.type = ty) (ho : f.offset = o) (hk : P.cellsOf ty = k) : Rd P W m ty ((cs.drop o).take k) := by
  have h := hf i f hi
  rw [hty, ho, hk] at h
  exact h
theorem rd_int1 {W : World} {n : Nat} {c : Value} (h : Rd Try.prog W n 3 [c]) : ∃ z : Int, c = .int .i64 z := by
  obtain ⟨z, hz, _⟩ := Rd.int Try.underlying3 h
  exact ⟨z, by simpa using hz⟩
theorem rd_bool1 {W : World} {n : Nat} {c : Value} (h : Rd Try.prog W n 4 [c]) : ∃ z : Bool, c = .bool z := by
  obtain ⟨z, hz⟩ := Rd.bool Try.underlying4 h
  exact ⟨z, by simpa using hz⟩
theorem rd_string1 {W : World} {n : Nat} {c : Value} (h : Rd Try.prog W n 9 [c]) : ∃ z : ByteArray, c = .string z ∧ z.size ≤ maxLen := by
  obtain ⟨z, hz, hm⟩ := Rd.string Try.underlying9 h
  exact ⟨z, by simpa using hz, hm⟩
/-- A slice whose elements have k cells: the address of each. -/
theorem rd_slice_at {P : Program} {W : World} {n k : Nat} {t e : TypeId} {cs : List Value} (ht : P.underlying t = some (.slice e)) (hc : P.cellsOf e = k) (hk : 0 < k) (h : Rd P W n t cs) :
    ∃ (A : Option Addr) (len cap : Nat), cs = [.slice A len cap] ∧ len ≤ cap ∧ cap ≤ maxLen ∧
      ∀ i, i < len → ∃ (b o m : Nat) (es : List Value), A = some ⟨b, o, none⟩ ∧ b < W.heap.size ∧ n = m + 1 ∧ es.length = k ∧ (∀ j, j < k → W.cell? ⟨b, o + i * k + j, none⟩ = es[j]?) ∧ Rd P W m e es := by
  rcases Rd.slice ht h with h0 | ⟨a, len, cap, m, hn, h1, h2, h3, h4⟩
  · exact ⟨none, 0, 0, h0, Nat.le_refl _, Nat.zero_le _, fun i hi => absurd hi (by omega)⟩
  · refine ⟨some a, len, cap, h1, h2, h3, fun i hi => ?_⟩
    rw [hc] at h4
    obtain ⟨es0, hl0, hc0, _⟩ := h4 0 (by omega)
    have h5 := hc0 0 hk
    have h6 : (a.add (0 * k)).add 0 = a := by simp [Addr.add]
    rw [h6, List.getElem?_eq_getElem (by omega)] at h5
    have hsp := spot_of_cell h5
    obtain ⟨es, hl, hcs, hr⟩ := h4 i hi
    refine ⟨a.block, a.off, m, es, by obtain ⟨b, o, s⟩ := a; simp only at hsp; subst hsp; rfl, block_of_cell h5, hn, hl, fun j hj => ?_, hr⟩
    rw [← hcs j hj, add_shape hsp, add_shape rfl]
theorem list13 {α : Type} {l : List α} (h : l.length = 13) : ∃ a0 a1 a2 a3 a4 a5 a6 a7 a8 a9 a10 a11 a12, l = [a0, a1, a2, a3, a4, a5, a6, a7, a8, a9, a10, a11, a12] := by
  match l, h with
  | [a0, a1, a2, a3, a4, a5, a6, a7, a8, a9, a10, a11, a12], _ => exact ⟨a0, a1, a2, a3, a4, a5, a6, a7, a8, a9, a10, a11, a12, rfl⟩
theorem list14 {α : Type} {l : List α} (h : l.length = 14) : ∃ a0 r, l = a0 :: r ∧ r.length = 13 := by
  match l, h with
  | a0 :: r, h => exact ⟨a0, r, rfl, by simpa using h⟩

theorem rd_value {W : World} : ∀ (N n : Nat) (cs : List Value), n ≤ N → Rd Try.prog W n 50 cs → ∃ (v : VD) (t : VT), cs = v.cells ∧ VRep N W v t := by
  intro N
  induction N with
  | zero =>
    intro n cs hn h
    obtain ⟨m, hm, _⟩ := Rd.struct Try.underlying50 h
    omega
  | succ N ih =>
    intro n cs hn h
    obtain ⟨m, hm, hl, hf⟩ := Rd.struct Try.underlying50 h
    rw [cellsV] at hl
    obtain ⟨c0, c1, c2, c3, c4, c5, c6, c7, c8, c9, c10, c11, c12, rfl⟩ := list13 hl
    have g0 : Rd Try.prog W m 3 [c0] := Rd.fld hf 0 3 0 1 rfl rfl rfl cells1
    have g1 : Rd Try.prog W m 4 [c1] := Rd.fld hf 1 4 1 1 rfl rfl rfl cellsB
    have g2 : Rd Try.prog W m 43 [c2, c3, c4] := Rd.fld hf 2 43 2 3 rfl rfl rfl cellsD
    have g3 : Rd Try.prog W m 45 [c5, c6, c7, c8] := Rd.fld hf 3 45 5 4 rfl rfl rfl cellsT
    have g4 : Rd Try.prog W m 9 [c9] := Rd.fld hf 4 9 9 1 rfl rfl rfl cellsS
    have g5 : Rd Try.prog W m 46 [c10] := Rd.fld hf 5 46 10 1 rfl rfl rfl cellsY
    have g6 : Rd Try.prog W m 47 [c11] := Rd.fld hf 6 47 11 1 rfl rfl rfl cellsL
    have g7 : Rd Try.prog W m 48 [c12] := Rd.fld hf 7 48 12 1 rfl rfl rfl cellsF
    obtain ⟨k, rfl⟩ := rd_int1 g0
    obtain ⟨b1, rfl⟩ := rd_bool1 g1
    obtain ⟨m2, hm2, _, hf2⟩ := Rd.struct Try.underlying43 g2
    have d0 : Rd Try.prog W m2 4 [c2] := Rd.fld hf2 0 4 0 1 rfl rfl rfl cellsB
    have d1 : Rd Try.prog W m2 9 [c3] := Rd.fld hf2 1 9 1 1 rfl rfl rfl cellsS
    have d2 : Rd Try.prog W m2 3 [c4] := Rd.fld hf2 2 3 2 1 rfl rfl rfl cells1
    obtain ⟨b2, rfl⟩ := rd_bool1 d0
    obtain ⟨s1, rfl, _⟩ := rd_string1 d1
    obtain ⟨i1, rfl⟩ := rd_int1 d2
    obtain ⟨m3, hm3, _, hf3⟩ := Rd.struct Try.underlying45 g3
    have e0 : Rd Try.prog W m3 3 [c5] := Rd.fld hf3 0 3 0 1 rfl rfl rfl cells1
    have e1 : Rd Try.prog W m3 3 [c6] := Rd.fld hf3 1 3 1 1 rfl rfl rfl cells1
    have e2 : Rd Try.prog W m3 3 [c7] := Rd.fld hf3 2 3 2 1 rfl rfl rfl cells1
    have e3 : Rd Try.prog W m3 3 [c8] := Rd.fld hf3 3 3 3 1 rfl rfl rfl cells1
    obtain ⟨i2, rfl⟩ := rd_int1 e0
    obtain ⟨i3, rfl⟩ := rd_int1 e1
    obtain ⟨i4, rfl⟩ := rd_int1 e2
    obtain ⟨i5, rfl⟩ := rd_int1 e3
    obtain ⟨s2, rfl, _⟩ := rd_string1 g4
    have hy : ∃ (A : Option Addr) (len cap : Nat), c10 = .slice A len cap := by
      rcases Rd.slice Try.underlying46 g5 with h0 | ⟨a, len, cap, _, _, h1, _⟩
      · exact ⟨none, 0, 0, by simpa using h0⟩
      · exact ⟨some a, len, cap, by simpa using h1⟩
    obtain ⟨bA, bn, bc, rfl⟩ := hy
    obtain ⟨lA, ln, lc, hlv, hl1, hl2, hl3⟩ := rd_slice_at Try.underlying47 cellsV (by omega) g6
    obtain ⟨fA, fn, fc, hfv, hf1, hf2', hf3'⟩ := rd_slice_at Try.underlying48 cellsFd (by omega) g7
    simp only [List.cons.injEq, and_true] at hlv hfv
    subst hlv hfv
    have hL : ∀ i, i < ln → ∃ x : VT, ∃ (b o : Nat) (e : VD), lA = some ⟨b, o, none⟩ ∧ b < W.heap.size ∧ VCells W b (o + i * 13) e ∧ VRep N W e x := by
      intro i hi
      obtain ⟨b, o, q, es, ha, hb, hq, _, hcs, hr⟩ := hl3 i hi
      obtain ⟨e, x, rfl, hx⟩ := ih q es (by omega) hr
      exact ⟨x, b, o, e, ha, hb, VCells.of hcs, hx⟩
    have hF : ∀ i, i < fn → ∃ x : VT, ∃ (b o : Nat) (e : VD) (s : ByteArray), fA = some ⟨b, o, none⟩ ∧ b < W.heap.size ∧ W.cell? ⟨b, o + i * 14, none⟩ = some (.string s) ∧ VCells W b (o + i * 14 + 1) e ∧ VRep N W e x := by
      intro i hi
      obtain ⟨b, o, q, es, ha, hb, hq, hel, hcs, hr⟩ := hf3' i hi
      obtain ⟨q2, hq2, _, hff⟩ := Rd.struct Try.underlying56 hr
      obtain ⟨a0, r, rfl, hrl⟩ := list14 hel
      have k0 : Rd Try.prog W q2 9 [a0] := Rd.fld hff 0 9 0 1 rfl rfl rfl cellsS
      have k1 : Rd Try.prog W q2 50 (r.take 13) := Rd.fld hff 1 50 1 13 rfl rfl rfl cellsV
      rw [List.take_of_length_le (by omega)] at k1
      obtain ⟨s, rfl, _⟩ := rd_string1 k0
      obtain ⟨e, x, rfl, hx⟩ := ih q2 r (by omega) k1
      exact ⟨x, b, o, e, s, ha, hb, hcs 0 (by omega), VCells.of fun j hj => by
        have := hcs (j + 1) (by omega)
        rw [show o + i * 14 + 1 + j = o + i * 14 + (j + 1) from by omega, this]
        rfl, hx⟩
    obtain ⟨l, hll, hlp⟩ := choose_list ln hL
    obtain ⟨f, hfl, hfp⟩ := choose_list fn hF
    refine ⟨⟨k, b1, b2, s1, i1, i2, i3, i4, i5, s2, bA, bn, bc, lA, ln, lc, fA, fn, fc⟩, .mk k l f, rfl, rfl, hll.symm, hfl.symm, hl1, hl2, hf1, hf2', fun i x hx => ?_, fun i x hx => ?_⟩
    · obtain ⟨hi, rfl⟩ := List.getElem?_eq_some_iff.1 hx
      exact hlp i hi
    · obtain ⟨hi, rfl⟩ := List.getElem?_eq_some_iff.1 hx
      exact hfp i hi
theorem open_value {W : World} {H : Type} {enc : TypeId × Value → H} {r : Reach} {base : Nat} {v : Value} {d : DataW H} {p : List MemPlace}
    (hv : Value.okWide Try.prog W r base 50 v) (h : DataW.Trod enc Try.prog W 0 (fun _ => true) true 50 v d p) : ∃ (e : VD) (t : VT) (m : Nat), v = .agg e.cells.toArray ∧ VRep m W e t := by
  obtain ⟨cs, rfl, _⟩ := okWide_struct Try.underlying50 hv
  obtain ⟨n, hn⟩ := Rd.of_trod h
  obtain ⟨e, t, h1, h2⟩ := rd_value n n _ (Nat.le_refl _) hn
  refine ⟨e, t, n, ?_, h2⟩
  simp only [Value.cells] at h1
  rw [← h1]
end Go.Proofs.Ytlfhiolngpoamaa
