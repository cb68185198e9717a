/- Edits in memory, as lists; texts as lists of bytes. -/
import Derived.Test.YtapginodpikijaaRead
import Derived.Test.YtapginodpikijaaSpanPlain3
import Derived.Laws.StructEq
namespace Go.Proofs.Ytapginodpikijaa
open Go.ChangeShapes Go.WideShapes Go.ChangeAt Go.RowKit

/- ## Texts -/
/-- A text of these bytes. -/
def bs (l : List UInt8) : ByteArray := ⟨⟨l⟩⟩
theorem bs_size (l : List UInt8) : (bs l).size = l.length := rfl
theorem bs_toList (b : ByteArray) : bs b.data.toList = b := rfl
theorem bs_extract (l : List UInt8) (i j : Nat) : (bs l).extract i j = bs (cut l i j) := by
  apply ByteArray.ext
  rw [ByteArray.data_extract]
  apply Array.ext'
  simp [bs, cut]
theorem bs_append (a b : List UInt8) : bs a ++ bs b = bs (a ++ b) := by
  apply ByteArray.ext
  apply Array.ext'
  simp [bs]
theorem bs_inj {a b : List UInt8} : bs a = bs b ↔ a = b :=
  ⟨fun h => by have := congrArg (fun x => x.data.toList) h; exact this, fun h => by rw [h]⟩
/- ## Edits -/
/-- The slice at A, of length len, holds these edits. -/
def EditsAt (W : World) (A : Option Addr) (len : Nat) (es : List ED) : Prop :=
  es.length = len ∧ (∀ e ∈ es, (Lit.int .i64 e.f).wf = true ∧ (Lit.int .i64 e.t).wf = true ∧ e.s.length ≤ maxLen) ∧
    (0 < len → ∃ b off, A = some ⟨b, off, none⟩ ∧ b < W.heap.size ∧ ∀ i (h : i < es.length), W.cell? ⟨b, off + i * 3, none⟩ = some (.int .i64 es[i].f) ∧
      W.cell? ⟨b, off + i * 3 + 1, none⟩ = some (.int .i64 es[i].t) ∧ W.cell? ⟨b, off + i * 3 + 2, none⟩ = some (.string (bs es[i].s)))
theorem EditsAt.keep {W w : World} {A : Option Addr} {len : Nat} {es : List ED} (h : EditsAt W A len es) (hg : Gr W w) : EditsAt w A len es := by
  obtain ⟨h1, h2, h3⟩ := h
  refine ⟨h1, h2, fun hp => ?_⟩
  obtain ⟨b, off, h4, h5, h6⟩ := h3 hp
  refine ⟨b, off, h4, Gr.lt hg h5, fun i hi => ?_⟩
  obtain ⟨h7, h8, h9⟩ := h6 i hi
  exact ⟨(hg.cells.1 b _ h5).trans h7, (hg.cells.1 b _ h5).trans h8, (hg.cells.1 b _ h5).trans h9⟩
theorem EditsAt.nil (W : World) (A : Option Addr) : EditsAt W A 0 [] := ⟨rfl, by simp, fun h => absurd h (by omega)⟩
theorem EditsAt.at {W : World} {A : Option Addr} {len : Nat} {es : List ED} (h : EditsAt W A len es) {i : Nat} (hi : i < len) : ∃ b off e, A = some ⟨b, off, none⟩ ∧ b < W.heap.size ∧ es[i]? = some e ∧ (Lit.int .i64 e.f).wf = true ∧ (Lit.int .i64 e.t).wf = true ∧ e.s.length ≤ maxLen ∧
    W.cell? ⟨b, off + i * 3, none⟩ = some (.int .i64 e.f) ∧ W.cell? ⟨b, off + i * 3 + 1, none⟩ = some (.int .i64 e.t) ∧ W.cell? ⟨b, off + i * 3 + 2, none⟩ = some (.string (bs e.s)) := by
  obtain ⟨h1, h2, h3⟩ := h
  obtain ⟨b, off, h4, h5, h6⟩ := h3 (by omega)
  have hi' : i < es.length := by omega
  obtain ⟨h7, h8, h9⟩ := h2 _ (List.getElem_mem hi')
  exact ⟨b, off, es[i], h4, h5, List.getElem?_eq_getElem hi', h7, h8, h9, h6 i hi'⟩
theorem Rd.fld {P : Program} {W : World} {m : Nat} {cs : List Value} {fs : Array Field} (hf : ∀ (i : Nat) (f : Field), fs[i]? = some f → Rd P W m f.type ((cs.drop f.offset).take (P.cellsOf f.type)))
    (i ty o k : Nat) {f : Field} (hi : fs[i]? = some f) (hty : f.type = ty) (ho : f.offset = o) (hk : P.cellsOf ty = k) : Rd P W m ty ((cs.drop o).take k) := by
  have h := hf i f hi
  rw [hty, ho, hk] at h
  exact h
theorem cells1 : Try.prog.cellsOf 3 = 1 := by kernel_rfl
theorem cellsS : Try.prog.cellsOf 9 = 1 := by kernel_rfl
theorem cellsSp : Try.prog.cellsOf 36 = 2 := by kernel_rfl
theorem cellsEd : Try.prog.cellsOf 44 = 3 := by kernel_rfl
theorem rd_span {W : World} {n : Nat} {cs : List Value} (h : Rd Try.prog W n 36 cs) : ∃ f t : Int, cs = [.int .i64 f, .int .i64 t] ∧ (Lit.int .i64 f).wf = true ∧ (Lit.int .i64 t).wf = true := by
  obtain ⟨zs, h1, h2, h3⟩ := rd_ints Try.underlying3 (n' := 2) (by kernel_rfl) h
  match zs, h1, h2, h3 with
  | [f, t], _, h2, h3 => exact ⟨f, t, h2, h3 _ (by simp), h3 _ (by simp)⟩
theorem rd_edit {W : World} {n : Nat} {cs : List Value} (h : Rd Try.prog W n 44 cs) : ∃ e : ED, cs = [.int .i64 e.f, .int .i64 e.t, .string (bs e.s)] ∧ (Lit.int .i64 e.f).wf = true ∧ (Lit.int .i64 e.t).wf = true ∧ e.s.length ≤ maxLen := by
  obtain ⟨m, _, hl, hf⟩ := Rd.struct Try.underlying44 h
  rw [cellsEd] at hl
  have h0 := Rd.fld hf 0 36 0 2 rfl rfl rfl cellsSp
  have h1 := Rd.fld hf 1 9 2 1 rfl rfl rfl cellsS
  obtain ⟨f, t, h2, w1, w2⟩ := rd_span h0
  obtain ⟨s, h3, w3⟩ := Rd.string Try.underlying9 h1
  match cs, hl with
  | [a, b, c], _ =>
    simp only [List.drop_zero, List.take_succ_cons, List.take_zero, List.cons.injEq, and_true] at h2
    simp only [List.drop_succ_cons, List.drop_zero, List.take_succ_cons, List.take_zero, List.cons.injEq, and_true] at h3
    obtain ⟨rfl, rfl⟩ := h2
    subst h3
    exact ⟨⟨f, t, s.data.toList⟩, by rw [bs_toList], w1, w2, w3⟩
theorem rd_edits {W : World} {n : Nat} {cs : List Value} (h : Rd Try.prog W n 22 cs) : ∃ (A : Option Addr) (len cap : Nat) (es : List ED), cs = [.slice A len cap] ∧ len ≤ cap ∧ cap ≤ maxLen ∧ EditsAt W A len es := by
  rcases Rd.slice Try.underlying22 h with h0 | ⟨a, len, cap, m, _, h1, h2, h3, h4⟩
  · exact ⟨none, 0, 0, [], h0, Nat.le_refl _, Nat.zero_le _, EditsAt.nil _ _⟩
  · rw [cellsEd] at h4
    have h5 : ∀ i, i < len → ∃ e : ED, (W.cell? ((a.add (i * 3)).add 0) = some (.int .i64 e.f) ∧ W.cell? ((a.add (i * 3)).add 1) = some (.int .i64 e.t) ∧ W.cell? ((a.add (i * 3)).add 2) = some (.string (bs e.s))) ∧ (Lit.int .i64 e.f).wf = true ∧ (Lit.int .i64 e.t).wf = true ∧ e.s.length ≤ maxLen := by
      intro i hi
      obtain ⟨es, hl, hcell, hrd⟩ := h4 i hi
      obtain ⟨e, rfl, hw⟩ := rd_edit hrd
      exact ⟨e, ⟨hcell 0 (by omega), hcell 1 (by omega), hcell 2 (by omega)⟩, hw⟩
    obtain ⟨es, hel, hes⟩ := choose_list len h5
    refine ⟨some a, len, cap, es, h1, h2, h3, hel, ?_, ?_⟩
    · intro e he
      obtain ⟨i, hi, rfl⟩ := List.mem_iff_getElem.1 he
      exact (hes i hi).2
    · intro hpos
      have h6 := (hes 0 (by omega)).1.1
      have h7 : (a.add (0 * 3)).add 0 = a := by simp [Addr.add]
      rw [h7] at h6
      have hsp := spot_of_cell h6
      refine ⟨a.block, a.off, by obtain ⟨b, o, s⟩ := a; simp only at hsp; subst hsp; rfl, block_of_cell h6, fun i hi => ?_⟩
      obtain ⟨⟨e1, e2, e3⟩, _⟩ := hes i hi
      rw [add_shape hsp, add_shape rfl] at e1 e2 e3
      exact ⟨e1, e2, e3⟩
end Go.Proofs.Ytapginodpikijaa
