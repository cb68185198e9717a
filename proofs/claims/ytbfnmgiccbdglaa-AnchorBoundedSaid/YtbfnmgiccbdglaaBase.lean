/- What every law's proof of this seat shares: from 'the call returns true and leaves all old memory alone' to the given statement's form. -/
import Derived.Test.YtbfnmgiccbdglaaRows
import Derived.WalkKit
import Derived.WalkSpells
import Derived.WalkLawsBesides
import Derived.ProofKit
import Derived.OpenShut
import Derived.ChangeOld
import Derived.Below
import Derived.Lib.Hide
namespace Go.Proofs.Ytbfnmgiccbdglaa
open Go.ChangeShapes Go.WideShapes Go.ChangeAt Go.RowKit

theorem own : ownKnob Try.prog.godebug = none := by kernel_rfl
theorem laidOut : laidOutB Try.prog = true := by kernel_rfl

/-- w' is w with at most new blocks, and writes to those. -/
def Gr (w w' : World) : Prop := Below w.heap.size w w'
theorem Gr.refl (w : World) : Gr w w := Below.refl _ _
theorem Gr.trans {a b c : World} (h : Gr a b) (k : Gr b c) : Gr a c := Below.trans h (Below.mono k h.size)
theorem Gr.alloc {a b : World} (h : Gr a b) (o : Obj) : Gr a (b.alloc o) := Below.alloc h h.size o
theorem Gr.drew {a b : World} (h : Gr a b) : Gr a b.drew := Below.drew h
theorem Gr.drewN {a b : World} (h : Gr a b) (n : Nat) : Gr a (b.drewN n) := ⟨h.os, h.tape, h.output, h.size, h.block⟩
theorem Gr.setCell {a b : World} (h : Gr a b) {p : Addr} (hp : a.heap.size ≤ p.block) (u : Value) : Gr a (b.setCell p u) := Below.setCell h hp u
theorem Gr.cells {W w1 : World} (hb : Gr W w1) : (∀ b o, b < W.heap.size → w1.cell? ⟨b, o, none⟩ = W.cell? ⟨b, o, none⟩) ∧ (∀ b o, b < W.heap.size → w1.frozen? ⟨b, o, none⟩ = W.frozen? ⟨b, o, none⟩) ∧ W.heap.size ≤ w1.heap.size :=
  ⟨fun b o h => Below.cell hb (p := ⟨b, o, none⟩) h, fun b o h => Below.frozen hb (p := ⟨b, o, none⟩) h, Below.size hb⟩
theorem Gr.lt {W w1 : World} (h : Gr W w1) {k : Nat} (hk : k < W.heap.size) : k < w1.heap.size := Nat.lt_of_lt_of_le hk (Below.size h)
theorem ret_bool {a b : Bool} (h : a = b) : Ending.returned (.bool a) = Ending.returned (.bool b) := by rw [h]
theorem ret_int {k : IntKind} {a b : Int} (h : a = b) : Ending.returned (.int k a) = .returned (.int k b) := by rw [h]
/-- a call that returns this bool and leaves old memory alone -/
def RB (v : Bool) (w : World) (e : Ending) (w' : World) : Prop := e = .returned (.bool v) ∧ Gr w w'

/-- Arguments read after the call as before, if nothing below the old heap's end has changed. -/
theorem below_trodAll {H : Type} {enc : TypeId × Value → H} {P : Program} (hl : laidOutB P = true) {W W' : World} (hb : Below W.heap.size W W') :
    ∀ (ts : List TypeId) (vs : List Value) (ds : List (DataW H)) (ps : List MemPlace), (ts.all fun t => P.readableRec t && decide (t < P.types.size)) = true →
      DataW.TrodAll enc P W 0 (fun _ => true) true ts vs ds ps → (∀ x ∈ ps, x.block < W.heap.size) →
      DataW.TrodAll enc P W' 0 (fun b => decide (b < W.heap.size)) true ts vs ds ps
  | [], [], [], _, _, h, _ => h
  | [], [], _ :: _, _, _, h, _ => h.elim
  | [], _ :: _, _, _, _, h, _ => h.elim
  | _ :: _, [], _, _, _, h, _ => h.elim
  | _ :: _, _ :: _, [], _, _, h, _ => h.elim
  | t :: ts, v :: vs, d :: ds, ps, ht, h, hlt => by
    obtain ⟨p, q, h1, h2, rfl⟩ := h
    rw [List.all_cons, Bool.and_eq_true, Bool.and_eq_true, decide_eq_true_eq] at ht
    exact ⟨p, q, Below.trod hl ht.1.1 ht.1.2 h1 hb (fun x hx => hlt x (List.mem_append_left _ hx)), below_trodAll hl hb ts vs ds q ht.2 h2 (fun x hx => hlt x (List.mem_append_right _ hx)), rfl⟩

/-- A law: from the call's contract to the form that the row asks. -/
theorem law_lifted {C : Checked} {f : FuncId} {fn : Func} {s : ChangeSpec} {tb : TypeId} {os : Os} {H : Type} {enc : TypeId × Value → H}
    (own : ownKnob C.prog.godebug = none) (started : os.Started) (noInit : C.prog.inits.idxOf? f = none) (hfn : C.prog.funcs[f]? = some fn)
    (hl : laidOutB C.prog = true) (hvars : s.vars = []) (hres : fn.resultTypes = #[tb]) (hbool : C.prog.underlying tb = some .bool)
    (hts : (fn.params.toList.all fun t => C.prog.readableRec t && decide (t < C.prog.types.size)) = true)
    (hspec : ∀ ds : List (DataW H), ds.length = fn.params.size → s.fn H ds = { results := [.lit (.bool true)], args := ds })
    (hwit : ∃ (w : World) (tape : Tape) (i : Input), w.os = os ∧ (w.forCall tape i).Shaped C.prog ∧ i.vars = [] ∧ Input.okWide C.prog (w.forCall tape i) .any w.heap.size f i ∧
      s.pre6 enc C.prog fn [] false (w.forCall tape i).memory i.args ∧ ({ modest := false } : Assume).holds C.prog (lone (Frame.enter C.prog f i.args .normal) [] (w.forCall tape i)))
    (walk : ∀ (W : World) (base : Nat) (args : Array Value) (ds : List (DataW H)) (ps : List MemPlace),
      (∀ (j : Nat) t v, fn.params[j]? = some t → args[j]? = some v → Value.okWide C.prog W .any base t v) →
      DataW.TrodAll enc C.prog W 0 (fun _ => true) true fn.params.toList args.toList ds ps → (∀ x ∈ ps, x.block < W.heap.size) →
      Calls C.prog f args W fun e W' => e = .returned (.bool true) ∧ Below W.heap.size W W') :
    ReturnsInHanded {} C os f .any (s.pre6 enc C.prog fn [] false) (s.post enc C.prog fn false true false false) := by
  refine returnsInHanded_of_change own started noInit hfn hwit ?_
  intro W base args ds gs before hval hW _ _
  have hlt := hW.lt
  have hW' := hW
  obtain ⟨p, q, hA, hV, rfl, hfz, hnd⟩ := hW
  rw [hvars] at hV
  obtain ⟨rfl, rfl⟩ := trodVars_none hV
  have hlt' : ∀ x ∈ p, x.block < W.heap.size := fun x hx => hlt x (List.mem_append_left _ hx)
  refine (walk W base args ds p hval hA hlt').mono fun e W' ⟨he, bel⟩ => ?_
  have hlen : ds.length = fn.params.size := by
    have : ∀ (ts : List TypeId) (vs : List Value) (ds : List (DataW H)) (ps : List MemPlace), DataW.TrodAll enc C.prog W 0 (fun _ => true) true ts vs ds ps → ds.length = ts.length := by
      intro ts
      induction ts with
      | nil => intro vs ds ps h; cases vs <;> cases ds <;> first | rfl | exact h.elim
      | cons t ts ih =>
        intro vs ds ps h
        cases vs with
        | nil => exact h.elim
        | cons v vs =>
          cases ds with
          | nil => exact h.elim
          | cons d ds =>
            obtain ⟨_, _, _, h2, _⟩ := h
            simp [ih _ _ _ h2]
    simpa using this _ _ _ _ hA
  have hs := hspec ds hlen
  refine ⟨_, he, ds, [], _, [], p, [], hW', ?_, ?_, ?_, bel.frame _, fun h => by cases h⟩
  · rw [List.append_nil, hs, hres]
    exact trodAll_mk1 (shut_bool hbool _)
  · rw [List.append_nil, hs]
    exact below_trodAll hl bel _ _ _ _ hts hA hlt'
  · rw [List.append_nil, hs, hvars]
    rfl

/-- These cells read as data of type t, to the bottom, in at most n steps. -/
def Rd (P : Program) (W : World) (n : Nat) (t : TypeId) (cs : List Value) : Prop :=
  ∃ (H : Type) (enc : TypeId × Value → H) (x : DataW H × List MemPlace), DataW.trod enc P W 0 (fun _ => true) true n t cs = some x
section
variable {P : Program} {W : World} {n : Nat} {t : TypeId} {cs : List Value}
theorem Rd.of_trod {H : Type} {enc : TypeId × Value → H} {v : Value} {d : DataW H} {p : List MemPlace} (h : DataW.Trod enc P W 0 (fun _ => true) true t v d p) : ∃ n, Rd P W n t v.cells.toList := by
  obtain ⟨n, hn⟩ := h
  exact ⟨n, H, enc, _, hn⟩
theorem Rd.int {k : IntKind} (ht : P.underlying t = some (.int k)) (h : Rd P W n t cs) : ∃ z : Int, cs = [.int k z] ∧ (Lit.int k z).wf = true := by
  obtain ⟨H, enc, x, hx⟩ := h
  obtain ⟨z, h1, _, h2⟩ := DataW.trod_int ht hx
  exact ⟨z, h1, h2⟩
theorem Rd.bool (ht : P.underlying t = some .bool) (h : Rd P W n t cs) : ∃ b, cs = [.bool b] := by
  obtain ⟨H, enc, x, hx⟩ := h
  obtain ⟨b, h1, _⟩ := DataW.trod_bool ht hx
  exact ⟨b, h1⟩
theorem Rd.string (ht : P.underlying t = some .string) (h : Rd P W n t cs) : ∃ s : ByteArray, cs = [.string s] ∧ s.size ≤ maxLen := by
  obtain ⟨H, enc, x, hx⟩ := h
  obtain ⟨b, h1, _, h2⟩ := DataW.trod_string ht hx
  exact ⟨b, h1, h2⟩
theorem Rd.struct {fs : Array Field} (ht : P.underlying t = some (.struct fs)) (h : Rd P W n t cs) :
    ∃ m, n = m + 1 ∧ cs.length = P.cellsOf t ∧ ∀ (i : Nat) (f : Field), fs[i]? = some f → Rd P W m f.type ((cs.drop f.offset).take (P.cellsOf f.type)) := by
  obtain ⟨H, enc, x, hx⟩ := h
  obtain ⟨xs, m, hn, _, hl, hxl, hf⟩ := DataW.trod_struct ht hx
  refine ⟨m, hn, hl, fun i f hi => ?_⟩
  have h1 := hf i f hi
  have hlt : i < fs.size := (Array.getElem?_eq_some_iff.1 hi).1
  rw [List.getElem?_eq_getElem (by omega)] at h1
  exact ⟨H, enc, _, h1⟩
theorem Rd.slice {e : TypeId} (ht : P.underlying t = some (.slice e)) (h : Rd P W n t cs) :
    cs = [.slice none 0 0] ∨ ∃ (a : Addr) (len cap m : Nat), n = m + 1 ∧ cs = [.slice (some a) len cap] ∧ len ≤ cap ∧ cap ≤ maxLen ∧
      ∀ i, i < len → ∃ es : List Value, es.length = P.cellsOf e ∧ (∀ j, j < P.cellsOf e → W.cell? ((a.add (i * P.cellsOf e)).add j) = es[j]?) ∧ Rd P W m e es := by
  obtain ⟨H, enc, x, hx⟩ := h
  rcases DataW.trod_slice ht hx with ⟨h0, _⟩ | ⟨a, len, cap, elems, rest, m, hn, hcs, _, _, hlc, hcm, hel, hi, _, _⟩
  · exact .inl h0
  · refine .inr ⟨a, len, cap, m, hn, hcs, hlc, hcm, fun i hil => ?_⟩
    have h1 := hi i hil
    rw [List.getElem?_eq_getElem (by omega)] at h1
    obtain ⟨es, h2, h3⟩ := Option.bind_eq_some_iff.1 h1
    obtain ⟨_, h4, h5⟩ := World.cells?_some h2
    exact ⟨es, h4, h5, H, enc, _, h3⟩
theorem wf_bounds {z : Int} (h : (Lit.int .i64 z).wf = true) : -9223372036854775808 ≤ z ∧ z ≤ 9223372036854775807 := by
  have h1 : IntKind.i64.min ≤ z ∧ z ≤ IntKind.i64.max := by simpa [Lit.wf] using h
  have h2 : IntKind.i64.min = -9223372036854775808 := by rfl
  have h3 : IntKind.i64.max = 9223372036854775807 := by rfl
  rw [h2, h3] at h1
  exact h1
/-- A struct of five int fields, by value. -/
def intFields (P : Program) (t ti : TypeId) (n : Nat) : Bool := match P.underlying t with
  | some (.struct fs) => decide (fs.size = n) && decide (P.cellsOf t = n) && decide (P.cellsOf ti = 1) && (List.range n).all fun i => match fs[i]? with | some f => f.offset == i && f.type == ti | none => false
  | _ => false
theorem rd_ints {k : IntKind} {ti : TypeId} {n' : Nat} (hi : P.underlying ti = some (.int k)) (hf : intFields P t ti n' = true) (h : Rd P W n t cs) :
    ∃ zs : List Int, zs.length = n' ∧ cs = zs.map (Value.int k) ∧ ∀ z ∈ zs, (Lit.int k z).wf = true := by
  unfold intFields at hf
  split at hf
  · rename_i fs ht
    simp only [Bool.and_eq_true, decide_eq_true_eq, List.all_eq_true, List.mem_range] at hf
    obtain ⟨⟨⟨h1, h2⟩, h3⟩, h4⟩ := hf
    obtain ⟨m, _, hl, hfs⟩ := Rd.struct ht h
    have key : ∀ i, i < n' → ∃ z, cs[i]? = some (.int k z) ∧ (Lit.int k z).wf = true := by
      intro i hin
      have h5 := h4 i hin
      split at h5
      · rename_i f hfi
        simp only [Bool.and_eq_true, beq_iff_eq] at h5
        have h6 := hfs i f hfi
        rw [h5.1, h5.2, h3] at h6
        obtain ⟨z, hz, hw⟩ := Rd.int hi h6
        refine ⟨z, ?_, hw⟩
        have h7 : ((cs.drop i).take 1)[0]? = some (Value.int k z) := by rw [hz]; rfl
        simpa using h7
      · cases h5
    clear hfs h4 h
    rw [h2] at hl
    clear h1 h2
    induction n' generalizing cs with
    | zero => exact ⟨[], rfl, by simpa using hl, by simp⟩
    | succ n' ih =>
      cases cs with
      | nil => simp at hl
      | cons c cs =>
        obtain ⟨z, hz, hw⟩ := key 0 (by omega)
        obtain ⟨zs, h8, h9, h10⟩ := ih (cs := cs) (by simpa using hl) (fun i hin => by simpa using key (i + 1) (by omega))
        simp only [List.getElem?_cons_zero, Option.some.injEq] at hz
        exact ⟨z :: zs, by simp [h8], by rw [hz, h9]; rfl, by intro y hy; exact (List.mem_cons.1 hy).elim (fun e => e ▸ hw) (h10 y)⟩
  · cases hf
theorem open_int5 {H : Type} {enc : TypeId × Value → H} {r : Reach} {base : Nat} {v : Value} {d : DataW H} {p : List MemPlace} {k : IntKind} {ti : TypeId} {fs : Array Field} (ht : P.underlying t = some (.struct fs)) (hi : P.underlying ti = some (.int k)) (hf : intFields P t ti 5 = true)
    (hv : Value.okWide P W r base t v) (h : DataW.Trod enc P W 0 (fun _ => true) true t v d p) :
    ∃ a b c e f : Int, v = .agg #[.int k a, .int k b, .int k c, .int k e, .int k f] ∧ ((Lit.int k a).wf = true ∧ (Lit.int k b).wf = true ∧ (Lit.int k c).wf = true ∧ (Lit.int k e).wf = true ∧ (Lit.int k f).wf = true) := by
  obtain ⟨cs, rfl, _⟩ := okWide_struct ht hv
  obtain ⟨n, hn⟩ := Rd.of_trod h
  obtain ⟨zs, h1, h2, h3⟩ := rd_ints hi hf hn
  obtain ⟨cs⟩ := cs
  simp only [Value.cells] at h2
  match zs, h1, h2, h3 with
  | [a, b, c, e, f], _, h2, h3 =>
    simp only [List.map_cons, List.map_nil] at h2
    exact ⟨a, b, c, e, f, by rw [h2], h3 _ (by simp), h3 _ (by simp), h3 _ (by simp), h3 _ (by simp), h3 _ (by simp)⟩
end

end Go.Proofs.Ytbfnmgiccbdglaa
