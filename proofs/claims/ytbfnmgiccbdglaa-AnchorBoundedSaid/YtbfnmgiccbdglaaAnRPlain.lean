/- The visit of the reference, in plain Lean, and that it finds what the program's finds. -/
import Derived.Test.YtbfnmgiccbdglaaAnDet
import Derived.Test.YtbfnmgiccbdglaaApp
import Derived.Lib.Strings
namespace Go.Proofs.Ytbfnmgiccbdglaa
open Go.ChangeShapes Go.WideShapes Go.ChangeAt Go.RowKit

theorem heapOldR {w : World} {o : Obj} {k : Nat} (h : k < w.heap.size) : (w.alloc o).heap[k]? = w.heap[k]? := by
  show (w.heap.push o)[k]? = _
  rw [Array.getElem?_push, if_neg (by omega)]
theorem bs_listR (l : List UInt8) : (bs l).toList = l := Lib.toList_data _
theorem Gr.grownOwnR {w W w1 : World} {row : Option Nat} (h : Gr w W) (hg : W.grownBy w1 row) (hr : ∀ k, row = some k → w.heap.size ≤ k) : Gr w w1 := Below.grown h hg h.size hr
theorem bs_drop1R (s : List UInt8) : (bs s).extract 1 (bs s).size = bs (s.drop 1) := by
  apply ByteArray.ext
  apply Array.ext'
  simp [bs, ByteArray.size]
  exact List.take_of_length_le (by simp)
theorem infoStrR : (Try.prog.info? 9).map (fun i => (i.zero, i.size, i.bytes)) = some (some (.string ⟨#[]⟩), 1, 16) := by kernel_rfl
theorem five_setR {W : World} {p : Nat} {a b c d e : Value} {T : TypeId} (h : W.heap[p]? = some (.cells #[a, b, c, d, e] T (0, 0))) (a' b' c' d' e' : Value) : (((((W.setCell ⟨p, 0, none⟩ a').setCell ⟨p, 1, none⟩ b').setCell ⟨p, 2, none⟩ c').setCell ⟨p, 3, none⟩ d').setCell ⟨p, 4, none⟩ e').heap[p]? = some (.cells #[a', b', c', d', e'] T (0, 0)) := by
  simp [World.setCell, Array.getElem?_modify, h]
/-- The names of all anchors, those that are complete with what they name and its cost, the usage, the error. -/
structure RSt where
  names : List (List UInt8)
  done : List (List UInt8 × NT × Int)
  u : U5
  err : Int
def findD {α : Type} (l : List (List UInt8 × α)) (s : List UInt8) : Option (List UInt8 × α) := l.find? (fun e => e.1 == s)
def resU (r : Res) : U5 := ⟨r.d, r.n, r.b, r.a, r.x⟩
def aliR (L : U5) (t : NT) (st : RSt) : RSt × NT × Int :=
  match findD st.done (t.x.drop 1) with
  | none => ({ st with err := 11 }, t, 0)
  | some (_, t', c) => if (aliasU L st.u c).c = 0 then ({ st with u := resU (aliasU L st.u c) }, t', c) else ({ st with err := (aliasU L st.u c).c }, t, 0)
def addN (st : RSt) (nm : List UInt8) : RSt := { st with names := st.names ++ [nm] }
def addD (st : RSt) (nm : List UInt8) (t : NT) (c : Int) : RSt := { st with done := st.done ++ [(nm, t, c)] }
def cost0 (k : Int) : Int := if k = 2 ∨ k = 3 ∨ k = 4 then 1 else 0
mutual
def visR (g : Bool) (L : U5) : NT → RSt → RSt × NT × Int
  | .mk k l x ks e, st =>
    if st.err ≠ 0 then (st, .mk k l x ks e, 0)
    else if k = 10 then aliR L (.mk k l x ks e) st
    else if k = 9 then (if x.drop 1 ∈ st.names then ({ st with err := 8 }, .mk k l x ks e, 0) else visRA g L (x.drop 1) ks (addN st (x.drop 1)))
    else ((visRL g L ks st (cost0 k)).1, .mk k l x (visRL g L ks st (cost0 k)).2.1 e, (visRL g L ks st (cost0 k)).2.2)
def visRA (g : Bool) (L : U5) (nm : List UInt8) : List NT → RSt → RSt × NT × Int
  | [], st => (st, .mk 0 [] [] [] [], 0)
  | y :: _, st => (addD (visR g L y st).1 nm (visR g L y st).2.1 (visR g L y st).2.2, (visR g L y st).2.1, (visR g L y st).2.2)
def visRL (g : Bool) (L : U5) : List NT → RSt → Int → RSt × List NT × Int
  | [], st, acc => (st, [], acc)
  | y :: r, st, acc => ((visRL g L r (visR g L y st).1 (wrap64 (acc + (visR g L y st).2.2))).1, (if g = true then [(visR g L y st).2.1] else []) ++ (visRL g L r (visR g L y st).1 (wrap64 (acc + (visR g L y st).2.2))).2.1, (visRL g L r (visR g L y st).1 (wrap64 (acc + (visR g L y st).2.2))).2.2)
end
theorem visR_eq (g : Bool) (L : U5) (t : NT) (st : RSt) : visR g L t st = if st.err ≠ 0 then (st, t, 0)
    else if t.k = 10 then aliR L t st
    else if t.k = 9 then (if t.x.drop 1 ∈ st.names then ({ st with err := 8 }, t, 0) else visRA g L (t.x.drop 1) t.ks (addN st (t.x.drop 1)))
    else ((visRL g L t.ks st (cost0 t.k)).1, .mk t.k t.l t.x (visRL g L t.ks st (cost0 t.k)).2.1 t.e, (visRL g L t.ks st (cost0 t.k)).2.2) := by
  obtain ⟨k, l, x, ks, e⟩ := t
  rw [visR]; rfl
theorem visRL_err (g : Bool) (L : U5) : ∀ (l : List NT) (st : RSt) (acc : Int), st.err ≠ 0 → (visRL g L l st acc).1 = st
  | [], st, acc, _ => by rw [visRL]
  | y :: r, st, acc, h => by
    have h1 : (visR g L y st).1 = st := by rw [visR_eq, if_pos h]
    rw [visRL, h1]
    exact visRL_err g L r st _ h
/- ## Keys that are there stay as they are -/
mutual
theorem visF_keep (L : U5) : ∀ (t : NT) (st : AS) (s : List UInt8), (st.E s).isSome = true → (visF L t st).2.2.E s = st.E s
  | .mk k l x ks e, st, s, h => by
    rw [visF]
    split
    · split
      · rfl
      · rename_i hn
        exact visA_keep L (x.drop 1) ks st s h (fun he => hn (he ▸ h))
    · split
      · cases hE : st.E (x.drop 1) with
        | none => rfl
        | some p =>
          obtain ⟨kt, co⟩ := p
          cases co with
          | none => rfl
          | some c =>
            simp only
            split <;> rfl
      · exact visL_keep L ks st _ s h
theorem visA_keep (L : U5) (nm : List UInt8) : ∀ (l : List NT) (st : AS) (s : List UInt8), (st.E s).isSome = true → s ≠ nm → (visA L nm l st).2.2.E s = st.E s
  | [], st, s, h, _ => by rw [visA]
  | y :: r, st, s, h, hn => by
    have ha : (st.add nm y none).E s = st.E s := if_neg hn
    have h1 := visF_keep L y (st.add nm y none) s (by rw [ha]; exact h)
    rw [visA]
    show (if s = nm then _ else _) = _
    rw [if_neg hn, h1, ha]
theorem visL_keep (L : U5) : ∀ (l : List NT) (st : AS) (acc : Int) (s : List UInt8), (st.E s).isSome = true → (visL L l st acc).2.2.E s = st.E s
  | [], st, acc, s, h => by rw [visL]
  | y :: r, st, acc, s, h => by
    have h1 := visF_keep L y st s h
    rw [visL]
    split
    · rw [visL_keep L r _ _ s (by rw [h1]; exact h), h1]
    · exact h1
end
/- ## Both find the same -/
def costE (st : AS) (s : List UInt8) : Option Int := match st.E s with
  | some (_, some c) => some c
  | _ => none
structure RInv (st : AS) (r : RSt) : Prop where
  err : r.err = 0
  u : r.u = st.u
  names : ∀ s, (st.E s).isSome = true ↔ s ∈ r.names
  done : ∀ s, (findD r.done s).map (fun e => e.2.2) = costE st s
theorem findD_app {α : Type} (l : List (List UInt8 × α)) (e : List UInt8 × α) (s : List UInt8) : findD (l ++ [e]) s = (findD l s).or (if e.1 = s then some e else none) := by
  unfold findD
  rw [List.find?_append]
  congr 1
  simp only [List.find?_cons, List.find?_nil]
  by_cases h : e.1 = s
  · simp [h]
  · have : (e.1 == s) = false := by simp [h]
    rw [this, if_neg h]
theorem RInv.alias {L : U5} {st : AS} {r : RSt} (h : RInv st r) (t : NT) (q : Int × Int × AS) (hq : q = (match st.E (t.x.drop 1) with
      | some (_, some c) => if (aliasU L st.u c).c = 0 then (c, 0, { st with u := ⟨(aliasU L st.u c).d, (aliasU L st.u c).n, (aliasU L st.u c).b, (aliasU L st.u c).a, (aliasU L st.u c).x⟩ }) else (0, (aliasU L st.u c).c, st)
      | _ => (0, 11, st))) : (q.2.1 = 0 → RInv q.2.2 (aliR L t r).1 ∧ (aliR L t r).2.2 = q.1) ∧ (q.2.1 ≠ 0 → (aliR L t r).1.err = q.2.1) := by
  have hd := h.done (t.x.drop 1)
  unfold costE at hd
  unfold aliR
  cases hE : st.E (t.x.drop 1) with
  | none =>
    rw [hE] at hq hd
    have hf : findD r.done (t.x.drop 1) = none := Option.map_eq_none_iff.1 hd
    rw [hf, hq]
    exact ⟨fun h => absurd h (show ¬(11 : Int) = 0 by decide), fun _ => rfl⟩
  | some p =>
    obtain ⟨kt, co⟩ := p
    cases co with
    | none =>
      rw [hE] at hq hd
      have hf : findD r.done (t.x.drop 1) = none := Option.map_eq_none_iff.1 hd
      rw [hf, hq]
      exact ⟨fun h => absurd h (show ¬(11 : Int) = 0 by decide), fun _ => rfl⟩
    | some c =>
      rw [hE] at hq hd
      simp only at hq hd
      obtain ⟨e, he, hc⟩ := Option.map_eq_some_iff.1 hd
      obtain ⟨s, t', c'⟩ := e
      simp only at hc
      subst hc
      rw [he]
      simp only
      rw [h.u]
      by_cases hz : (aliasU L st.u c').c = 0
      · rw [if_pos hz] at hq ⊢
        rw [hq]
        exact ⟨fun _ => ⟨⟨h.err, rfl, h.names, h.done⟩, rfl⟩, fun hn => absurd rfl hn⟩
      · rw [if_neg hz] at hq ⊢
        rw [hq]
        exact ⟨fun hn => absurd hn hz, fun _ => rfl⟩
theorem RInv.add {st : AS} {r : RSt} (h : RInv st r) {nm : List UInt8} (hn : ¬(st.E nm).isSome = true) (y : NT) : RInv (st.add nm y none) (addN r nm) := by
  refine ⟨h.err, h.u, fun s => ?_, fun s => ?_⟩
  · show (if s = nm then _ else _ : Option (NT × Option Int)).isSome = true ↔ s ∈ r.names ++ [nm]
    rw [List.mem_append, List.mem_singleton]
    by_cases hs : s = nm
    · rw [if_pos hs]
      exact ⟨fun _ => .inr hs, fun _ => rfl⟩
    · rw [if_neg hs, h.names s]
      exact ⟨.inl, fun h => h.resolve_right hs⟩
  · show (findD r.done s).map (fun e => e.2.2) = costE (st.add nm y none) s
    rw [h.done s]
    unfold costE
    show _ = (match (if s = nm then some (y, none) else st.E s : Option (NT × Option Int)) with
      | some (_, some c) => some c
      | _ => none)
    by_cases hs : s = nm
    · rw [if_pos hs, hs]
      cases hE : st.E nm with
      | none => rfl
      | some p => exact absurd (by rw [hE]; rfl) hn
    · rw [if_neg hs]
theorem RInv.fin {st : AS} {r : RSt} (h : RInv st r) {nm : List UInt8} {y : NT} (he : st.E nm = some (y, none)) (t : NT) (c : Int) : RInv (st.done nm c) (addD r nm t c) := by
  refine ⟨h.err, h.u, fun s => ?_, fun s => ?_⟩
  · refine Iff.trans ?_ (h.names s)
    show (if s = nm then (st.E s).map (fun p => (p.1, some c)) else st.E s).isSome = true ↔ _
    by_cases hs : s = nm
    · rw [if_pos hs, Option.isSome_map]
    · rw [if_neg hs]
  · show (findD (r.done ++ [(nm, t, c)]) s).map (fun e => e.2.2) = costE (st.done nm c) s
    rw [findD_app]
    have hd := h.done s
    unfold costE at hd ⊢
    show _ = (match (if s = nm then (st.E s).map (fun p => (p.1, some c)) else st.E s) with
      | some (_, some c) => some c
      | _ => none)
    by_cases hs : s = nm
    · subst hs
      rw [he] at hd ⊢
      have hf : findD r.done s = none := Option.map_eq_none_iff.1 hd
      rw [hf, if_pos rfl, if_pos rfl]
      rfl
    · rw [if_neg (fun e => hs e.symm), if_neg hs, Option.or_none]
      exact hd
mutual
theorem visR_law (g : Bool) (L : U5) : ∀ (t : NT) (st : AS) (r : RSt), markedB t = true → RInv st r →
    ((visF L t st).2.1 = 0 → RInv (visF L t st).2.2 (visR g L t r).1 ∧ (visR g L t r).2.2 = (visF L t st).1) ∧ ((visF L t st).2.1 ≠ 0 → (visR g L t r).1.err = (visF L t st).2.1)
  | .mk k l x ks e, st, r, hm, h => by
    have he : ¬r.err ≠ 0 := by rw [h.err]; decide
    by_cases h10 : k = 10
    · have hF := visF_eq L (.mk k l x ks e) st
      rw [if_neg (show ¬(NT.mk k l x ks e).k = 9 from fun hn => by rw [show (NT.mk k l x ks e).k = k from rfl, h10] at hn; cases hn), if_pos (show (NT.mk k l x ks e).k = 10 from h10)] at hF
      rw [hF, visR_eq, if_neg he, if_pos (show (NT.mk k l x ks e).k = 10 from h10)]
      exact h.alias (.mk k l x ks e) _ rfl
    · by_cases h9 : k = 9
      · rw [visF, if_pos h9, visR, if_neg he, if_neg h10, if_pos h9]
        by_cases hs : (st.E (x.drop 1)).isSome = true
        · rw [if_pos hs, if_pos ((h.names _).1 hs)]
          exact ⟨fun hn => absurd hn (show ¬(8 : Int) = 0 by decide), fun _ => rfl⟩
        · rw [if_neg hs, if_neg (fun hn => hs ((h.names _).2 hn))]
          have hk := (marked_anchor hm h9).2
          exact visRA_law g L (x.drop 1) ks st (r) (marked_bad hm).2 hk hs h
      · rw [visF, if_neg h9, if_neg h10, visR, if_neg he, if_neg h10, if_neg h9]
        exact visRL_law g L ks st r _ (marked_bad hm).2 h
theorem visRA_law (g : Bool) (L : U5) (nm : List UInt8) : ∀ (l : List NT) (st : AS) (r : RSt), markedL l = true → l.length = 1 → ¬(st.E nm).isSome = true → RInv st r →
    ((visA L nm l st).2.1 = 0 → RInv (visA L nm l st).2.2 (visRA g L nm l (addN r nm)).1 ∧ (visRA g L nm l (addN r nm)).2.2 = (visA L nm l st).1) ∧ ((visA L nm l st).2.1 ≠ 0 → (visRA g L nm l (addN r nm)).1.err = (visA L nm l st).2.1)
  | [], st, r, _, hl, _, _ => by cases hl
  | y :: rest, st, r, hm, _, hs, h => by
    have hmy : markedB y = true := markedL_get _ 0 y hm rfl
    obtain ⟨i1, i2⟩ := visR_law g L y (st.add nm y none) (addN r nm) hmy (h.add hs y)
    have hE : (visF L y (st.add nm y none)).2.2.E nm = some (y, none) := by
      have h0 : (st.add nm y none).E nm = some (y, none) := if_pos rfl
      rw [visF_keep L y _ nm (by rw [h0]; rfl), h0]
    rw [visA, visRA]
    exact ⟨fun hz => ⟨by rw [← (i1 hz).2]; exact (i1 hz).1.fin hE _ _, (i1 hz).2⟩, fun hn => i2 hn⟩
theorem visRL_law (g : Bool) (L : U5) : ∀ (l : List NT) (st : AS) (r : RSt) (acc : Int), markedL l = true → RInv st r →
    ((visL L l st acc).2.1 = 0 → RInv (visL L l st acc).2.2 (visRL g L l r acc).1 ∧ (visRL g L l r acc).2.2 = (visL L l st acc).1) ∧ ((visL L l st acc).2.1 ≠ 0 → (visRL g L l r acc).1.err = (visL L l st acc).2.1)
  | [], st, r, acc, _, h => by
    rw [visL, visRL]
    exact ⟨fun _ => ⟨h, rfl⟩, fun hn => absurd rfl hn⟩
  | y :: rest, st, r, acc, hm, h => by
    have hmy : markedB y = true := markedL_get _ 0 y hm rfl
    have hmr : markedL rest = true := by
      rw [markedL, if_pos hmy] at hm
      exact hm
    obtain ⟨i1, i2⟩ := visR_law g L y st r hmy h
    rw [visL, visRL]
    by_cases hz : (visF L y st).2.1 = 0
    · rw [if_pos hz]
      obtain ⟨j1, j2⟩ := i1 hz
      rw [j2]
      exact visRL_law g L rest _ _ _ hmr j1
    · rw [if_neg hz]
      have he := i2 hz
      refine ⟨fun hn => absurd hn hz, fun _ => ?_⟩
      show (visRL g L rest (visR g L y r).1 _).1.err = (visF L y st).2.1
      rw [visRL_err g L rest _ _ (by rw [he]; exact hz), he]
end
/- ## How much the visit adds -/
theorem ks_count : ∀ l : List NT, l.length ≤ countL l
  | [] => Nat.le_refl _
  | .mk k l x ks e :: r => by
    have h := ks_count r
    rw [countL, countF, List.length_cons]
    omega
theorem aliR_len (L : U5) (t : NT) (st : RSt) : (aliR L t st).1.done = st.done ∧ (aliR L t st).1.names = st.names := by
  unfold aliR
  split
  · exact ⟨rfl, rfl⟩
  · split <;> exact ⟨rfl, rfl⟩
mutual
theorem visR_len (g : Bool) (L : U5) : ∀ (t : NT) (st : RSt), (visR g L t st).1.done.length ≤ st.done.length + countF t ∧ (visR g L t st).1.names.length ≤ st.names.length + countF t
  | .mk k l x ks e, st => by
    rw [visR, countF]
    split
    · exact ⟨Nat.le_add_right _ _, Nat.le_add_right _ _⟩
    · split
      · have h := aliR_len L (.mk k l x ks e) st
        rw [h.1, h.2]
        exact ⟨Nat.le_add_right _ _, Nat.le_add_right _ _⟩
      · split
        · split
          · exact ⟨Nat.le_add_right _ _, Nat.le_add_right _ _⟩
          · have h := visRA_len g L (x.drop 1) ks (addN st (x.drop 1))
            have h1 : (addN st (x.drop 1)).done.length = st.done.length := rfl
            have h2 : (addN st (x.drop 1)).names.length = st.names.length + 1 := by simp [addN]
            omega
        · have h := visRL_len g L ks st (cost0 k)
          exact ⟨by show (visRL g L ks st (cost0 k)).1.done.length ≤ _; omega, by show (visRL g L ks st (cost0 k)).1.names.length ≤ _; omega⟩
theorem visRA_len (g : Bool) (L : U5) (nm : List UInt8) : ∀ (l : List NT) (st : RSt), (visRA g L nm l st).1.done.length ≤ st.done.length + countL l + 1 ∧ (visRA g L nm l st).1.names.length ≤ st.names.length + countL l
  | [], st => by
    rw [visRA]
    exact ⟨Nat.le_add_right _ _, Nat.le_add_right _ _⟩
  | y :: r, st => by
    have h := visR_len g L y st
    rw [visRA, countL]
    have h1 : (addD (visR g L y st).1 nm (visR g L y st).2.1 (visR g L y st).2.2).done.length = (visR g L y st).1.done.length + 1 := by simp [addD]
    have h2 : (addD (visR g L y st).1 nm (visR g L y st).2.1 (visR g L y st).2.2).names.length = (visR g L y st).1.names.length := rfl
    exact ⟨by show (addD (visR g L y st).1 nm (visR g L y st).2.1 (visR g L y st).2.2).done.length ≤ _; omega, by show (addD (visR g L y st).1 nm (visR g L y st).2.1 (visR g L y st).2.2).names.length ≤ _; omega⟩
theorem visRL_len (g : Bool) (L : U5) : ∀ (l : List NT) (st : RSt) (acc : Int), (visRL g L l st acc).1.done.length ≤ st.done.length + countL l ∧ (visRL g L l st acc).1.names.length ≤ st.names.length + countL l
  | [], st, acc => by
    rw [visRL]
    exact ⟨Nat.le_add_right _ _, Nat.le_add_right _ _⟩
  | y :: r, st, acc => by
    have h := visR_len g L y st
    have h2 := visRL_len g L r (visR g L y st).1 (wrap64 (acc + (visR g L y st).2.2))
    rw [visRL, countL]
    exact ⟨by show (visRL g L r (visR g L y st).1 (wrap64 (acc + (visR g L y st).2.2))).1.done.length ≤ _; omega, by show (visRL g L r (visR g L y st).1 (wrap64 (acc + (visR g L y st).2.2))).1.names.length ≤ _; omega⟩
end
theorem visR_done (g : Bool) (L : U5) (t : NT) (st : RSt) : (visR g L t st).1.done.length ≤ st.done.length + countF t := (visR_len g L t st).1
def r0 : RSt := ⟨[], [], U5.zero, 0⟩
theorem r0_inv : RInv st0 r0 := ⟨rfl, rfl, fun s => ⟨(fun h => (by cases h)), (fun h => absurd h (List.not_mem_nil))⟩, (fun _ => rfl)⟩
/-- What Check of the reference finds. -/
def chkR (L : U5) (t : NT) : U5 × Int := if (validB L.d L.n L.b L.a L.x && properB t) = false then (U5.zero, 1) else if (visR false L t r0).1.err = 0 then ((visR false L t r0).1.u, 0) else (U5.zero, (visR false L t r0).1.err)
def costR (t : NT) : Int × Int := if (chkR usual t).2 = 0 then ((visR false usual t r0).2.2, 0) else (0, (chkR usual t).2)
theorem proper_marked {t : NT} (h : properB t = true) : markedB t = true := by
  unfold properB at h
  rw [Bool.and_eq_true] at h
  exact h.2
theorem chkR_eq (L : U5) (t : NT) : chkR L t = chkF L t := by
  unfold chkR chkF
  by_cases hb : (validB L.d L.n L.b L.a L.x && properB t) = false
  · rw [if_pos hb, if_pos hb]
  · rw [if_neg hb, if_neg hb]
    have hm : markedB t = true := by
      rw [Bool.not_eq_false, Bool.and_eq_true] at hb
      exact proper_marked hb.2
    obtain ⟨i1, i2⟩ := visR_law false L t st0 r0 hm r0_inv
    by_cases hz : (visF L t st0).2.1 = 0
    · rw [if_pos hz, if_pos (i1 hz).1.err, (i1 hz).1.u]
    · rw [if_neg hz, i2 hz, if_neg hz]
theorem costR_eq (t : NT) : costR t = costF t := by
  have hv : validB usual.d usual.n usual.b usual.a usual.x = true := by decide
  cases hb : properB t with
  | false =>
    have h1 : chkF usual t = (U5.zero, 1) := by unfold chkF; rw [hb, hv]; rfl
    unfold costR costF
    rw [chkR_eq, h1, hb]
    rfl
  | true =>
    have h1 : chkF usual t = if (visF usual t st0).2.1 = 0 then ((visF usual t st0).2.2.u, 0) else (U5.zero, (visF usual t st0).2.1) := by unfold chkF; rw [hb, hv]; rfl
    have h2 : costF t = if (visF usual t st0).2.1 = 0 then ((visF usual t st0).1, 0) else (0, (visF usual t st0).2.1) := by unfold costF; rw [hb]; rfl
    obtain ⟨i1, i2⟩ := visR_law false usual t st0 r0 (proper_marked hb) r0_inv
    unfold costR
    rw [chkR_eq, h1, h2]
    by_cases hz : (visF usual t st0).2.1 = 0
    · rw [if_pos hz, if_pos hz]
      show (if (0 : Int) = 0 then _ else _) = _
      rw [if_pos rfl, (i1 hz).2]
    · rw [if_neg hz, if_neg hz, if_neg hz]
end Go.Proofs.Ytbfnmgiccbdglaa
