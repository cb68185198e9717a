/- The plain functions of the chapter on anchors. -/
import Derived.Test.YtbfnmgiccbdglaaTrRec
import Derived.Test.YtbfnmgiccbdglaaAnLim
namespace Go.Proofs.Ytbfnmgiccbdglaa
open Go.ChangeShapes Go.WideShapes Go.ChangeAt Go.RowKit

def NBox (W : World) (b : Nat) (d : ND) : Prop := W.heap[b]? = some (.cells #[.int .i64 d.k, .string (bs d.l), .string (bs d.x), .slice d.A d.n d.c, .string (bs d.e)] 24 (0, 0))
theorem NBox.cells {W : World} {b : Nat} {d : ND} (h : NBox W b d) : W.cell? ⟨b, 0, none⟩ = some (.int .i64 d.k) ∧ W.cell? ⟨b, 1, none⟩ = some (.string (bs d.l)) ∧ W.cell? ⟨b, 2, none⟩ = some (.string (bs d.x)) ∧ W.cell? ⟨b, 3, none⟩ = some (.slice d.A d.n d.c) ∧ W.cell? ⟨b, 4, none⟩ = some (.string (bs d.e)) :=
  ⟨cell_of_cells h 0, cell_of_cells h 1, cell_of_cells h 2, cell_of_cells h 3, cell_of_cells h 4⟩
theorem free_of_cells {W : World} {b : Nat} {cs : Array Value} {t : TypeId} (h : W.heap[b]? = some (.cells cs t (0, 0))) (o : Nat) : W.frozen? ⟨b, o, none⟩ = false := by simp [World.frozen?, h]
theorem NBox.gr {W w : World} {b : Nat} {d : ND} (h : NBox W b d) (hg : Gr W w) : NBox w b d := (hg.block b (lt_of_block h)).trans h
theorem NBox.set {W : World} {b : Nat} {d : ND} (h : NBox W b d) (e : ND) : NBox (((((W.setCell ⟨b, 0, none⟩ (.int .i64 e.k)).setCell ⟨b, 1, none⟩ (.string (bs e.l))).setCell ⟨b, 2, none⟩ (.string (bs e.x))).setCell ⟨b, 3, none⟩ (.slice e.A e.n e.c)).setCell ⟨b, 4, none⟩ (.string (bs e.e))) b e := by
  unfold NBox at *
  simp [World.setCell, Array.getElem?_modify, h]
theorem heap_set_other {w : World} {a : Addr} {u : Value} {k : Nat} (h : k ≠ a.block) : (w.setCell a u).heap[k]? = w.heap[k]? := Below.heap_setCell _ _ _ _ h
/-- May this byte stand in a name? -/
def ncB (c : UInt8) : Bool := decide ((97 ≤ c.toNat ∧ c.toNat ≤ 122) ∨ (65 ≤ c.toNat ∧ c.toNat ≤ 90) ∨ (48 ≤ c.toNat ∧ c.toNat ≤ 57) ∨ c.toNat = 95 ∨ c.toNat = 45)
/-- A mark and a name. -/
def namedB (s : List UInt8) (m : Nat) : Bool := decide (2 ≤ s.length ∧ s.length ≤ 65 ∧ (s.getD 0 0).toNat = m) && (s.drop 1).all ncB
def badB (k : Int) (x : List UInt8) (n : Nat) : Bool := (decide (k = 9) && (!namedB x 38 || decide (n ≠ 1))) || (decide (k = 10) && !namedB x 42)
mutual
/-- Anchors and aliases are as they must be. -/
def markedB : NT → Bool
  | .mk k _ x ks _ => if badB k x ks.length = true then false else markedL ks
def markedL : List NT → Bool
  | [] => true
  | y :: r => if markedB y = true then markedL r else false
end
theorem markedB_eq (t : NT) : markedB t = if badB t.k t.x t.ks.length = true then false else markedL t.ks := by
  obtain ⟨k, l, x, ks, e⟩ := t; rw [markedB]; rfl
def properB (t : NT) : Bool := decide (checkT t = 0) && markedB t
theorem markedL_get : ∀ (l : List NT) (i : Nat) (y : NT), markedL l = true → l[i]? = some y → markedB y = true
  | [], i, y, _, h => by simp at h
  | z :: r, 0, y, hm, h => by
    simp only [List.getElem?_cons_zero, Option.some.injEq] at h
    subst h
    rw [markedL] at hm
    split at hm
    · assumption
    · cases hm
  | z :: r, i + 1, y, hm, h => by
    rw [markedL] at hm
    split at hm
    · exact markedL_get r i y hm (by simpa using h)
    · cases hm
theorem marked_bad {t : NT} (h : markedB t = true) : badB t.k t.x t.ks.length = false ∧ markedL t.ks = true := by
  rw [markedB_eq] at h
  split at h
  · cases h
  · rename_i hb
    exact ⟨by simpa using hb, h⟩
theorem marked_kids {t : NT} (h : markedB t = true) {i : Nat} {y : NT} (hy : t.ks[i]? = some y) : markedB y = true := markedL_get _ i y (marked_bad h).2 hy
theorem marked_anchor {t : NT} (h : markedB t = true) (hk : t.k = 9) : namedB t.x 38 = true ∧ t.ks.length = 1 := by
  have h1 := (marked_bad h).1
  unfold badB at h1
  simp [hk] at h1
  exact h1
theorem marked_alias {t : NT} (h : markedB t = true) (hk : t.k = 10) : namedB t.x 42 = true := by
  have h1 := (marked_bad h).1
  unfold badB at h1
  simp [hk] at h1
  exact h1
theorem named_len {x : List UInt8} {m : Nat} (h : namedB x m = true) : 2 ≤ x.length ∧ x.length ≤ 65 := by
  unfold namedB at h
  simp only [Bool.and_eq_true, decide_eq_true_eq] at h
  exact ⟨h.1.1, h.1.2.1⟩
theorem markedL_cons (y : NT) (r : List NT) : markedL (y :: r) = if markedB y = true then markedL r else false := by rw [markedL]
theorem markedL_drop (l : List NT) {j : Nat} {y : NT} (h : l[j]? = some y) : markedL (l.drop j) = if markedB y = true then markedL (l.drop (j + 1)) else false := by
  rw [drop_at h, markedL]
mutual
/-- How many nodes of a kind a tree has. -/
def kindF (kd : Int) : NT → Int
  | .mk k _ _ ks _ => (if k = kd then 1 else 0) + kindL kd ks
def kindL (kd : Int) : List NT → Int
  | [] => 0
  | y :: r => kindF kd y + kindL kd r
end
theorem kindF_eq (kd : Int) (t : NT) : kindF kd t = (if t.k = kd then 1 else 0) + kindL kd t.ks := by
  obtain ⟨k, l, x, ks, e⟩ := t; rw [kindF]; rfl
theorem kindL_app (kd : Int) : ∀ a b : List NT, kindL kd (a ++ b) = kindL kd a + kindL kd b
  | [], b => by simp [kindL]
  | y :: a, b => by rw [List.cons_append, kindL, kindL, kindL_app kd a b]; omega
mutual
theorem kindF_le (kd : Int) : ∀ t : NT, 0 ≤ kindF kd t ∧ kindF kd t ≤ countF t
  | .mk k l x ks e => by
    rw [kindF, countF]
    have := kindL_le kd ks
    split <;> omega
theorem kindL_le (kd : Int) : ∀ l : List NT, 0 ≤ kindL kd l ∧ kindL kd l ≤ countL l
  | [] => by rw [kindL, countL]; omega
  | y :: r => by
    rw [kindL, countL]
    have := kindF_le kd y
    have := kindL_le kd r
    omega
end
mutual
/-- The texts of the anchors in preorder. -/
def textsF : NT → List (List UInt8)
  | .mk k _ x ks _ => (if k = 9 then [x] else []) ++ textsL ks
def textsL : List NT → List (List UInt8)
  | [] => []
  | y :: r => textsF y ++ textsL r
end
theorem textsF_eq (t : NT) : textsF t = (if t.k = 9 then [t.x] else []) ++ textsL t.ks := by
  obtain ⟨k, l, x, ks, e⟩ := t; rw [textsF]; rfl
theorem textsL_app : ∀ a b : List NT, textsL (a ++ b) = textsL a ++ textsL b
  | [], b => by simp [textsL]
  | y :: a, b => by rw [List.cons_append, textsL, textsL, textsL_app a b, List.append_assoc]
theorem textsL_take (l : List NT) {j : Nat} {y : NT} (h : l[j]? = some y) : textsL (l.take (j + 1)) = textsL (l.take j) ++ textsF y := by
  rw [take_succ_at h, textsL_app]
  simp [textsL]
mutual
theorem textsF_len : ∀ t : NT, (textsF t).length ≤ countF t
  | .mk k l x ks e => by
    rw [textsF, countF, List.length_append]
    have := textsL_len ks
    split <;> simp <;> omega
theorem textsL_len : ∀ l : List NT, (textsL l).length ≤ countL l
  | [] => by rw [textsL]; simp
  | y :: r => by
    rw [textsL, countL, List.length_append]
    have := textsF_len y
    have := textsL_len r
    omega
end
/- ## The visit -/
structure U5 where
  (d n b a x : Int)
def U5.v (u : U5) : Value := .agg #[.int .i64 u.d, .int .i64 u.n, .int .i64 u.b, .int .i64 u.a, .int .i64 u.x]
def U5.zero : U5 := ⟨0, 0, 0, 0, 0⟩
/-- The names known, each with what its anchor names, and the cost of that once it is complete; the usage. -/
structure AS where
  E : List UInt8 → Option (NT × Option Int)
  u : U5
def aliasU (L u : U5) (c : Int) : Res := aliasF L.d L.n L.b L.a L.x u.d u.n u.b u.a u.x c
def AS.add (st : AS) (nm : List UInt8) (t : NT) (c : Option Int) : AS := { st with E := fun s => if s = nm then some (t, c) else st.E s }
def AS.done (st : AS) (nm : List UInt8) (c : Int) : AS := { st with E := fun s => if s = nm then (st.E s).map (fun p => (p.1, some c)) else st.E s }
mutual
/-- Cost, error, state. -/
def visF (L : U5) : NT → AS → Int × Int × AS
  | .mk k _ x ks _, st =>
    if k = 9 then
      (if (st.E (x.drop 1)).isSome = true then (0, 8, st) else visA L (x.drop 1) ks st)
    else if k = 10 then
      (match st.E (x.drop 1) with
      | some (_, some c) => if (aliasU L st.u c).c = 0 then (c, 0, { st with u := ⟨(aliasU L st.u c).d, (aliasU L st.u c).n, (aliasU L st.u c).b, (aliasU L st.u c).a, (aliasU L st.u c).x⟩ }) else (0, (aliasU L st.u c).c, st)
      | _ => (0, 11, st))
    else visL L ks st (if k = 2 ∨ k = 3 ∨ k = 4 then 1 else 0)
/-- What an anchor names. -/
def visA (L : U5) (nm : List UInt8) : List NT → AS → Int × Int × AS
  | [], st => (0, 0, st)
  | y :: _, st => ((visF L y (st.add nm y none)).1, (visF L y (st.add nm y none)).2.1, (visF L y (st.add nm y none)).2.2.done nm (visF L y (st.add nm y none)).1)
def visL (L : U5) : List NT → AS → Int → Int × Int × AS
  | [], st, acc => (acc, 0, st)
  | y :: r, st, acc => if (visF L y st).2.1 = 0 then visL L r (visF L y st).2.2 (wrap64 (acc + (visF L y st).1)) else (0, (visF L y st).2.1, (visF L y st).2.2)
end
theorem visF_eq (L : U5) (t : NT) (st : AS) : visF L t st = if t.k = 9 then
      (if (st.E (t.x.drop 1)).isSome = true then (0, 8, st) else visA L (t.x.drop 1) t.ks st)
    else if t.k = 10 then
      (match st.E (t.x.drop 1) with
      | some (_, some c) => if (aliasU L st.u c).c = 0 then (c, 0, { st with u := ⟨(aliasU L st.u c).d, (aliasU L st.u c).n, (aliasU L st.u c).b, (aliasU L st.u c).a, (aliasU L st.u c).x⟩ }) else (0, (aliasU L st.u c).c, st)
      | _ => (0, 11, st))
    else visL L t.ks st (if t.k = 2 ∨ t.k = 3 ∨ t.k = 4 then 1 else 0) := by
  obtain ⟨k, l, x, ks, e⟩ := t; rw [visF]; rfl
def st0 : AS := ⟨fun _ => none, U5.zero⟩
/-- What Check finds: the usage, the error. -/
def chkF (L : U5) (t : NT) : U5 × Int := if (validB L.d L.n L.b L.a L.x && properB t) = false then (U5.zero, 1) else if (visF L t st0).2.1 = 0 then ((visF L t st0).2.2.u, 0) else (U5.zero, (visF L t st0).2.1)
def usual : U5 := ⟨48, 65536, 1048576, 1024, 65536⟩
def costF (t : NT) : Int × Int := if properB t = false then (0, 1) else if (visF usual t st0).2.1 = 0 then ((visF usual t st0).1, 0) else (0, (visF usual t st0).2.1)
end Go.Proofs.Ytbfnmgiccbdglaa
