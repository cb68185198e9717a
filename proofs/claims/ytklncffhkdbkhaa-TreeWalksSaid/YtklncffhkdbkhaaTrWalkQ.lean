/- Rows of rows of numbers. -/
import Derived.Test.YtklncffhkdbkhaaTrWalkR
namespace Go.Proofs.Ytklncffhkdbkhaa
open Go.ChangeShapes Go.WideShapes Go.ChangeAt Go.RowKit

/-- These slices hold these numbers. -/
def RowsP (W : World) (vs : List Value) (zss : List (List Int)) : Prop :=
  vs.length = zss.length ∧ ∀ (i : Nat) (v : Value) (zs : List Int), vs[i]? = some v → zss[i]? = some zs → ∃ A c, v = .slice A zs.length c ∧ RowI W A zs.length c zs
theorem RowsP.keep {W W' : World} {vs : List Value} {zss : List (List Int)} (h : RowsP W vs zss) (hk : ∀ (g : Nat) (cs : Array Value) (fr : Nat × Nat), W.heap[g]? = some (Obj.cells cs 3 fr) → W'.heap[g]? = some (Obj.cells cs 3 fr)) : RowsP W' vs zss :=
  ⟨h.1, fun i v zs hv hz => by
    obtain ⟨A, c, h1, h2⟩ := h.2 i v zs hv hz
    exact ⟨A, c, h1, h2.keep hk⟩⟩
theorem RowsP.gr {W W' : World} {vs : List Value} {zss : List (List Int)} (h : RowsP W vs zss) (hg : Gr W W') : RowsP W' vs zss := h.keep (fun g _ _ hb => (hg.block g (lt_of_block hb)).trans hb)
theorem RowsP.one (W : World) : RowsP W [.slice none 0 0] [[]] := by
  refine ⟨rfl, fun i v zs hv hz => ?_⟩
  cases i with
  | zero => cases hv; cases hz; exact ⟨none, 0, rfl, RowI.nil W⟩
  | succ i => simp at hv
theorem RowsP.snoc {W : World} {vs : List Value} {zss : List (List Int)} (h : RowsP W vs zss) {A : Option Addr} {c : Nat} {zs : List Int} (hr : RowI W A zs.length c zs) : RowsP W (vs ++ [.slice A zs.length c]) (zss ++ [zs]) := by
  refine ⟨by simp [h.1], fun i v ys hv hy => ?_⟩
  by_cases hi : i < vs.length
  · rw [List.getElem?_append_left hi] at hv
    rw [List.getElem?_append_left (by rw [← h.1]; exact hi)] at hy
    exact h.2 i v ys hv hy
  · rw [List.getElem?_append_right (by omega)] at hv
    rw [List.getElem?_append_right (by rw [← h.1]; omega)] at hy
    rw [h.1] at hv
    cases hq : i - zss.length with
    | zero => rw [hq] at hv hy; cases hv; cases hy; exact ⟨A, c, rfl, hr⟩
    | succ q => rw [hq] at hv; simp at hv
/-- A row of slices, of the call's own, grows: the rows of numbers stay. -/
theorem RowsP.grown {W W' : World} {B : Nat} {ov : Value} {n : Nat} {ws vs : List Value} {zss : List (List Int)} (h : RowsP W vs zss) (ho : W.ownsRow B 32 1 ov n ws) (hg : W.grownBy W' ov.ownBlock) : RowsP W' vs zss :=
  h.keep (fun g _ _ hb => (hg.block g (lt_of_block hb) (fun he => own_type ho hb (by decide) he.symm)).trans hb)
theorem wpList_app2 {P : Program} {w : World} {ops : Array Oper} {rest : List Oper} {o : Oper} {a : Act} {Q : Exit → Act → World → Prop} (hgd : o.guard = none) (s x : Operand) (t : TypeId)
    (ho : o.op = .call { callee := .builtin .append, args := #[s, x], argTypes := #[t, t] })
    (base : Nat) (e : TypeId) (i : TypeInfo) (z : Value) (size bytes : Nat) (ht : P.underlying t = some (.slice e)) (hi : P.info? e = some i) (hz : i.zero = some z)
    (hsize : i.size = size) (hby : i.bytes = bytes) (hzs : z.cells.size = size) (hsz : 0 < size)
    (v : Value) (n : Nat) (xs : List Value) (hsv : a.eval s = v) (hown : w.ownsRow base e size v n xs)
    (A : Option Addr) (m c : Nat) (news : List Value) (hx : a.eval x = .slice A m c) (hs : SrcAt w A m size news) (h63 : n + m ≤ maxLen) (hbytes : (n + m) * bytes ≤ 140737488355328) (hbase : base ≤ w.heap.size)
    (h : ∀ v' w', w'.ownsRow base e size v' (n + m) (xs ++ news) → w.grownBy w' v.ownBlock → (v'.ownBlock = v.ownBlock ∨ v'.ownBlock = some w.heap.size) → wpList P ops Q rest (a.put o.dst v') w') : wpList P ops Q (o :: rest) a w :=
  wpList_plain hgd fun _ hK => wp_app2 s x t ho base e i z size bytes ht hi hz hsize hby hzs hsz v n xs hsv hown A m c news hx hs h63 hbytes hbase fun v' w' h2 h3 h4 => hK _ _ (h v' w' h2 h3 h4)
theorem infoSl : (Try.prog.info? 32).map (fun i => (i.zero, i.size, i.bytes)) = some (some (.slice none 0 0), 1, 24) := by kernel_rfl
/-- What the reference's Walk returns. -/
def WRPost (t : NT) (w : World) (e : Ending) (w' : World) : Prop :=
  ∃ g n c vs, e = .returned (.slice (some ⟨g, 0, none⟩) n c) ∧ w.heap.size ≤ g ∧ n = countF t ∧ n ≤ c ∧ c ≤ maxLen ∧ g < w'.heap.size ∧ (∀ (i : Nat) (v : Value), vs[i]? = some v → w'.cell? ⟨g, i, none⟩ = some v) ∧ RowsP w' vs (refF t) ∧ Gr w w'
theorem refL_app : ∀ (p q : List NT) (i : Nat), refL (p ++ q) i = refL p i ++ refL q (i + p.length)
  | [], q, i => by simp [refL]
  | y :: p, q, i => by
    rw [List.cons_append, refL, refL, refL_app p q (i + 1), List.append_assoc, List.length_cons, show i + 1 + p.length = i + (p.length + 1) by omega]
theorem refL_take (ks : List NT) {j : Nat} {y : NT} (h : ks[j]? = some y) : refL (ks.take (j + 1)) 0 = refL (ks.take j) 0 ++ (refF y).map ((j : Int) :: ·) := by
  have hj := (List.getElem?_eq_some_iff.1 h).1
  rw [take_succ_at h, refL_app, Nat.zero_add, List.length_take, Nat.min_eq_left (Nat.le_of_lt hj)]
  congr 1
  rw [refL, refL, List.append_nil]
end Go.Proofs.Ytklncffhkdbkhaa
