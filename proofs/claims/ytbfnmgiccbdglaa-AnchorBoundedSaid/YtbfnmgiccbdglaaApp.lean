/- append onto a row of the call's own, whatever the source: nil, empty or not. -/
import Derived.Test.YtbfnmgiccbdglaaInts
import Derived.Test.YtbfnmgiccbdglaaQb
import Derived.Laws.OwnMore
import Derived.Maps.AppendAt
namespace Go.Proofs.Ytbfnmgiccbdglaa
open Go.ChangeShapes Go.WideShapes Go.ChangeAt Go.RowKit

/-- These cells, m elements of this size, lie at A. -/
def SrcAt (W : World) (A : Option Addr) (m size : Nat) (news : List Value) : Prop :=
  news.length = m * size ∧ (∀ u ∈ news, u.oneCell' = true) ∧ (0 < m → ∃ a, A = some a ∧ ∀ j u, news[j]? = some u → W.cell? (a.add j) = some u)
theorem SrcAt.gr {W w : World} {A : Option Addr} {m size : Nat} {news : List Value} (h : SrcAt W A m size news) (hg : Gr W w) : SrcAt w A m size news := by
  obtain ⟨h1, h2, h3⟩ := h
  refine ⟨h1, h2, fun hm => ?_⟩
  obtain ⟨a, ha, hc⟩ := h3 hm
  exact ⟨a, ha, fun j u hu => hg.cell (hc j u hu)⟩
theorem IntsAt.src {W : World} {A : Option Addr} {m : Nat} {ys : List Int} (h : IntsAt .i64 W A m ys) : SrcAt W A m 1 (ys.map (Value.int .i64)) := by
  obtain ⟨h1, _, h3⟩ := h
  refine ⟨by simp [h1], fun u hu => ?_, fun hm => ?_⟩
  · obtain ⟨z, _, rfl⟩ := List.mem_map.1 hu
    rfl
  · obtain ⟨b, off, rfl, _, hc⟩ := h3 hm
    refine ⟨_, rfl, fun j u hu => ?_⟩
    rw [List.getElem?_map] at hu
    obtain ⟨z, hz, rfl⟩ := Option.map_eq_some_iff.1 hu
    have hj := (List.getElem?_eq_some_iff.1 hz).1
    rw [add_shape rfl, hc j (by omega), List.getD, hz]
    rfl
section
variable {P : Program} {w : World}
theorem run_app (base : Nat) (t ty e : TypeId) (i : TypeInfo) (z : Value) (size bytes : Nat) (ht : P.underlying t = some (.slice e)) (hi : P.info? e = some i) (hz : i.zero = some z)
    (hsize : i.size = size) (hby : i.bytes = bytes) (hzs : z.cells.size = size) (hsz : 0 < size)
    (v : Value) (n : Nat) (xs : List Value) (hown : w.ownsRow base e size v n xs)
    (A : Option Addr) (m c : Nat) (news : List Value) (hs : SrcAt w A m size news) (h63 : n + m ≤ maxLen) (hbytes : (n + m) * bytes ≤ 140737488355328) (hbase : base ≤ w.heap.size) :
    ∃ v' w', (Builtin.append_ #[t, t] ty #[v, .slice A m c]).run P w = .ok v' w' ∧ w'.ownsRow base e size v' (n + m) (xs ++ news) ∧ w.grownBy w' v.ownBlock := by
  obtain ⟨h1, h2, h3⟩ := hs
  cases A with
  | some ad =>
    have hcells : ∀ j u, news[j]? = some u → w.cell? (ad.add j) = some u := fun j u hu => by
      by_cases hm : 0 < m
      · obtain ⟨a, ha, hc⟩ := h3 hm
        cases ha
        exact hc j u hu
      · have : news = [] := List.eq_nil_of_length_eq_zero (by rw [h1, show m = 0 by omega, Nat.zero_mul])
        subst this
        simp at hu
    obtain ⟨v', w', hr, q1, q2, _⟩ := run_append_own (P := P) w base t ty e i z size bytes ht hi hz hsize hby hzs hsz v n xs hown ad m c news h1 hcells h2 h63 hbytes hbase
    exact ⟨v', w', hr, q1, q2⟩
  | none =>
    have hm : m = 0 := by
      rcases Nat.eq_zero_or_pos m with h0 | h0
      · exact h0
      · obtain ⟨_, h, _⟩ := h3 h0
        cases h
    subst hm
    have hnil : news = [] := List.eq_nil_of_length_eq_zero (by rw [h1]; simp)
    subst hnil
    refine ⟨v, w, ?_, by simpa using hown, ⟨rfl, rfl, rfl, Nat.le_refl _, fun _ _ _ => rfl⟩⟩
    rcases hown.2 with ⟨rfl, rfl⟩ | ⟨g, cap, cur, rfl, _, _, hnc, _⟩
    · simp [Builtin.append_, run_underlying ht, sizeOf, typeInfo, hi, Builtin.lenOf, Builtin.firstCells]
    · simp [Builtin.append_, run_underlying ht, sizeOf, typeInfo, hi, Builtin.lenOf, Builtin.firstCells, hnc, storeCells]
theorem wp_app {o : Oper} {a : Act} {K : Act → World → Prop} {Q : Exit → Act → World → Prop} (s x : Operand) (t : TypeId)
    (ho : o.op = .call { callee := .builtin .append, args := #[s, x], argTypes := #[t, t] })
    (base : Nat) (e : TypeId) (i : TypeInfo) (z : Value) (size bytes : Nat) (ht : P.underlying t = some (.slice e)) (hi : P.info? e = some i) (hz : i.zero = some z)
    (hsize : i.size = size) (hby : i.bytes = bytes) (hzs : z.cells.size = size) (hsz : 0 < size)
    (v : Value) (n : Nat) (xs : List Value) (hsv : a.eval s = v) (hown : w.ownsRow base e size v n xs)
    (A : Option Addr) (m c : Nat) (news : List Value) (hx : a.eval x = .slice A m c) (hs : SrcAt w A m size news) (h63 : n + m ≤ maxLen) (hbytes : (n + m) * bytes ≤ 140737488355328) (hbase : base ≤ w.heap.size)
    (h : ∀ v' w', w'.ownsRow base e size v' (n + m) (xs ++ news) → w.grownBy w' v.ownBlock → K (a.put o.dst v') w') : o.wp P a w K Q := by
  obtain ⟨v', w', hr, h2, h3⟩ := run_app (P := P) base t o.type e i z size bytes ht hi hz hsize hby hzs hsz v n xs hown A m c news hs h63 hbytes hbase
  unfold Oper.wp execOp
  simp only [ho, resolve, invoke, builtin, Sem.run_bind, Sem.run_pure, Result.andThen_ok, List.map_toArray, List.map_cons, List.map_nil, hsv, hx, hr]
  exact h v' w' h2 h3
theorem wpList_app {ops : Array Oper} {rest : List Oper} {o : Oper} {a : Act} {Q : Exit → Act → World → Prop} (hgd : o.guard = none) (s x : Operand) (t : TypeId)
    (ho : o.op = .call { callee := .builtin .append, args := #[s, x], argTypes := #[t, t] })
    (base : Nat) (e : TypeId) (i : TypeInfo) (z : Value) (size bytes : Nat) (ht : P.underlying t = some (.slice e)) (hi : P.info? e = some i) (hz : i.zero = some z)
    (hsize : i.size = size) (hby : i.bytes = bytes) (hzs : z.cells.size = size) (hsz : 0 < size)
    (v : Value) (n : Nat) (xs : List Value) (hsv : a.eval s = v) (hown : w.ownsRow base e size v n xs)
    (A : Option Addr) (m c : Nat) (news : List Value) (hx : a.eval x = .slice A m c) (hs : SrcAt w A m size news) (h63 : n + m ≤ maxLen) (hbytes : (n + m) * bytes ≤ 140737488355328) (hbase : base ≤ w.heap.size)
    (h : ∀ v' w', w'.ownsRow base e size v' (n + m) (xs ++ news) → w.grownBy w' v.ownBlock → wpList P ops Q rest (a.put o.dst v') w') : wpList P ops Q (o :: rest) a w :=
  wpList_plain hgd fun _ hK => wp_app s x t ho base e i z size bytes ht hi hz hsize hby hzs hsz v n xs hsv hown A m c news hx hs h63 hbytes hbase fun v' w' h2 h3 => hK _ _ (h v' w' h2 h3)
theorem step_app {ops : Array Oper} {o : Oper} {a : Act} {K : Act → World → Prop} {Q : Exit → Act → World → Prop} {E : Prop} (hgd : o.guard = none) (s x : Operand) (t : TypeId)
    (ho : o.op = .call { callee := .builtin .append, args := #[s, x], argTypes := #[t, t] })
    (base : Nat) (e : TypeId) (i : TypeInfo) (z : Value) (size bytes : Nat) (ht : P.underlying t = some (.slice e)) (hi : P.info? e = some i) (hz : i.zero = some z)
    (hsize : i.size = size) (hby : i.bytes = bytes) (hzs : z.cells.size = size) (hsz : 0 < size)
    (v : Value) (n : Nat) (xs : List Value) (hsv : a.eval s = v) (hown : w.ownsRow base e size v n xs)
    (A : Option Addr) (m c : Nat) (news : List Value) (hx : a.eval x = .slice A m c) (hs : SrcAt w A m size news) (h63 : n + m ≤ maxLen) (hbytes : (n + m) * bytes ≤ 140737488355328) (hbase : base ≤ w.heap.size)
    (h : ∀ v' w', w'.ownsRow base e size v' (n + m) (xs ++ news) → w.grownBy w' v.ownBlock → K (a.put o.dst v') w') :
    if Region.wanted o (yielded ops a.tmps) = true then Oper.wp P o a w K Q else E := by
  rw [if_pos (by simp [Region.wanted, hgd])]
  exact wp_app s x t ho base e i z size bytes ht hi hz hsize hby hzs hsz v n xs hsv hown A m c news hx hs h63 hbytes hbase h
/-- A block that has just been laid is an own row. -/
theorem own_fresh {W : World} {base B n cap size : Nat} {e : TypeId} {cs : List Value} (h : W.heap[B]? = some (.cells cs.toArray e (0, 0))) (hb : base ≤ B) (hl : cs.length = n * size) (hn : n ≤ cap) (hc : cap = n) (hm : cap ≤ maxLen) : W.ownsRow base e size (.slice (some ⟨B, 0, none⟩) n cap) n cs := by
  subst hc
  refine ⟨hl, .inr ⟨B, _, cs.toArray, rfl, hb, h, hn, hm, by simpa using hl, ?_⟩⟩
  rw [← hl]
  simp
theorem src_fresh {W : World} {B m size : Nat} {e : TypeId} {cs : List Value} {fr : Nat × Nat} (h : W.heap[B]? = some (.cells cs.toArray e fr)) (hl : cs.length = m * size) (h1 : ∀ u ∈ cs, u.oneCell' = true) : SrcAt W (some ⟨B, 0, none⟩) m size cs := by
  refine ⟨hl, h1, fun _ => ⟨_, rfl, fun j u hu => ?_⟩⟩
  have hsp : W.cell? ⟨B, j, none⟩ = cs.toArray[j]? := by simp [World.cell?, h]
  rw [add_shape rfl, Nat.zero_add, hsp]
  simpa using hu
end
end Go.Proofs.Ytbfnmgiccbdglaa
