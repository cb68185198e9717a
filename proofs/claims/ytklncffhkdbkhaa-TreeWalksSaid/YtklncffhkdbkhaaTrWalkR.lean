/- The drawn regions of walk, in whatever order Go carries them out. -/
import Derived.Test.YtklncffhkdbkhaaTrWalkP
import Derived.Test.YtklncffhkdbkhaaInvIn
import Derived.Test.YtklncffhkdbkhaaTrFindR
import Derived.ArgAppend
namespace Go.Proofs.Ytklncffhkdbkhaa
open Go.ChangeShapes Go.WideShapes Go.ChangeAt Go.RowKit

theorem gr_grown {X Y : World} (h : X.grownBy Y none) : Gr X Y := ⟨h.os, h.tape, h.output, h.size, fun k hk => h.block k hk (fun e => by cases e)⟩
section
variable {P : Program} {w : World}
theorem app_full (t ty e : TypeId) (he : e = 3) (i : TypeInfo) (z0 : Value) (ht : P.underlying t = some (.slice e)) (hi : P.info? e = some i) (hz : i.zero = some z0) (hsize : i.size = 1) (hby : i.bytes = 8) (hzs : z0.cells.size = 1)
    {A : Option Addr} {n c : Nat} {zs : List Int} (hr : RowI w A n c zs) (hn : n ≤ 1000000) {b : Nat} {z : Int} (hb : w.heap[b]? = some (.cells #[.int .i64 z] 3 (0, 0))) (hzw : (Lit.int .i64 z).wf = true) :
    ∃ A' c' w', (Builtin.append_ #[t, t] ty #[.slice A n n, .slice (some ⟨b, 0, none⟩) 1 1]).run P w = .ok (.slice A' (n + 1) c') w' ∧ RowI w' A' (n + 1) c' (zs ++ [z]) ∧ Gr w w' := by
  have hwf : ∀ u ∈ zs ++ [z], (Lit.int .i64 u).wf = true := fun u hu => by
    rcases List.mem_append.1 hu with hu | hu
    · exact hr.2.2.2.1 u hu
    · rw [List.mem_singleton] at hu; rw [hu]; exact hzw
  have hcell : w.cell? ⟨b, 0, none⟩ = some (.int .i64 z) := cell_of_cells hb 0
  have hnews : ∀ (j : Nat) (u : Value), ([Value.int .i64 z] : List Value)[j]? = some u → w.cell? ((⟨b, 0, none⟩ : Addr).add j) = some u := fun j u hu => by
    cases j with
    | zero => cases hu; rw [add_shape rfl]; exact hcell
    | succ j => simp at hu
  cases A with
  | none =>
    have h0 : n = 0 := by
      rcases Nat.eq_zero_or_pos n with h | h
      · exact h
      · obtain ⟨_, _, _, ha, _⟩ := hr.2.2.2.2 h
        cases ha
    subst h0
    have hzs0 : zs = [] := List.eq_nil_of_length_eq_zero hr.1
    subst hzs0
    obtain ⟨v', w', h1, h2, h3, _⟩ := run_app2 (P := P) w.heap.size t ty e i z0 1 8 ht hi hz hsize hby hzs (by decide) (.slice none 0 0) 0 [] ⟨rfl, .inl ⟨rfl, rfl⟩⟩ (some ⟨b, 0, none⟩) 1 1 [.int .i64 z] ⟨rfl, (fun u hu => by rw [List.mem_singleton] at hu; rw [hu]; rfl), fun _ => ⟨_, rfl, hnews⟩⟩ (by unfold maxLen; omega) (by omega) (Nat.le_refl _)
    subst he
    obtain ⟨A', c', rfl, h5⟩ := RowI.of_own (zs := [z]) h2 (by simpa using hwf)
    exact ⟨A', c', w', h1, h5, gr_grown h3⟩
  | some a =>
    have hol : ∀ (j : Nat) (u : Value), (zs.map (Value.int .i64))[j]? = some u → w.cell? (a.add j) = some u := fun j u hu => by
      rw [List.getElem?_map] at hu
      obtain ⟨q, hq, rfl⟩ := Option.map_eq_some_iff.1 hu
      have hj := (List.getElem?_eq_some_iff.1 hq).1
      obtain ⟨_, _, hc⟩ := hr.ints
      obtain ⟨b', off, ha, _, hc2⟩ := hc (by have := hr.1; omega)
      cases ha
      have := hc2 j (by have := hr.1; omega)
      rw [List.getD, hq] at this
      rw [add_shape rfl]
      exact this
    obtain ⟨v', w', h1, h2, h3⟩ := run_append_arg_grows (P := P) (w := w) t ty e i z0 1 8 ht hi hz hsize hby hzs (by decide) a n n (zs.map (Value.int .i64)) (by rw [List.length_map, hr.1, Nat.mul_one]) hol ⟨b, 0, none⟩ 1 1 [.int .i64 z] rfl hnews (by omega) (by unfold maxLen; omega) (by omega)
    subst he
    have h2' : w'.ownsRow w.heap.size 3 1 v' (n + 1) ((zs ++ [z]).map (Value.int .i64)) := by rw [List.map_append]; exact h2
    obtain ⟨A', c', rfl, h5⟩ := RowI.of_own h2' hwf
    exact ⟨A', c', w', h1, h5, gr_grown h3⟩
theorem wpIn_app {Fc : Fence} {m : Nat} {o : Oper} {a : Act} {K : Act → World → Prop} {Q : Exit → Act → World → Prop} (hr : Fc.round = none) (s x : Operand) (t : TypeId)
    (ho : o.op = .call { callee := .builtin .append, args := #[s, x], argTypes := #[t, t] }) {v u v' : Value} {w' : World} (hs : a.eval s = v) (hx : a.eval x = u)
    (h : (Builtin.append_ #[t, t] o.type #[v, u]).run P w = .ok v' w') (hk : K (a.put o.dst v') w') : o.wpIn Fc m P a w K Q := by
  unfold Oper.wpIn
  rw [hr, Oper.semAt_none]
  refine ⟨fun f hf => ?_, ?_⟩
  · simp [Oper.about, ho, resolve, Target.leads, Sem.run_pure] at hf
  · unfold execOp
    simp only [ho, resolve, invoke, builtin, Sem.run_bind, Sem.run_pure, Result.andThen_ok, List.map_toArray, List.map_cons, List.map_nil, hs, hx, h]
    exact hk
end
end Go.Proofs.Ytklncffhkdbkhaa
