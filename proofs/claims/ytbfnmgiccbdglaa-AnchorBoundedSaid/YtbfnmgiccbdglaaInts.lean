/- Slices of integers that a call makes itself. -/
import Derived.Test.YtbfnmgiccbdglaaRead
import Derived.OneCell
import Derived.OwnWalk
import Derived.Deep.AppendLies
namespace Go.Proofs.Ytbfnmgiccbdglaa
open Go.ChangeShapes Go.WideShapes Go.ChangeAt Go.RowKit

theorem news_new {W : World} {t : TypeId} {cs : List Value} {B : Nat} (hB : B = W.heap.size) : ∀ (j : Nat) (u : Value), cs[j]? = some u → (W.alloc (.cells cs.toArray t)).cell? ((⟨B, 0, none⟩ : Addr).add j) = some u := by
  intro j u hu
  subst hB
  rw [show (⟨W.heap.size, 0, none⟩ : Addr).add j = ⟨W.heap.size, j, none⟩ from by unfold Addr.add; split <;> simp_all, World.cell?_alloc_new]
  simpa using hu
theorem own_form {w : World} {base : Nat} {e : TypeId} {size : Nat} {v : Value} {n : Nat} {xs : List Value} (h : w.ownsRow base e size v n xs) : ∃ A cap, v = .slice A n cap := by
  rcases h.2 with ⟨rfl, h0⟩ | ⟨g, cap, cur, rfl, _⟩
  · exact ⟨none, 0, by rw [h0]⟩
  · exact ⟨_, _, rfl⟩
theorem own_same {w w' : World} {base : Nat} {e : TypeId} {size : Nat} {v : Value} {n : Nat} {xs : List Value} (h : w.ownsRow base e size v n xs) (hk : ∀ k, v.ownBlock = some k → w'.heap[k]? = w.heap[k]?) : w'.ownsRow base e size v n xs := by
  obtain ⟨h1, h2⟩ := h
  refine ⟨h1, ?_⟩
  rcases h2 with h2 | ⟨g, cap, cur, rfl, hg, hh, hr⟩
  · exact .inl h2
  · exact .inr ⟨g, cap, cur, rfl, hg, (hk g rfl).trans hh, hr⟩
theorem infoInt : (Try.prog.info? 3).map (fun i => (i.zero, i.size, i.bytes)) = some (some (.int .i64 0), 1, 8) := by kernel_rfl
theorem wf_int {z : Int} (h : -4194304 ≤ z ∧ z ≤ 4194304) : (Lit.int .i64 z).wf = true := by
  have h2 : IntKind.i64.min = -9223372036854775808 := by rfl
  have h3 : IntKind.i64.max = 9223372036854775807 := by rfl
  simp only [Lit.wf, h2, h3, Bool.and_eq_true, decide_eq_true_eq]
  omega
/-- This slice, of the call's own, holds these numbers. -/
def OwnI (w : World) (B : Nat) (v : Value) (zs : List Int) : Prop := w.ownsRow B 3 1 v zs.length (zs.map (Value.int .i64))
theorem IntsAt.of_own {W : World} {B : Nat} {v : Value} {zs : List Int} (hown : OwnI W B v zs) (hs : ∀ z ∈ zs, -4194304 ≤ z ∧ z ≤ 4194304) : ∃ A c, v = .slice A zs.length c ∧ zs.length ≤ c ∧ c ≤ maxLen ∧ IntsAt .i64 W A zs.length zs := by
  have hown' := hown
  rcases hown.2 with ⟨rfl, h0⟩ | ⟨g, cap, cur, rfl, _, hh, hc, hm, _⟩
  · have h0' : zs.length = 0 := h0
    exact ⟨none, 0, by rw [h0'], by omega, Nat.zero_le _, rfl, fun z hz => wf_int (hs z hz), fun h => absurd h (by omega)⟩
  · refine ⟨_, _, rfl, hc, hm, rfl, fun z hz => wf_int (hs z hz), fun _ => ⟨g, 0, rfl, lt_of_block hh, fun i hi => ?_⟩⟩
    have h2 := hown'.cellAt (e := 3) i (by simpa using hi)
    rw [List.getElem?_map, List.getElem?_eq_getElem hi] at h2
    simpa [List.getD, List.getElem?_eq_getElem hi] using h2
def OwnN (w : World) (B : Nat) (v : Value) (n : Nat) (zs : List Int) : Prop := w.ownsRow B 3 1 v n (zs.map (Value.int .i64))
theorem OwnN.len {w : World} {B : Nat} {v : Value} {n : Nat} {zs : List Int} (h : OwnN w B v n zs) : zs.length = n := by
  have := h.1
  simpa using this
theorem OwnN.snoc {w : World} {B : Nat} {v : Value} {n : Nat} {zs zs' : List Int} {z : Int} (h : w.ownsRow B 3 1 v (n + 1) (zs.map (Value.int .i64) ++ [.int .i64 z])) (he : zs' = zs ++ [z]) : OwnN w B v (n + 1) zs' := by
  subst he
  unfold OwnN
  rw [List.map_append]
  exact h
theorem OwnN.to {w : World} {B : Nat} {v : Value} {n : Nat} {zs zs' : List Int} (h : OwnN w B v n zs) (he : zs' = zs) : OwnI w B v zs' := by
  subst he
  have := h.len
  unfold OwnI
  rw [this]
  exact h
theorem OwnI.drewN {w : World} {B : Nat} {v : Value} {zs : List Int} (h : OwnI w B v zs) (n : Nat) : OwnI (w.drewN n) B v zs := own_same h (fun _ _ => rfl)
def slLen : Value → Nat
  | .slice _ n _ => n
  | _ => 0
theorem own_type {w : World} {base : Nat} {e T : TypeId} {size : Nat} {v : Value} {n : Nat} {xs : List Value} {b : Nat} {cs : Array Value} {fr : Nat × Nat} (h : w.ownsRow base e size v n xs) (hb : w.heap[b]? = some (.cells cs T fr)) (ht : T ≠ e) : v.ownBlock ≠ some b := by
  intro hv
  obtain ⟨_, h2⟩ := h
  rcases h2 with ⟨rfl, _⟩ | ⟨g, cap, cur, rfl, hg, hh, _⟩
  · cases hv
  · simp only [Value.ownBlock, Option.some.injEq] at hv
    subst hv
    rw [hh] at hb
    simp only [Option.some.injEq, Obj.cells.injEq] at hb
    exact ht hb.2.1.symm
end Go.Proofs.Ytbfnmgiccbdglaa
