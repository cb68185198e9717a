/- What a round over an iterator keeps: all cells but those of one block. -/
import Derived.Test.YtklncffhkdbkhaaTrGet
import Derived.RangeFuncNested
import Derived.RangeFuncBound
import Derived.RangeFuncCalls
import Derived.RangeFuncLeaves
import Derived.RangeFuncFrom
import Derived.Shelf.Abstract
import Derived.Shelf.RegionOpen
import Derived.OwnWalkIn
import Derived.TacticsInMore
import Derived.LoopNIn
import Derived.LoopIn
namespace Go.Proofs.Ytklncffhkdbkhaa
open Go.ChangeShapes Go.WideShapes Go.ChangeAt Go.RowKit

/-- Blocks of cells lie as they lay, but for the block s. -/
def KeepC (s : Nat) (W W' : World) : Prop := W.heap.size ≤ W'.heap.size ∧ ∀ (k : Nat) (cs : Array Value) (T : TypeId) (fr : Nat × Nat), k ≠ s → W.heap[k]? = some (.cells cs T fr) → W'.heap[k]? = some (.cells cs T fr)
theorem KeepC.refl (s : Nat) (W : World) : KeepC s W W := ⟨Nat.le_refl _, fun _ _ _ _ _ h => h⟩
theorem KeepC.trans {s : Nat} {A B C : World} (h : KeepC s A B) (k : KeepC s B C) : KeepC s A C := ⟨Nat.le_trans h.1 k.1, fun b cs T fr hb hc => k.2 b cs T fr hb (h.2 b cs T fr hb hc)⟩
theorem KeepC.gr {s : Nat} {A B : World} (h : Gr A B) : KeepC s A B := ⟨Below.size h, fun k _ _ _ _ hc => (h.block k (lt_of_block hc)).trans hc⟩
theorem KeepC.cell {s : Nat} {A B : World} (h : KeepC s A B) {b o : Nat} {v : Value} (hb : b ≠ s) (hc : A.cell? ⟨b, o, none⟩ = some v) : B.cell? ⟨b, o, none⟩ = some v := by
  unfold World.cell? at hc ⊢
  split at hc
  · rename_i cs T fr hh
    rw [h.2 b cs T fr hb hh]
    exact hc
  · cases hc
theorem KeepC.box {s : Nat} {A B : World} (h : KeepC s A B) {b : Nat} {d : ND} (hb : b ≠ s) (hc : NBox A b d) : NBox B b d := h.2 b _ _ _ hb hc
theorem KeepC.put {s : Nat} (W : World) (l : Nat) (o o' : Obj) (h : W.heap[l]? = some o) (hc : o.isCells = false) : KeepC s W (W.putObj l o') := by
  have hg := grownBy_putObj' W l o'
  refine ⟨hg.size, fun k cs T fr _ hk => ?_⟩
  by_cases hkl : k = l
  · subst hkl
    rw [h] at hk
    simp only [Option.some.injEq] at hk
    subst hk
    cases hc
  · exact (hg.block k (lt_of_block hk) (by simpa using fun e => hkl e)).trans hk
theorem NRep.keepC {s : Nat} {W w : World} (hk : KeepC s W w) : ∀ (m : Nat) (v : ND) (t : NT), NRep (fun b => b ≠ s) m W v t → NRep (fun b => b ≠ s) m w v t
  | 0, _, _, h => h
  | m + 1, v, .mk k l x ks e, h => by
    obtain ⟨h1, h2, h3, h4, h5, h6, h7, h8, h9, h10, h11, h12, h13⟩ := h
    refine ⟨h1, h2, h3, h4, h5, h6, h7, h8, h9, h10, h11, h12, fun i y hy => ?_⟩
    obtain ⟨b, o, d, ha, hp, hb, hc, hr⟩ := h13 i y hy
    obtain ⟨c0, c1, c2, c3, c4⟩ := hc
    exact ⟨b, o, d, ha, hp, Nat.lt_of_lt_of_le hb hk.1, ⟨hk.cell hp c0, hk.cell hp c1, hk.cell hp c2, hk.cell hp c3, hk.cell hp c4⟩, NRep.keepC hk m d y hr⟩
end Go.Proofs.Ytklncffhkdbkhaa
