/- Maps keyed by strings, as functions: what a look-up and a store do. -/
import Derived.Test.YtbfnmgiccbdglaaAnPlain
import Derived.Maps.Own
import Derived.Maps.Views
namespace Go.Proofs.Ytbfnmgiccbdglaa
open Go.ChangeShapes Go.WideShapes Go.ChangeAt Go.RowKit

/-- How an element reads: a pointer to a block's start, a bool. -/
def rp : Value → Option (DataW Unit × List MemPlace)
  | .pointer none => some (.nil, [])
  | .pointer (some ⟨b, 0, none⟩) => some (.lit (.int .i64 b), [])
  | .bool b => some (.lit (.bool b), [])
  | _ => none
theorem rp_inv {v : Value} {z : DataW Unit × List MemPlace} (h : rp v = some z) : (v = .pointer none ∧ z = (.nil, [])) ∨ (∃ b : Nat, v = .pointer (some ⟨b, 0, none⟩) ∧ z = (.lit (.int .i64 b), [])) ∨ (∃ b, v = .bool b ∧ z = (.lit (.bool b), [])) := by
  unfold rp at h
  split at h
  · cases h; exact .inl ⟨rfl, rfl⟩
  · cases h; exact .inr (.inl ⟨_, rfl, rfl⟩)
  · cases h; exact .inr (.inr ⟨_, rfl, rfl⟩)
  · cases h
theorem rp_nil {v : Value} {z : DataW Unit × List MemPlace} (h : rp v = some z) : z.2 = [] := by
  rcases rp_inv h with ⟨_, rfl⟩ | ⟨_, _, rfl⟩ | ⟨_, _, rfl⟩ <;> rfl
theorem rp_inj {a b : Value} {z : DataW Unit × List MemPlace} (ha : rp a = some z) (hb : rp b = some z) : a = b := by
  rcases rp_inv ha with ⟨rfl, rfl⟩ | ⟨x, rfl, rfl⟩ | ⟨x, rfl, rfl⟩
  · rcases rp_inv hb with ⟨rfl, h⟩ | ⟨_, _, h⟩ | ⟨_, _, h⟩
    · rfl
    · cases h
    · cases h
  · rcases rp_inv hb with ⟨_, h⟩ | ⟨y, rfl, h⟩ | ⟨_, _, h⟩
    · cases h
    · simp only [Prod.mk.injEq, DataW.lit.injEq, Lit.int.injEq, Int.natCast_inj, true_and, and_true] at h
      rw [h]
    · cases h
  · rcases rp_inv hb with ⟨_, h⟩ | ⟨_, _, h⟩ | ⟨y, rfl, h⟩
    · cases h
    · cases h
    · simp only [Prod.mk.injEq, DataW.lit.injEq, Lit.bool.injEq, and_true] at h
      rw [h]
theorem strKeyed : Maps.Keyed Try.prog 9 := Maps.string_keyed Try.underlying9
theorem keyOf_bs {s : List UInt8} (h : s.length ≤ maxLen) : keyOf Try.prog 9 (.string (bs s)) = some (.string s) := WideMaps.keyOf_string_mk Try.underlying9 (s := bs s) h
/-- Block b is a map of at most n entries: what it gives at each key; z where there is none. -/
def MapF (w : World) (b n : Nat) (f : List UInt8 → Value) (z : Value) : Prop :=
  ∃ D zd, rp z = some (zd, []) ∧ w.ownsMap Try.prog 9 rp b n D ∧ ∀ s : List UInt8, s.length ≤ maxLen → rp (f s) = some (D.atKey (.string s) zd, [])
theorem MapF.lt {w : World} {b n : Nat} {f : List UInt8 → Value} {z : Value} (h : MapF w b n f z) : b < w.heap.size := by
  obtain ⟨_, _, _, h2, _⟩ := h
  exact h2.lt
theorem MapF.made (w : World) (z : Value) {zd : DataW Unit} (hz : rp z = some (zd, [])) : MapF (w.alloc (.map #[] 0)) w.heap.size 0 (fun _ => z) z :=
  ⟨.map [], zd, hz, World.ownsMap_made w _ _ _, fun _ _ => hz⟩
theorem MapF.mono {w : World} {b n n' : Nat} {f : List UInt8 → Value} {z : Value} (h : MapF w b n f z) (hn : n ≤ n') : MapF w b n' f z := by
  obtain ⟨D, zd, h1, h2, h3⟩ := h
  exact ⟨D, zd, h1, h2.mono hn, h3⟩
theorem MapF.same {w w' : World} {b n : Nat} {f : List UInt8 → Value} {z : Value} (h : MapF w b n f z) (hb : w'.heap[b]? = w.heap[b]?) : MapF w' b n f z := by
  obtain ⟨D, zd, h1, ⟨es, clock, g1, g2⟩, h3⟩ := h
  exact ⟨D, zd, h1, ⟨es, clock, hb.trans g1, g2⟩, h3⟩
theorem MapF.gr {w w' : World} {b n : Nat} {f : List UInt8 → Value} {z : Value} (h : MapF w b n f z) (hg : Gr w w') : MapF w' b n f z := h.same (hg.block b h.lt)
theorem MapF.look {w : World} {b n : Nat} {f : List UInt8 → Value} {z : Value} (h : MapF w b n f z) {t e : TypeId} (ht : Try.prog.underlying t = some (.map 9 e)) (hz : (zeroValue e).run Try.prog w = .ok z w) {s : List UInt8} (hs : s.length ≤ maxLen) :
    (Instr.lookup t (.map (some b)) (.string (bs s)) false).run Try.prog w = .ok (f s) w := by
  obtain ⟨D, zd, h1, h2, h3⟩ := h
  obtain ⟨v, ps, hrun, hv⟩ := h2.lookup strKeyed ht hz h1 (keyOf_bs hs)
  have hp := rp_nil hv
  simp only at hp
  subst hp
  rw [hrun, rp_inj hv (h3 s hs)]
theorem MapF.put {w : World} {b n : Nat} {f : List UInt8 → Value} {z : Value} (h : MapF w b n f z) {t e : TypeId} (ht : Try.prog.underlying t = some (.map 9 e)) (hn : n < maxLen) {s : List UInt8} (hs : s.length ≤ maxLen) {v : Value} {d : DataW Unit} (hv : rp v = some (d, [])) :
    ∃ w', (Instr.mapUpdate t (.map (some b)) (.string (bs s)) v).run Try.prog w = .ok () w' ∧ MapF w' b (n + 1) (fun k => if k = s then v else f k) z ∧ w.grownBy w' (some b) := by
  obtain ⟨D, zd, h1, h2, h3⟩ := h
  obtain ⟨w', hrun, h4, h5⟩ := h2.update strKeyed ht hn (keyOf_bs hs) hv
  have hD : Maps.IsMap D := by
    obtain ⟨es, _, _, _, _, rfl⟩ := h2
    exact ⟨_, rfl⟩
  refine ⟨w', hrun, ⟨_, zd, h1, h4, fun k hk => ?_⟩, h5⟩
  show rp (if k = s then v else f k) = _
  by_cases hks : k = s
  · subst hks
    rw [if_pos rfl, Maps.atKey_put_same hD (strKeyed.key (keyOf_bs hs))]
    exact hv
  · rw [if_neg hks, Maps.atKey_put_other (fun e => hks (by cases e; rfl))]
    exact h3 k hk
end Go.Proofs.Ytbfnmgiccbdglaa
