/- The map of sizes, as a function: what a look-up and a store do. -/
import Derived.Test.YtbfnmgiccbdglaaAnXPlain
namespace Go.Proofs.Ytbfnmgiccbdglaa
open Go.ChangeShapes Go.WideShapes Go.ChangeAt Go.RowKit

def Sz.v (s : Sz) : Value := .agg #[.int .i64 s.d, .int .i64 s.n, .int .i64 s.b]
def Sz.w (s : Sz) : DataW Unit := .agg [.lit (.int .i64 s.d), .lit (.int .i64 s.n), .lit (.int .i64 s.b)]
theorem Sz.w_inj {s q : Sz} (h : s.w = q.w) : s = q := by
  obtain ⟨a, b, c⟩ := s
  obtain ⟨a', b', c'⟩ := q
  simp only [Sz.w, DataW.agg.injEq, List.cons.injEq, DataW.lit.injEq, Lit.int.injEq, true_and, and_true] at h
  rw [h.1, h.2.1, h.2.2]
/-- How an element reads: three ints. -/
def rs : Value → Option (DataW Unit × List MemPlace)
  | .agg ⟨[.int .i64 a, .int .i64 b, .int .i64 c]⟩ => some (Sz.w ⟨a, b, c⟩, [])
  | _ => none
theorem rs_v (s : Sz) : rs s.v = some (s.w, []) := rfl
theorem rs_inv {v : Value} {z : DataW Unit × List MemPlace} (h : rs v = some z) : ∃ s : Sz, v = s.v ∧ z = (s.w, []) := by
  unfold rs at h
  split at h
  · cases h; exact ⟨⟨_, _, _⟩, rfl, rfl⟩
  · cases h
/-- Block b is a map of at most n entries that gives the size f s at the key s. -/
def MapS (w : World) (b n : Nat) (f : List UInt8 → Sz) : Prop :=
  ∃ D, w.ownsMap Try.prog 9 rs b n D ∧ ∀ s : List UInt8, s.length ≤ maxLen → (f s).w = D.atKey (.string s) Sz.zero.w
theorem MapS.lt {w : World} {b n : Nat} {f : List UInt8 → Sz} (h : MapS w b n f) : b < w.heap.size := by
  obtain ⟨_, h2, _⟩ := h
  exact h2.lt
theorem MapS.made (w : World) : MapS (w.alloc (.map #[] 0)) w.heap.size 0 (fun _ => Sz.zero) := ⟨.map [], World.ownsMap_made w _ _ _, fun _ _ => rfl⟩
theorem MapS.mono {w : World} {b n n' : Nat} {f : List UInt8 → Sz} (h : MapS w b n f) (hn : n ≤ n') : MapS w b n' f := by
  obtain ⟨D, h2, h3⟩ := h
  exact ⟨D, h2.mono hn, h3⟩
theorem MapS.same {w w' : World} {b n : Nat} {f : List UInt8 → Sz} (h : MapS w b n f) (hb : w'.heap[b]? = w.heap[b]?) : MapS w' b n f := by
  obtain ⟨D, ⟨es, clock, g1, g2⟩, h3⟩ := h
  exact ⟨D, ⟨es, clock, hb.trans g1, g2⟩, h3⟩
theorem MapS.gr {w w' : World} {b n : Nat} {f : List UInt8 → Sz} (h : MapS w b n f) (hg : Gr w w') : MapS w' b n f := h.same (hg.block b h.lt)
theorem MapS.block {w : World} {b n : Nat} {f : List UInt8 → Sz} (h : MapS w b n f) : ∃ es cl, w.heap[b]? = some (.map es cl) := by
  obtain ⟨D, ⟨es, cl, g1, g2⟩, h3⟩ := h
  exact ⟨es, cl, g1⟩
theorem MapS.look {w : World} {b n : Nat} {f : List UInt8 → Sz} (h : MapS w b n f) {t e : TypeId} (ht : Try.prog.underlying t = some (.map 9 e)) (hz : (zeroValue e).run Try.prog w = .ok Sz.zero.v w) {s : List UInt8} (hs : s.length ≤ maxLen) :
    (Instr.lookup t (.map (some b)) (.string (bs s)) false).run Try.prog w = .ok (f s).v w := by
  obtain ⟨D, h2, h3⟩ := h
  obtain ⟨v, ps, hrun, hv⟩ := h2.lookup strKeyed ht hz (rs_v Sz.zero) (keyOf_bs hs)
  obtain ⟨q, rfl, hq⟩ := rs_inv hv
  simp only [Prod.mk.injEq] at hq
  have hq1 := hq.1
  rw [← h3 s hs] at hq1
  rw [hrun, Sz.w_inj hq1]
theorem MapS.put {w : World} {b n : Nat} {f : List UInt8 → Sz} (h : MapS w b n f) {t e : TypeId} (ht : Try.prog.underlying t = some (.map 9 e)) (hn : n < maxLen) {s : List UInt8} (hs : s.length ≤ maxLen) (v : Sz) :
    ∃ w', (Instr.mapUpdate t (.map (some b)) (.string (bs s)) v.v).run Try.prog w = .ok () w' ∧ MapS w' b (n + 1) (updS f s v) ∧ w.grownBy w' (some b) := by
  obtain ⟨D, h2, h3⟩ := h
  obtain ⟨w', hrun, h4, h5⟩ := h2.update strKeyed ht hn (keyOf_bs hs) (rs_v v)
  have hD : Maps.IsMap D := by
    obtain ⟨es, _, _, _, _, rfl⟩ := h2
    exact ⟨_, rfl⟩
  refine ⟨w', hrun, ⟨_, h4, fun k hk => ?_⟩, h5⟩
  show (if k = s then v else f k).w = _
  by_cases hks : k = s
  · subst hks
    rw [if_pos rfl, Maps.atKey_put_same hD (strKeyed.key (keyOf_bs hs))]
  · rw [if_neg hks, Maps.atKey_put_other (fun e => hks (by cases e; rfl))]
    exact h3 k hk
theorem zeroSz (w : World) : (zeroValue 72).run Try.prog w = .ok Sz.zero.v w := by kernel_rfl
end Go.Proofs.Ytbfnmgiccbdglaa
