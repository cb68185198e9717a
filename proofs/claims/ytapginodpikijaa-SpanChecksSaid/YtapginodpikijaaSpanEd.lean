/- The memory of package span's 'edited': its boxes, its runs, its bytes; and the closure 'keep'. -/
import Derived.Test.YtapginodpikijaaSpanCheckR
import Derived.StillTailTactics
import Derived.Lib.AppendStr
namespace Go.Proofs.Ytapginodpikijaa
open Go.ChangeShapes Go.WideShapes Go.ChangeAt Go.RowKit Go.Lib

def Run.cells (r : Run) : List Value := [.int .i64 r.i, .int .i64 r.k, .int .i64 r.n]
theorem Gr.grown {W w1 : World} (h : W.grownBy w1 none) : Gr W w1 := Below.grown (Below.refl _ _) h (Nat.le_refl _) (fun _ hk => by cases hk)
theorem Gr.grownOwn {w W w1 : World} {row : Option Nat} (h : Gr w W) (hg : W.grownBy w1 row) (hr : ∀ k, row = some k → w.heap.size ≤ k) : Gr w w1 := Below.grown h hg h.size hr
theorem own_type {w : World} {base : Nat} {e T : TypeId} {size : Nat} {v : Value} {n : Nat} {xs : List Value} {b : Nat} {cs : Array Value} {fr : Nat × Nat} (h : w.ownsRow base e size v n xs) (hb : w.heap[b]? = some (.cells cs T fr)) (ht : T ≠ e) : v.ownBlock ≠ some b := by
  intro hv
  obtain ⟨_, h2⟩ := h
  rcases h2 with ⟨rfl, _⟩ | ⟨g, cap, cur, rfl, hg, hh, _⟩
  · cases hv
  · simp only [Value.ownBlock, Option.some.injEq] at hv
    subst hv
    rw [hh] at hb
    simp only [Option.some.injEq, Obj.cells.injEq] at hb
    exact ht hb.2.1.symm
theorem own_same {w w' : World} {base : Nat} {e : TypeId} {size : Nat} {v : Value} {n : Nat} {xs : List Value} (h : w.ownsRow base e size v n xs) (hk : ∀ k, v.ownBlock = some k → w'.heap[k]? = w.heap[k]?) : w'.ownsRow base e size v n xs := by
  obtain ⟨h1, h2⟩ := h
  refine ⟨h1, ?_⟩
  rcases h2 with h2 | ⟨g, cap, cur, rfl, hg, hh, hr⟩
  · exact .inl h2
  · exact .inr ⟨g, cap, cur, rfl, hg, (hk g rfl).trans hh, hr⟩
theorem heap_alloc_old {w : World} {o : Obj} {k : Nat} (h : k < w.heap.size) : (w.alloc o).heap[k]? = w.heap[k]? := by
  show (w.heap.push o)[k]? = _
  rw [Array.getElem?_push, if_neg (by omega)]
theorem heap_setCell_other {w : World} {a : Addr} {u : Value} {k : Nat} (h : k ≠ a.block) : (w.setCell a u).heap[k]? = w.heap[k]? := Below.heap_setCell _ _ _ _ h

structure EdSt (W0 : World) (ba br bo bsr : Nat) (src : List UInt8) (w : World) (at_ : Nat) (rs : List Run) (out : List UInt8) (vr vo : Value) : Prop where
  hs : w.heap[bsr]? = some (.cells #[.string (bs src)] 9 (0, 0))
  ha : w.heap[ba]? = some (.cells #[.int .i64 at_] 3 (0, 0))
  hr : w.heap[br]? = some (.cells #[vr] 53 (0, 0))
  ho : w.heap[bo]? = some (.cells #[vo] 62 (0, 0))
  rr : w.ownsRow W0.heap.size 57 3 vr rs.length (rs.flatMap Run.cells)
  oo : w.ownsRow W0.heap.size 5 1 vo out.length (strCells (bs out))
  gr : Gr W0 w
  lo : W0.heap.size ≤ ba ∧ W0.heap.size ≤ br ∧ W0.heap.size ≤ bo ∧ W0.heap.size ≤ bsr
theorem block_type_ne {w : World} {a b : Nat} {cs ds : Array Value} {t u : TypeId} {f g : Nat × Nat} (h : w.heap[a]? = some (.cells cs t f)) (k : w.heap[b]? = some (.cells ds u g)) (ht : t ≠ u) : a ≠ b := by
  rintro rfl
  rw [h] at k
  simp only [Option.some.injEq, Obj.cells.injEq] at k
  exact ht k.2.1
section
variable {W0 : World} {ba br bo bsr : Nat} {src : List UInt8} {w w' : World} {at_ : Nat} {rs : List Run} {out : List UInt8} {vr vo : Value}
theorem EdSt.same (h : EdSt W0 ba br bo bsr src w at_ rs out vr vo) (hk : ∀ k, k < w.heap.size → w'.heap[k]? = w.heap[k]?) (hg : Gr W0 w') : EdSt W0 ba br bo bsr src w' at_ rs out vr vo :=
  ⟨(hk _ (lt_of_block h.hs)).trans h.hs, (hk _ (lt_of_block h.ha)).trans h.ha, (hk _ (lt_of_block h.hr)).trans h.hr, (hk _ (lt_of_block h.ho)).trans h.ho,
    own_same h.rr (fun k hv => hk k (h.rr.lt k hv).2), own_same h.oo (fun k hv => hk k (h.oo.lt k hv).2), hg, h.lo⟩
theorem EdSt.alloc (h : EdSt W0 ba br bo bsr src w at_ rs out vr vo) (o : Obj) : EdSt W0 ba br bo bsr src (w.alloc o) at_ rs out vr vo :=
  h.same (fun _ hk => heap_alloc_old hk) (h.gr.alloc o)
theorem EdSt.drew (h : EdSt W0 ba br bo bsr src w at_ rs out vr vo) : EdSt W0 ba br bo bsr src w.drew at_ rs out vr vo := h.same (fun _ _ => rfl) h.gr.drew
theorem EdSt.setAt (h : EdSt W0 ba br bo bsr src w at_ rs out vr vo) (n : Nat) : EdSt W0 ba br bo bsr src (w.setCell ⟨ba, 0, none⟩ (.int .i64 n)) n rs out vr vo :=
  ⟨(heap_setCell_other (block_type_ne h.hs h.ha (by decide))).trans h.hs, one_setCell h.ha, (heap_setCell_other (block_type_ne h.hr h.ha (by decide))).trans h.hr, (heap_setCell_other (block_type_ne h.ho h.ha (by decide))).trans h.ho,
    ownsRow_setCell_other h.rr (own_type h.rr h.ha (by decide)) _, ownsRow_setCell_other h.oo (own_type h.oo h.ha (by decide)) _, h.gr.setCell h.lo.1 _, h.lo⟩
theorem EdSt.appR (h : EdSt W0 ba br bo bsr src w at_ rs out vr vo) {vr' : Value} {r : Run} (hg : w.grownBy w' vr.ownBlock) (ho : w'.ownsRow W0.heap.size 57 3 vr' (rs.length + 1) (rs.flatMap Run.cells ++ r.cells)) :
    w'.heap[br]? = some (.cells #[vr] 53 (0, 0)) ∧ EdSt W0 ba br bo bsr src (w'.setCell ⟨br, 0, none⟩ vr') at_ (rs ++ [r]) out vr' vo := by
  have hgr : Gr W0 w' := Gr.grownOwn h.gr hg (fun k hk => (h.rr.lt k hk).1)
  have nb : ∀ {b : Nat} {cs : Array Value} {T : TypeId}, w.heap[b]? = some (.cells cs T (0, 0)) → T ≠ 57 → w'.heap[b]? = some (.cells cs T (0, 0)) := fun hb ht =>
    (hg.block _ (lt_of_block hb) (fun e => own_type h.rr hb ht e.symm)).trans hb
  have hs := nb h.hs (by decide)
  have ha := nb h.ha (by decide)
  have hr := nb h.hr (by decide)
  have hoo := nb h.ho (by decide)
  have oo : w'.ownsRow W0.heap.size 5 1 vo out.length (strCells (bs out)) := own_same h.oo (fun k hk => hg.block k (h.oo.lt k hk).2 (fun e => by
    obtain ⟨_, h2⟩ := h.oo
    rcases h2 with ⟨rfl, _⟩ | ⟨g, cap, cur, rfl, _, hh, _⟩
    · cases hk
    · simp only [Value.ownBlock, Option.some.injEq] at hk
      subst hk
      exact own_type h.rr hh (by decide) e.symm))
  refine ⟨hr, (heap_setCell_other (block_type_ne hs hr (by decide))).trans hs, (heap_setCell_other (block_type_ne ha hr (by decide))).trans ha, one_setCell hr, (heap_setCell_other (block_type_ne hoo hr (by decide))).trans hoo,
    ?_, ownsRow_setCell_other oo (own_type oo hr (by decide)) _, hgr.setCell h.lo.2.1 _, h.lo⟩
  have := ownsRow_setCell_other ho (a := ⟨br, 0, none⟩) (own_type ho hr (by decide)) vr'
  simpa using this
theorem strCells_append (a b : List UInt8) : strCells (bs a) ++ strCells (bs b) = strCells (bs (a ++ b)) := by simp [strCells, bs]
theorem EdSt.appO (h : EdSt W0 ba br bo bsr src w at_ rs out vr vo) {vo' : Value} {s : List UInt8} (hg : w.grownBy w' vo.ownBlock) (ho : w'.ownsRow W0.heap.size 5 1 vo' (out.length + (bs s).size) (strCells (bs out) ++ strCells (bs s))) :
    w'.heap[bo]? = some (.cells #[vo] 62 (0, 0)) ∧ EdSt W0 ba br bo bsr src (w'.setCell ⟨bo, 0, none⟩ vo') at_ rs (out ++ s) vr vo' := by
  have hgr : Gr W0 w' := Gr.grownOwn h.gr hg (fun k hk => (h.oo.lt k hk).1)
  have nb : ∀ {b : Nat} {cs : Array Value} {T : TypeId}, w.heap[b]? = some (.cells cs T (0, 0)) → T ≠ 5 → w'.heap[b]? = some (.cells cs T (0, 0)) := fun hb ht =>
    (hg.block _ (lt_of_block hb) (fun e => own_type h.oo hb ht e.symm)).trans hb
  have hs := nb h.hs (by decide)
  have ha := nb h.ha (by decide)
  have hr := nb h.hr (by decide)
  have hoo := nb h.ho (by decide)
  have rr : w'.ownsRow W0.heap.size 57 3 vr rs.length (rs.flatMap Run.cells) := own_same h.rr (fun k hk => hg.block k (h.rr.lt k hk).2 (fun e => by
    obtain ⟨_, h2⟩ := h.rr
    rcases h2 with ⟨rfl, _⟩ | ⟨g, cap, cur, rfl, _, hh, _⟩
    · cases hk
    · simp only [Value.ownBlock, Option.some.injEq] at hk
      subst hk
      exact own_type h.oo hh (by decide) e.symm))
  refine ⟨hoo, (heap_setCell_other (block_type_ne hs hoo (by decide))).trans hs, (heap_setCell_other (block_type_ne ha hoo (by decide))).trans ha, (heap_setCell_other (block_type_ne hr hoo (by decide))).trans hr, one_setCell hoo,
    ownsRow_setCell_other rr (own_type rr hoo (by decide)) _, ?_, hgr.setCell h.lo.2.2.1 _, h.lo⟩
  have := ownsRow_setCell_other ho (a := ⟨bo, 0, none⟩) (own_type ho hoo (by decide)) vo'
  rw [strCells_append, bs_size] at this
  rw [List.length_append]
  exact this
end
end Go.Proofs.Ytapginodpikijaa
