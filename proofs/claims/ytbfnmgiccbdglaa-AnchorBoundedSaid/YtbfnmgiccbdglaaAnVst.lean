/- The visitor's state in memory: its block, its map, what the anchors name. -/
import Derived.Test.YtbfnmgiccbdglaaAnChk2
import Derived.Test.YtbfnmgiccbdglaaAnDet
namespace Go.Proofs.Ytbfnmgiccbdglaa
open Go.ChangeShapes Go.WideShapes Go.ChangeAt Go.RowKit

def ptr : Option Nat → Value
  | none => .pointer none
  | some b => .pointer (some ⟨b, 0, none⟩)
theorem rp_ptr (o : Option Nat) : ∃ d, rp (ptr o) = some (d, []) := by
  cases o with
  | none => exact ⟨_, rfl⟩
  | some b => exact ⟨_, rfl⟩
/-- What an anchor names, in block b: the node, its cost, whether it is complete. -/
def TBox (W : World) (b : Nat) (d : ND) (cz : Int) (co : Bool) : Prop := W.heap[b]? = some (.cells #[.int .i64 d.k, .string (bs d.l), .string (bs d.x), .slice d.A d.n d.c, .string (bs d.e), .int .i64 cz, .bool co] 81 (0, 0))
def TB (W : World) (nb b : Nat) (kt : NT) (co : Option Int) : Prop := nb ≤ b ∧ ∃ d m cz, TBox W b d cz co.isSome ∧ NRep (fun k => k < nb) m W d kt ∧ (∀ c, co = some c → cz = c)
def VBox (W : World) (b : Nat) (L u : U5) (Bm : Nat) : Prop := W.heap[b]? = some (.cells #[.int .i64 L.d, .int .i64 L.n, .int .i64 L.b, .int .i64 L.a, .int .i64 L.x, .int .i64 u.d, .int .i64 u.n, .int .i64 u.b, .int .i64 u.a, .int .i64 u.x, .map (some Bm)] 64 (0, 0))
structure VSt (nb Bv Bm : Nat) (L : U5) (cnt : Nat) (f : List UInt8 → Option Nat) (st : AS) (W : World) : Prop where
  vis : VBox W Bv L st.u Bm
  hv : nb ≤ Bv
  hm : nb ≤ Bm
  mp : MapF W Bm cnt (fun s => ptr (f s)) (.pointer none)
  no : ∀ s, f s = none → st.E s = none
  yes : ∀ s b, f s = some b → ∃ kt co, st.E s = some (kt, co) ∧ TB W nb b kt co
  one : ∀ s s' b, f s = some b → f s' = some b → s = s'
/-- What a visit keeps: old memory, and all boxes but the visitor's and the targets. -/
def KV (nb : Nat) (w w' : World) : Prop := nb ≤ w.heap.size ∧ Below nb w w' ∧ ∀ (k : Nat) (cs : Array Value) (T : TypeId) (fr : Nat × Nat), T ≠ 64 → T ≠ 81 → w.heap[k]? = some (.cells cs T fr) → w'.heap[k]? = some (.cells cs T fr)
theorem KV.gr {nb : Nat} {w w' : World} (hn : nb ≤ w.heap.size) (h : Gr w w') : KV nb w w' := ⟨hn, Below.mono h hn, fun k _ _ _ _ _ hk => (h.block k (lt_of_block hk)).trans hk⟩
theorem KV.trans {nb : Nat} {a b c : World} (h : KV nb a b) (k : KV nb b c) : KV nb a c := ⟨h.1, h.2.1.trans k.2.1, fun i cs T fr h1 h2 hi => k.2.2 i cs T fr h1 h2 (h.2.2 i cs T fr h1 h2 hi)⟩
theorem KV.lt {nb : Nat} {w w' : World} (h : KV nb w w') {k : Nat} (hk : k < w.heap.size) : k < w'.heap.size := Nat.lt_of_lt_of_le hk h.2.1.size
theorem KV.box {nb : Nat} {w w' : World} (h : KV nb w w') {b : Nat} {d : ND} (hb : NBox w b d) : NBox w' b d := h.2.2 b _ 24 _ (by decide) (by decide) hb
theorem KV.grown {nb : Nat} {a w w' : World} (h : KV nb a w) {b : Nat} {es : Array MapEntry} {cl : Nat} (hb : w.heap[b]? = some (.map es cl)) (hn : nb ≤ b) (hg : w.grownBy w' (some b)) : KV nb a w' := by
  refine h.trans ⟨Nat.le_trans h.1 h.2.1.size, (Below.refl nb w).grown hg (Nat.le_trans h.1 h.2.1.size) (fun k hk => by cases hk; exact hn), fun k cs T fr _ _ hk => ?_⟩
  refine (hg.block k (lt_of_block hk) (fun he => ?_)).trans hk
  cases he
  rw [hb] at hk
  cases hk
theorem KV.set {nb : Nat} {a w : World} (h : KV nb a w) {b : Nat} {cs : Array Value} {T : TypeId} (hb : w.heap[b]? = some (.cells cs T (0, 0))) (hT : T = 64 ∨ T = 81) (hn : nb ≤ b) (o : Nat) (u : Value) : KV nb a (w.setCell ⟨b, o, none⟩ u) := by
  refine h.trans ⟨Nat.le_trans h.1 h.2.1.size, (Below.refl nb w).setCell hn u, fun k cs' T' fr h1 h2 hk => ?_⟩
  refine (heap_set_other (fun he => ?_)).trans hk
  rw [he, hb] at hk
  simp only [Option.some.injEq, Obj.cells.injEq] at hk
  rcases hT with hT | hT
  · exact h1 (hk.2.1.symm.trans hT)
  · exact h2 (hk.2.1.symm.trans hT)
theorem KV.other {nb : Nat} {a w w' : World} (h : KV nb a w) {b : Nat} {cs : Array Value} {T : TypeId} (hb : w.heap[b]? = some (.cells cs T (0, 0))) (hT : T = 64 ∨ T = 81) (hl : Below nb w w') (ho : ∀ k, k ≠ b → w'.heap[k]? = w.heap[k]?) : KV nb a w' := by
  refine h.trans ⟨Nat.le_trans h.1 h.2.1.size, hl, fun k cs' T' fr h1 h2 hk => (ho k (fun he => ?_)).trans hk⟩
  rw [he, hb] at hk
  simp only [Option.some.injEq, Obj.cells.injEq] at hk
  rcases hT with hT | hT
  · exact h1 (hk.2.1.symm.trans hT)
  · exact h2 (hk.2.1.symm.trans hT)
theorem KV.vset {nb : Nat} {a W : World} (h : KV nb a W) {b Bm : Nat} {L u : U5} (hb : VBox W b L u Bm) (hn : nb ≤ b) (d n c x y : Value) : KV nb a (((((W.setCell ⟨b, 5, none⟩ d).setCell ⟨b, 6, none⟩ n).setCell ⟨b, 7, none⟩ c).setCell ⟨b, 8, none⟩ x).setCell ⟨b, 9, none⟩ y) :=
  h.other hb (.inl rfl) ((((((Below.refl nb W).setCell (p := ⟨b, 5, none⟩) hn _).setCell (p := ⟨b, 6, none⟩) hn _).setCell (p := ⟨b, 7, none⟩) hn _).setCell (p := ⟨b, 8, none⟩) hn _).setCell (p := ⟨b, 9, none⟩) hn _)
    (fun k hk => by rw [heap_set_other hk, heap_set_other hk, heap_set_other hk, heap_set_other hk, heap_set_other hk])
theorem KV.tset {nb : Nat} {a W : World} (h : KV nb a W) {b : Nat} {d : ND} {cz : Int} {co : Bool} (hb : TBox W b d cz co) (hn : nb ≤ b) (x y : Value) : KV nb a ((W.setCell ⟨b, 5, none⟩ x).setCell ⟨b, 6, none⟩ y) :=
  h.other hb (.inr rfl) (((Below.refl nb W).setCell (p := ⟨b, 5, none⟩) hn _).setCell (p := ⟨b, 6, none⟩) hn _) (fun k hk => by rw [heap_set_other hk, heap_set_other hk])
theorem NRep.below {nb : Nat} {W w : World} {m : Nat} {v : ND} {t : NT} (h : NRep (fun k => k < nb) m W v t) (hg : Below nb W w) : NRep (fun k => k < nb) m w v t :=
  NRep.keep ⟨hg.size, fun b o hb _ => Go.RowKit.Below.cell hg (p := ⟨b, o, none⟩) hb⟩ m v t h
theorem TBox.gr {W w : World} {b : Nat} {d : ND} {cz : Int} {co : Bool} (h : TBox W b d cz co) (hg : Gr W w) : TBox w b d cz co := (hg.block b (lt_of_block h)).trans h
theorem TBox.cells {W : World} {b : Nat} {d : ND} {cz : Int} {co : Bool} (h : TBox W b d cz co) : W.cell? ⟨b, 5, none⟩ = some (.int .i64 cz) ∧ W.cell? ⟨b, 6, none⟩ = some (.bool co) ∧ W.frozen? ⟨b, 5, none⟩ = false ∧ W.frozen? ⟨b, 6, none⟩ = false :=
  ⟨cell_of_cells h 5, cell_of_cells h 6, free_of_cells h 5, free_of_cells h 6⟩
theorem TBox.set {W : World} {b : Nat} {d : ND} {cz : Int} {co : Bool} (h : TBox W b d cz co) (c : Int) : TBox ((W.setCell ⟨b, 5, none⟩ (.int .i64 c)).setCell ⟨b, 6, none⟩ (.bool true)) b d c true := by
  unfold TBox at *
  simp [World.setCell, Array.getElem?_modify, h]
theorem VBox.gr {W w : World} {b Bm : Nat} {L u : U5} (h : VBox W b L u Bm) (hg : Gr W w) : VBox w b L u Bm := (hg.block b (lt_of_block h)).trans h
theorem VBox.set {W : World} {b Bm : Nat} {L u : U5} (h : VBox W b L u Bm) (d n c a x : Int) : VBox (((((W.setCell ⟨b, 5, none⟩ (.int .i64 d)).setCell ⟨b, 6, none⟩ (.int .i64 n)).setCell ⟨b, 7, none⟩ (.int .i64 c)).setCell ⟨b, 8, none⟩ (.int .i64 a)).setCell ⟨b, 9, none⟩ (.int .i64 x)) b L ⟨d, n, c, a, x⟩ Bm := by
  unfold VBox at *
  simp [World.setCell, Array.getElem?_modify, h]
theorem VSt.gr {nb Bv Bm : Nat} {L : U5} {cnt : Nat} {f : List UInt8 → Option Nat} {st : AS} {W w : World} (h : VSt nb Bv Bm L cnt f st W) (hg : Gr W w) : VSt nb Bv Bm L cnt f st w :=
  ⟨h.vis.gr hg, h.hv, h.hm, h.mp.gr hg, h.no, fun s b hs => by
    obtain ⟨kt, co, h1, h2, d, m, cz, h3, h4, h5⟩ := h.yes s b hs
    exact ⟨kt, co, h1, h2, d, m, cz, h3.gr hg, h4.gr hg, h5⟩, h.one⟩
theorem VSt.mono {nb Bv Bm : Nat} {L : U5} {cnt cnt' : Nat} {f : List UInt8 → Option Nat} {st : AS} {W : World} (h : VSt nb Bv Bm L cnt f st W) (hc : cnt ≤ cnt') : VSt nb Bv Bm L cnt' f st W := { h with mp := h.mp.mono hc }
def updF (f : List UInt8 → Option Nat) (nm : List UInt8) (b : Nat) : List UInt8 → Option Nat := fun s => if s = nm then some b else f s
/-- A new anchor: its target has been made, and the map written. -/
theorem VSt.add {nb Bv Bm : Nat} {L : U5} {cnt : Nat} {f : List UInt8 → Option Nat} {st : AS} {W W3 : World} {nm : List UInt8} {b : Nat} {d : ND} {kt : NT} {m : Nat} (h : VSt nb Bv Bm L cnt f st W) (hnb : nb ≤ b) (hfb : ∀ s, f s ≠ some b)
    (htb : TBox W b d 0 false) (hr : NRep (fun k => k < nb) m W d kt) (hmp : MapF W3 Bm (cnt + 1) (fun k => if k = nm then ptr (some b) else ptr (f k)) (.pointer none)) (hg : W.grownBy W3 (some Bm)) :
    VSt nb Bv Bm L (cnt + 1) (updF f nm b) (st.add nm kt none) W3 := by
  have hmb : ∃ es cl, W.heap[Bm]? = some (.map es cl) := by
    obtain ⟨D, zd, _, ⟨es, cl, h1, _⟩, _⟩ := h.mp
    exact ⟨es, cl, h1⟩
  obtain ⟨es, cl, hmb⟩ := hmb
  have hcells : ∀ (k : Nat) (cs : Array Value) (T : TypeId) (fr : Nat × Nat), W.heap[k]? = some (.cells cs T fr) → W3.heap[k]? = some (.cells cs T fr) := fun k cs T fr hk => by
    refine (hg.block k (lt_of_block hk) (fun he => ?_)).trans hk
    cases he
    rw [hmb] at hk
    cases hk
  have hlow : Below nb W W3 := by
    by_cases hs : nb ≤ W.heap.size
    · exact (Below.refl nb W).grown hg hs (fun k hk => by cases hk; exact h.hm)
    · exact absurd (Nat.le_trans h.hm (Nat.le_of_lt h.mp.lt)) (by omega)
  refine ⟨hcells _ _ _ _ h.vis, h.hv, h.hm, ?_, fun s hs => ?_, fun s b' hs => ?_, fun s s' b' hs hs' => ?_⟩
  · have e : (fun s => ptr (updF f nm b s)) = fun k => if k = nm then ptr (some b) else ptr (f k) := by
      funext s
      unfold updF
      split <;> rfl
    rw [e]
    exact hmp
  · unfold updF at hs
    split at hs
    · cases hs
    · rename_i hne
      show (if s = nm then _ else _) = _
      rw [if_neg hne]
      exact h.no s hs
  · unfold updF at hs
    split at hs
    · rename_i hne
      cases hs
      refine ⟨kt, none, ?_, hnb, d, m, 0, hcells _ _ _ _ htb, hr.below hlow, fun c hc => by cases hc⟩
      show (if s = nm then _ else _) = _
      rw [if_pos hne]
    · rename_i hne
      obtain ⟨kt', co, h1, h2, d', m', cz, h3, h4, h5⟩ := h.yes s b' hs
      refine ⟨kt', co, ?_, h2, d', m', cz, hcells _ _ _ _ h3, h4.below hlow, h5⟩
      show (if s = nm then _ else _) = _
      rw [if_neg hne]
      exact h1
  · unfold updF at hs hs'
    split at hs
    · split at hs'
      · rename_i h1 h2
        rw [h1, h2]
      · cases hs
        exact absurd hs' (hfb s')
    · split at hs'
      · cases hs'
        exact absurd hs (hfb s)
      · exact h.one s s' b' hs hs'
/-- The target of an anchor is complete. -/
theorem VSt.fin {nb Bv Bm : Nat} {L : U5} {cnt : Nat} {f : List UInt8 → Option Nat} {st : AS} {W : World} {nm : List UInt8} {b : Nat} (h : VSt nb Bv Bm L cnt f st W) (hf : f nm = some b) (c : Int) :
    VSt nb Bv Bm L cnt f (st.done nm c) ((W.setCell ⟨b, 5, none⟩ (.int .i64 c)).setCell ⟨b, 6, none⟩ (.bool true)) := by
  obtain ⟨kt, co, h1, h2, d, m, cz, h3, h4, h5⟩ := h.yes nm b hf
  have hoth : ∀ k, k ≠ b → ((W.setCell ⟨b, 5, none⟩ (.int .i64 c)).setCell ⟨b, 6, none⟩ (.bool true)).heap[k]? = W.heap[k]? := fun k hk => (heap_set_other hk).trans (heap_set_other hk)
  have hlow : Below nb W ((W.setCell ⟨b, 5, none⟩ (.int .i64 c)).setCell ⟨b, 6, none⟩ (.bool true)) := ((Below.refl nb W).setCell (p := ⟨b, 5, none⟩) h2 _).setCell (p := ⟨b, 6, none⟩) h2 _
  refine ⟨(hoth Bv (fun he => ?_)).trans h.vis, h.hv, h.hm, h.mp.same (hoth Bm (fun he => ?_)), fun s hs => ?_, fun s b' hs => ?_, h.one⟩
  · have hx := h.vis
    rw [he] at hx
    unfold VBox at hx
    unfold TBox at h3
    rw [h3] at hx
    simp only [Option.some.injEq, Obj.cells.injEq] at hx
    exact absurd hx.2.1 (by decide)
  · obtain ⟨D, zd, _, ⟨es, cl, hx, _⟩, _⟩ := h.mp
    rw [he] at hx
    unfold TBox at h3
    rw [h3] at hx
    cases hx
  · show (if s = nm then _ else _) = _
    rw [h.no s hs]
    split <;> rfl
  · by_cases hsn : s = nm
    · subst hsn
      rw [hf] at hs
      cases hs
      refine ⟨kt, some c, ?_, h2, d, m, c, h3.set c, h4.below hlow, fun c' hc => by cases hc; rfl⟩
      show (if s = s then _ else _) = _
      rw [if_pos rfl, h1]
      rfl
    · obtain ⟨kt', co', g1, g2, d', m', cz', g3, g4, g5⟩ := h.yes s b' hs
      have hbb : b' ≠ b := fun he => hsn (h.one s nm b (he ▸ hs) hf)
      refine ⟨kt', co', ?_, g2, d', m', cz', (hoth b' hbb).trans g3, g4.below hlow, g5⟩
      show (if s = nm then _ else _) = _
      rw [if_neg hsn]
      exact g1
/-- The usage is written. -/
theorem VSt.use {nb Bv Bm : Nat} {L : U5} {cnt : Nat} {f : List UInt8 → Option Nat} {st : AS} {W : World} (h : VSt nb Bv Bm L cnt f st W) (d n c a x : Int) :
    VSt nb Bv Bm L cnt f { st with u := ⟨d, n, c, a, x⟩ } (((((W.setCell ⟨Bv, 5, none⟩ (.int .i64 d)).setCell ⟨Bv, 6, none⟩ (.int .i64 n)).setCell ⟨Bv, 7, none⟩ (.int .i64 c)).setCell ⟨Bv, 8, none⟩ (.int .i64 a)).setCell ⟨Bv, 9, none⟩ (.int .i64 x)) := by
  have hoth : ∀ k, k ≠ Bv → (((((W.setCell ⟨Bv, 5, none⟩ (.int .i64 d)).setCell ⟨Bv, 6, none⟩ (.int .i64 n)).setCell ⟨Bv, 7, none⟩ (.int .i64 c)).setCell ⟨Bv, 8, none⟩ (.int .i64 a)).setCell ⟨Bv, 9, none⟩ (.int .i64 x)).heap[k]? = W.heap[k]? := fun k hk => by
    rw [heap_set_other hk, heap_set_other hk, heap_set_other hk, heap_set_other hk, heap_set_other hk]
  have hlow : Below nb W (((((W.setCell ⟨Bv, 5, none⟩ (.int .i64 d)).setCell ⟨Bv, 6, none⟩ (.int .i64 n)).setCell ⟨Bv, 7, none⟩ (.int .i64 c)).setCell ⟨Bv, 8, none⟩ (.int .i64 a)).setCell ⟨Bv, 9, none⟩ (.int .i64 x)) :=
    (((((Below.refl nb W).setCell (p := ⟨Bv, 5, none⟩) h.hv _).setCell (p := ⟨Bv, 6, none⟩) h.hv _).setCell (p := ⟨Bv, 7, none⟩) h.hv _).setCell (p := ⟨Bv, 8, none⟩) h.hv _).setCell (p := ⟨Bv, 9, none⟩) h.hv _
  refine ⟨h.vis.set d n c a x, h.hv, h.hm, h.mp.same (hoth Bm (fun he => ?_)), h.no, fun s b' hs => ?_, h.one⟩
  · obtain ⟨D, zd, _, ⟨es, cl, hx, _⟩, _⟩ := h.mp
    have hv := h.vis
    unfold VBox at hv
    rw [he, hv] at hx
    cases hx
  · obtain ⟨kt', co', g1, g2, d', m', cz', g3, g4, g5⟩ := h.yes s b' hs
    refine ⟨kt', co', g1, g2, d', m', cz', (hoth b' (fun he => ?_)).trans g3, g4.below hlow, g5⟩
    have hv := h.vis
    unfold VBox at hv
    unfold TBox at g3
    rw [he, hv] at g3
    simp only [Option.some.injEq, Obj.cells.injEq] at g3
    exact absurd g3.2.1 (by decide)
def Ext (f g : List UInt8 → Option Nat) : Prop := ∀ s b, f s = some b → g s = some b
theorem Ext.refl (f : List UInt8 → Option Nat) : Ext f f := fun _ _ h => h
theorem Ext.trans {f g h : List UInt8 → Option Nat} (a : Ext f g) (b : Ext g h) : Ext f h := fun s x hx => b s x (a s x hx)
theorem Ext.upd {f : List UInt8 → Option Nat} {nm : List UInt8} (h : f nm = none) (b : Nat) : Ext f (updF f nm b) := fun s x hx => by
  unfold updF
  split
  · rename_i he; rw [he, h] at hx; cases hx
  · exact hx
/-- What a visit leaves. -/
def VPost (nb Bv Bm : Nat) (L : U5) (cnt : Nat) (f : List UInt8 → Option Nat) (q : Int × Int × AS) (w : World) (e : Ending) (w' : World) : Prop :=
  e = .returned (.tuple #[.int .i64 q.1, .int .i64 q.2.1]) ∧ KV nb w w' ∧ ∃ g, Ext f g ∧ VSt nb Bv Bm L cnt g q.2.2 w'
end Go.Proofs.Ytbfnmgiccbdglaa
