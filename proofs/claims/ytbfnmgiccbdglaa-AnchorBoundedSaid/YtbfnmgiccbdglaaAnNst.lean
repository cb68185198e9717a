/- The state of Names of anchor in memory. -/
import Derived.Test.YtbfnmgiccbdglaaAnChk2
import Derived.Test.YtbfnmgiccbdglaaAnDet
import Derived.Test.YtbfnmgiccbdglaaApp
import Derived.RangeFuncBox
namespace Go.Proofs.Ytbfnmgiccbdglaa
open Go.ChangeShapes Go.WideShapes Go.ChangeAt Go.RowKit

mutual
/-- The texts of the anchors behind those given; none where one stands twice. -/
def visN : NT → List (List UInt8) → Option (List (List UInt8))
  | .mk k _ x ks _, acc => if k = 9 then (if x ∈ acc then none else visNL ks (acc ++ [x])) else visNL ks acc
def visNL : List NT → List (List UInt8) → Option (List (List UInt8))
  | [], acc => some acc
  | y :: r, acc => (visN y acc).bind (visNL r)
end
theorem visN_eq (t : NT) (acc : List (List UInt8)) : visN t acc = if t.k = 9 then (if t.x ∈ acc then none else visNL t.ks (acc ++ [t.x])) else visNL t.ks acc := by
  obtain ⟨k, l, x, ks, e⟩ := t; rw [visN]; rfl
theorem visNL_drop (l : List NT) {j : Nat} {y : NT} (h : l[j]? = some y) (acc : List (List UInt8)) : visNL (l.drop j) acc = (visN y acc).bind (visNL (l.drop (j + 1))) := by
  rw [drop_at h, visNL]
mutual
theorem visN_law : ∀ (t : NT) (acc : List (List UInt8)), acc.Nodup → visN t acc = if (acc ++ textsF t).Nodup then some (acc ++ textsF t) else none
  | .mk k l x ks e, acc, h => by
    rw [visN, textsF]
    by_cases hk : k = 9
    · rw [if_pos hk, if_pos hk]
      by_cases hx : x ∈ acc
      · rw [if_pos hx, if_neg]
        intro hn
        rw [List.nodup_append] at hn
        exact hn.2.2 x hx x (by simp) rfl
      · rw [if_neg hx, visNL_law ks (acc ++ [x]) (by
          rw [List.nodup_append]
          exact ⟨h, by simp, fun a ha b hb => by simp at hb; rw [hb]; exact fun he => hx (he ▸ ha)⟩), List.append_assoc]
    · rw [if_neg hk, if_neg hk, visNL_law ks acc h, List.nil_append]
theorem visNL_law : ∀ (l : List NT) (acc : List (List UInt8)), acc.Nodup → visNL l acc = if (acc ++ textsL l).Nodup then some (acc ++ textsL l) else none
  | [], acc, h => by rw [visNL, textsL, List.append_nil, if_pos h]
  | y :: r, acc, h => by
    rw [visNL, textsL, visN_law y acc h, ← List.append_assoc]
    by_cases hy : (acc ++ textsF y).Nodup
    · rw [if_pos hy, Option.bind_some, visNL_law r _ hy]
    · rw [if_neg hy, Option.bind_none, if_neg]
      intro hn
      rw [List.nodup_append] at hn
      exact hy hn.1
end
mutual
theorem visN_len : ∀ (t : NT) (acc acc' : List (List UInt8)), visN t acc = some acc' → acc'.length ≤ acc.length + countF t
  | .mk k l x ks e, acc, acc', h => by
    rw [visN] at h
    rw [countF]
    split at h
    · split at h
      · cases h
      · have := visNL_len ks _ _ h
        simp at this
        omega
    · have := visNL_len ks _ _ h
      omega
theorem visNL_len : ∀ (l : List NT) (acc acc' : List (List UInt8)), visNL l acc = some acc' → acc'.length ≤ acc.length + countL l
  | [], acc, acc', h => by rw [visNL] at h; cases h; simp
  | y :: r, acc, acc', h => by
    rw [visNL] at h
    rw [countL]
    cases hy : visN y acc with
    | none => rw [hy] at h; cases h
    | some a =>
      rw [hy, Option.bind_some] at h
      have h1 := visN_len y acc a hy
      have h2 := visNL_len r a acc' h
      omega
end
def KN (nb : Nat) (w w' : World) : Prop := nb ≤ w.heap.size ∧ Below nb w w' ∧ ∀ (k : Nat) (cs : Array Value) (T : TypeId) (fr : Nat × Nat), T ≠ 9 → T ≠ 27 → w.heap[k]? = some (.cells cs T fr) → w'.heap[k]? = some (.cells cs T fr)
theorem KN.gr {nb : Nat} {w w' : World} (hn : nb ≤ w.heap.size) (h : Gr w w') : KN nb w w' := ⟨hn, Below.mono h hn, fun k _ _ _ _ _ hk => (h.block k (lt_of_block hk)).trans hk⟩
theorem KN.trans {nb : Nat} {a b c : World} (h : KN nb a b) (k : KN nb b c) : KN nb a c := ⟨h.1, h.2.1.trans k.2.1, fun i cs T fr h1 h2 hi => k.2.2 i cs T fr h1 h2 (h.2.2 i cs T fr h1 h2 hi)⟩
theorem KN.lt {nb : Nat} {w w' : World} (h : KN nb w w') {k : Nat} (hk : k < w.heap.size) : k < w'.heap.size := Nat.lt_of_lt_of_le hk h.2.1.size
theorem KN.box {nb : Nat} {w w' : World} (h : KN nb w w') {b : Nat} {d : ND} (hb : NBox w b d) : NBox w' b d := h.2.2 b _ 24 _ (by decide) (by decide) hb
theorem KN.map {nb : Nat} {a w w' : World} (h : KN nb a w) {b : Nat} {es : Array MapEntry} {cl : Nat} (hb : w.heap[b]? = some (.map es cl)) (hn : nb ≤ b) (hg : w.grownBy w' (some b)) : KN nb a w' := by
  refine h.trans ⟨Nat.le_trans h.1 h.2.1.size, (Below.refl nb w).grown hg (Nat.le_trans h.1 h.2.1.size) (fun k hk => by cases hk; exact hn), fun k cs T fr _ _ hk => ?_⟩
  refine (hg.block k (lt_of_block hk) (fun he => ?_)).trans hk
  cases he
  rw [hb] at hk
  cases hk
theorem heapNew {w : World} {o : Obj} {k : Nat} (h : k < w.heap.size) : (w.alloc o).heap[k]? = w.heap[k]? := by
  have := ((Gr.refl w).alloc o).block k h
  exact this
theorem KN.app {nb : Nat} {a W w1 : World} {Bo k : Nat} {ov v' : Value} {xs : List Value} {tmp : Obj} (h : KN nb a W) (hv : Boxed W Bo 27 ov) (hB : nb ≤ Bo) (hrow : W.ownsRow nb 9 1 ov k xs) (hgrow : (W.alloc tmp).grownBy w1 ov.ownBlock) : KN nb a (w1.setCell ⟨Bo, 0, none⟩ v') := by
  have hlow : Below nb W w1 := ((Below.refl nb W).alloc (Nat.le_trans h.1 h.2.1.size) tmp).grown hgrow (by have := Nat.le_trans h.1 h.2.1.size; simp; omega) (fun k hk => (hrow.lt k hk).1)
  refine h.trans ⟨Nat.le_trans h.1 h.2.1.size, hlow.setCell hB v', fun i cs T fr h1 h2 hi => ?_⟩
  have hne : i ≠ Bo := fun he => by
    subst he
    rw [show W.heap[i]? = _ from hv] at hi
    simp only [Option.some.injEq, Obj.cells.injEq] at hi
    exact h2 hi.2.1.symm
  have hc1 : (W.alloc tmp).heap[i]? = some (.cells cs T fr) := (heapNew (lt_of_block hi)).trans hi
  exact (heap_set_other hne).trans ((hgrow.block i (lt_of_block hc1) (fun he => own_type hrow hi h1 he.symm)).trans hc1)
def strV (s : List UInt8) : Value := .string (bs (s.drop 1))
structure NSt (nb Bs Bo Bf Bm cnt : Nat) (am ao : List (List UInt8)) (W : World) : Prop where
  seen : Boxed W Bs 56 (.map (some Bm))
  fn : Boxed W Bf 25 (.func (.func 28) #[] #[.pointer (some ⟨Bs, 0, none⟩), .pointer (some ⟨Bo, 0, none⟩), .pointer (some ⟨Bf, 0, none⟩)])
  mp : MapF W Bm cnt (fun s => .bool (decide (s ∈ am))) (.bool false)
  out : ∃ ov, Boxed W Bo 27 ov ∧ W.ownsRow nb 9 1 ov ao.length (ao.map strV)
  hm : nb ≤ Bm
  ho : nb ≤ Bo
theorem NSt.same {nb Bs Bo Bf Bm cnt : Nat} {am ao : List (List UInt8)} {W W' : World} (h : NSt nb Bs Bo Bf Bm cnt am ao W) (hs : ∀ k, k < W.heap.size → W'.heap[k]? = W.heap[k]?) : NSt nb Bs Bo Bf Bm cnt am ao W' := by
  obtain ⟨ov, h1, h2⟩ := h.out
  exact ⟨(hs _ h.seen.lt).trans h.seen, (hs _ h.fn.lt).trans h.fn, h.mp.same (hs _ h.mp.lt), ⟨ov, (hs _ h1.lt).trans h1, own_same h2 (fun k hk => hs k (h2.lt k hk).2)⟩, h.hm, h.ho⟩
theorem NSt.gr {nb Bs Bo Bf Bm cnt : Nat} {am ao : List (List UInt8)} {W W' : World} (h : NSt nb Bs Bo Bf Bm cnt am ao W) (hg : Gr W W') : NSt nb Bs Bo Bf Bm cnt am ao W' := h.same (fun k hk => hg.block k hk)
theorem NSt.mono {nb Bs Bo Bf Bm cnt cnt' : Nat} {am ao : List (List UInt8)} {W : World} (h : NSt nb Bs Bo Bf Bm cnt am ao W) (hc : cnt ≤ cnt') : NSt nb Bs Bo Bf Bm cnt' am ao W := { h with mp := h.mp.mono hc }
/-- The map has got the text. -/
theorem NSt.put {nb Bs Bo Bf Bm cnt : Nat} {am ao : List (List UInt8)} {W W3 : World} {x : List UInt8} (h : NSt nb Bs Bo Bf Bm cnt am ao W) (hm : MapF W3 Bm (cnt + 1) (fun k => if k = x then .bool true else .bool (decide (k ∈ am))) (.bool false)) (hg : W.grownBy W3 (some Bm)) : NSt nb Bs Bo Bf Bm (cnt + 1) (am ++ [x]) ao W3 := by
  obtain ⟨D, zd, _, ⟨es, cl, hb, _⟩, _⟩ := h.mp
  have hcells : ∀ (k : Nat) (cs : Array Value) (T : TypeId) (fr : Nat × Nat), W.heap[k]? = some (.cells cs T fr) → W3.heap[k]? = some (.cells cs T fr) := fun k cs T fr hk => by
    refine (hg.block k (lt_of_block hk) (fun he => ?_)).trans hk
    cases he
    rw [hb] at hk
    cases hk
  obtain ⟨ov, h1, h2⟩ := h.out
  refine ⟨hcells _ _ _ _ h.seen, hcells _ _ _ _ h.fn, ?_, ⟨ov, hcells _ _ _ _ h1, own_same h2 (fun k hk => hg.block k (h2.lt k hk).2 (fun he => ?_))⟩, h.hm, h.ho⟩
  · have e : (fun s => Value.bool (decide (s ∈ am ++ [x]))) = fun k => if k = x then .bool true else .bool (decide (k ∈ am)) := by
      funext s
      by_cases hs : s = x
      · rw [if_pos hs, hs]
        congr 1
        exact decide_eq_true (by simp)
      · rw [if_neg hs]
        congr 1
        exact decide_eq_decide.2 (by simp [hs])
    rw [e]
    exact hm
  · cases he
    rcases h2.2 with ⟨hv, _⟩ | ⟨g, cap, cur, hv, _, hgb, _⟩
    · rw [hv] at hk; cases hk
    · rw [hv] at hk
      simp only [Value.ownBlock, Option.some.injEq] at hk
      rw [hk, hb] at hgb
      cases hgb
/-- The row has got the name. -/
theorem NSt.app {nb Bs Bo Bf Bm cnt : Nat} {am ao : List (List UInt8)} {W w1 : World} {x : List UInt8} {ov v' : Value} {tmp : Obj} (h : NSt nb Bs Bo Bf Bm cnt am ao W) (hnb : nb ≤ W.heap.size) (hv : Boxed W Bo 27 ov) (hrow : W.ownsRow nb 9 1 ov ao.length (ao.map strV))
    (hown : w1.ownsRow nb 9 1 v' (ao.length + 1) (ao.map strV ++ [strV x])) (hgrow : (W.alloc tmp).grownBy w1 ov.ownBlock) : NSt nb Bs Bo Bf Bm cnt am (ao ++ [x]) (w1.setCell ⟨Bo, 0, none⟩ v') := by
  obtain ⟨_, hv2, hr2, _, _⟩ := hv.appended (by decide) hrow hnb h.ho hown hgrow
  have hkn : KN nb W (w1.setCell ⟨Bo, 0, none⟩ v') := KN.app (KN.gr hnb (Gr.refl W)) hv h.ho hrow hgrow
  refine ⟨hkn.2.2 _ _ 56 _ (by decide) (by decide) h.seen, hkn.2.2 _ _ 25 _ (by decide) (by decide) h.fn, h.mp.same ?_, ⟨v', hv2, by rw [List.length_append, List.map_append]; exact hr2⟩, h.hm, h.ho⟩
  obtain ⟨D, zd, _, ⟨es, cl, hb, _⟩, _⟩ := h.mp
  have hne : Bm ≠ Bo := fun he => by
    rw [he, show W.heap[Bo]? = _ from hv] at hb
    cases hb
  refine (heap_set_other hne).trans ((hgrow.block Bm (by have := h.mp.lt; simp; omega) (fun he => ?_)).trans (heapNew h.mp.lt))
  rcases hrow.2 with ⟨hv3, _⟩ | ⟨g, cap, cur, hv3, _, hgb, _⟩
  · rw [hv3] at he; cases he
  · rw [hv3] at he
    simp only [Value.ownBlock, Option.some.injEq] at he
    rw [← he, hb] at hgb
    cases hgb
def NPost (nb Bs Bo Bf Bm cnt : Nat) (q : Option (List (List UInt8))) (w : World) (e : Ending) (w' : World) : Prop :=
  e = .returned (.bool q.isSome) ∧ KN nb w w' ∧ ∀ acc, q = some acc → NSt nb Bs Bo Bf Bm cnt acc acc w'
end Go.Proofs.Ytbfnmgiccbdglaa
