/- The nodes of a tree in preorder, each with its indices; rows of numbers; what a round over them keeps. -/
import Derived.Test.YtklncffhkdbkhaaTold
import Derived.Test.YtklncffhkdbkhaaApp2
namespace Go.Proofs.Ytklncffhkdbkhaa
open Go.ChangeShapes Go.WideShapes Go.ChangeAt Go.RowKit

mutual
/-- The nodes in preorder, each with its indices ahead of which stand those given. -/
def walkN : NT → List Int → List (List Int × NT)
  | .mk k l x ks e, at' => (at', .mk k l x ks e) :: walkL ks at' 0
def walkL : List NT → List Int → Nat → List (List Int × NT)
  | [], _, _ => []
  | y :: r, at', i => walkN y (at' ++ [(i : Int)]) ++ walkL r at' (i + 1)
end
theorem walkN_eq (t : NT) (a : List Int) : walkN t a = (a, t) :: walkL t.ks a 0 := by
  obtain ⟨k, l, x, ks, e⟩ := t
  rw [walkN]; rfl
theorem walkL_app : ∀ (p q : List NT) (a : List Int) (i : Nat), walkL (p ++ q) a i = walkL p a i ++ walkL q a (i + p.length)
  | [], q, a, i => by simp [walkL]
  | y :: p, q, a, i => by
    rw [List.cons_append, walkL, walkL, walkL_app p q a (i + 1), List.append_assoc, List.length_cons, show i + 1 + p.length = i + (p.length + 1) by omega]
theorem walkL_take (ks : List NT) (a : List Int) {j : Nat} {y : NT} (h : ks[j]? = some y) : walkL (ks.take (j + 1)) a 0 = walkL (ks.take j) a 0 ++ walkN y (a ++ [(j : Int)]) := by
  have hj := (List.getElem?_eq_some_iff.1 h).1
  rw [take_succ_at h, walkL_app, Nat.zero_add, List.length_take, Nat.min_eq_left (Nat.le_of_lt hj)]
  congr 1
  rw [walkL, walkL, List.append_nil]
mutual
theorem walkN_len : ∀ (t : NT) (a : List Int), (walkN t a).length = countF t
  | .mk k l x ks e, a => by rw [walkN, countF, List.length_cons, walkL_len ks a 0]; omega
theorem walkL_len : ∀ (l : List NT) (a : List Int) (i : Nat), (walkL l a i).length = countL l
  | [], a, i => by rw [walkL, countL]; rfl
  | y :: r, a, i => by rw [walkL, countL, List.length_append, walkN_len y, walkL_len r]
end
mutual
/-- The indices of the nodes in preorder. -/
def refF : NT → List (List Int)
  | .mk _ _ _ ks _ => [] :: refL ks 0
def refL : List NT → Nat → List (List Int)
  | [], _ => []
  | y :: r, i => (refF y).map ((i : Int) :: ·) ++ refL r (i + 1)
end
theorem refF_eq (t : NT) : refF t = [] :: refL t.ks 0 := by
  obtain ⟨k, l, x, ks, e⟩ := t
  rw [refF]; rfl
mutual
theorem walkN_ref : ∀ (t : NT) (a : List Int), (walkN t a).map (·.1) = (refF t).map (a ++ ·)
  | .mk k l x ks e, a => by rw [walkN, refF, List.map_cons, List.map_cons, walkL_ref ks a 0, List.append_nil]
theorem walkL_ref : ∀ (l : List NT) (a : List Int) (i : Nat), (walkL l a i).map (·.1) = (refL l i).map (a ++ ·)
  | [], a, i => by rw [walkL, refL]; rfl
  | y :: r, a, i => by
    rw [walkL, refL, List.map_append, List.map_append, walkN_ref y, walkL_ref r, List.map_map]
    congr 1
    refine List.map_congr_left (fun q _ => ?_)
    simp
end
theorem walkN_refs (t : NT) : (walkN t []).map (·.1) = refF t := by
  rw [walkN_ref]
  simp
theorem refF_len (t : NT) : (refF t).length = countF t := by
  rw [← walkN_refs, List.length_map, walkN_len]
mutual
theorem walkN_get : ∀ (t : NT) (a : List Int) (z : List Int) (s : NT), (z, s) ∈ walkN t a → ∃ r, z = a ++ r ∧ getF t r = some s
  | .mk k l x ks e, a, z, s, h => by
    rw [walkN, List.mem_cons] at h
    rcases h with h | h
    · cases h
      exact ⟨[], by simp, rfl⟩
    · obtain ⟨j, y, r, hj, hz, hg⟩ := walkL_get ks a 0 z s h
      refine ⟨((0 + j : Nat) : Int) :: r, hz, ?_⟩
      rw [Nat.zero_add, getF_go (y := y) (by exact hj)]
      exact hg
theorem walkL_get : ∀ (l : List NT) (a : List Int) (i : Nat) (z : List Int) (s : NT), (z, s) ∈ walkL l a i → ∃ (j : Nat) (y : NT) (r : List Int), l[j]? = some y ∧ z = a ++ (((i + j : Nat) : Int) :: r) ∧ getF y r = some s
  | [], a, i, z, s, h => by rw [walkL] at h; cases h
  | y :: rr, a, i, z, s, h => by
    rw [walkL, List.mem_append] at h
    rcases h with h | h
    · obtain ⟨r, hz, hg⟩ := walkN_get y _ z s h
      exact ⟨0, y, r, rfl, by rw [hz]; simp, hg⟩
    · obtain ⟨j, y', r, hj, hz, hg⟩ := walkL_get rr a (i + 1) z s h
      exact ⟨j + 1, y', r, by simpa using hj, by rw [hz, show i + 1 + j = i + (j + 1) by omega], hg⟩
end
theorem walk_got {t s : NT} {z : List Int} {i : Nat} (h : (walkN t [])[i]? = some (z, s)) : getF t z = some s := by
  obtain ⟨r, hz, hg⟩ := walkN_get t [] z s (List.mem_of_getElem? h)
  rw [hz]
  exact hg
/- ## Rows of numbers -/
/-- The slice A of length n and capacity c: these numbers, in a block of numbers. -/
def RowI (W : World) (A : Option Addr) (n c : Nat) (zs : List Int) : Prop :=
  zs.length = n ∧ n ≤ c ∧ c ≤ maxLen ∧ (∀ z ∈ zs, (Lit.int .i64 z).wf = true) ∧ (0 < n → ∃ g cs fr, A = some ⟨g, 0, none⟩ ∧ W.heap[g]? = some (.cells cs 3 fr) ∧ ∀ i, i < n → cs[i]? = some (.int .i64 (zs.getD i 0)))
theorem RowI.ints {W : World} {A : Option Addr} {n c : Nat} {zs : List Int} (h : RowI W A n c zs) : IntsAt .i64 W A n zs := by
  obtain ⟨h1, _, _, h2, h3⟩ := h
  refine ⟨h1, h2, fun hn => ?_⟩
  obtain ⟨g, cs, fr, ha, hb, hc⟩ := h3 hn
  refine ⟨g, 0, ha, lt_of_block hb, fun i hi => ?_⟩
  rw [Nat.zero_add]
  simp only [World.cell?, hb]
  exact hc i hi
theorem RowI.nil (W : World) : RowI W none 0 0 [] := ⟨rfl, Nat.le_refl _, Nat.zero_le _, fun _ h => (by cases h), fun h => absurd h (by omega)⟩
theorem RowI.keep {W W' : World} {A : Option Addr} {n c : Nat} {zs : List Int} (h : RowI W A n c zs) (hk : ∀ (g : Nat) (cs : Array Value) (fr : Nat × Nat), W.heap[g]? = some (Obj.cells cs 3 fr) → W'.heap[g]? = some (Obj.cells cs 3 fr)) : RowI W' A n c zs := by
  obtain ⟨h0, h1, h2, h3, h4⟩ := h
  refine ⟨h0, h1, h2, h3, fun hn => ?_⟩
  obtain ⟨g, cs, fr, ha, hb, hc⟩ := h4 hn
  exact ⟨g, cs, fr, ha, hk _ _ _ hb, hc⟩
theorem RowI.gr {W W' : World} {A : Option Addr} {n c : Nat} {zs : List Int} (h : RowI W A n c zs) (hg : Gr W W') : RowI W' A n c zs := h.keep (fun g _ _ hb => (hg.block g (lt_of_block hb)).trans hb)
theorem RowI.of_own {W : World} {B : Nat} {v : Value} {n : Nat} {zs : List Int} (h : W.ownsRow B 3 1 v n (zs.map (Value.int .i64))) (hz : ∀ z ∈ zs, (Lit.int .i64 z).wf = true) : ∃ A c, v = .slice A n c ∧ RowI W A n c zs := by
  have hl : zs.length = n := by
    have := h.1
    rw [List.length_map] at this
    omega
  rcases h.2 with ⟨rfl, rfl⟩ | ⟨g, cap, cur, rfl, _, hb, hnc, hcm, hcs, hxs⟩
  · exact ⟨none, 0, rfl, by rw [List.eq_nil_of_length_eq_zero hl]; exact RowI.nil W⟩
  · refine ⟨_, _, rfl, hl, hnc, hcm, hz, fun hn => ⟨g, cur, _, rfl, hb, fun i hi => ?_⟩⟩
    have h1 : (zs.map (Value.int .i64))[i]? = some (.int .i64 (zs.getD i 0)) := by
      rw [List.getElem?_map, List.getElem?_eq_getElem (by omega), Option.map_some]
      simp [List.getD, List.getElem?_eq_getElem (show i < zs.length by omega)]
    have h2 : (cur.toList.take (n * 1))[i]? = some (.int .i64 (zs.getD i 0)) := by rw [hxs]; exact h1
    rw [List.getElem?_take] at h2
    split at h2
    · simpa using h2
    · cases h2
/-- Blocks of cells lie as they lay: those below B, and those that hold no rows of numbers. -/
def KeepT (B : Nat) (W W' : World) : Prop := W.heap.size ≤ W'.heap.size ∧ ∀ (k : Nat) (cs : Array Value) (T : TypeId) (fr : Nat × Nat), k < B ∨ (T ≠ 32 ∧ T ≠ 30) → W.heap[k]? = some (.cells cs T fr) → W'.heap[k]? = some (.cells cs T fr)
theorem KeepT.refl (B : Nat) (W : World) : KeepT B W W := ⟨Nat.le_refl _, fun _ _ _ _ _ h => h⟩
theorem KeepT.trans {B : Nat} {X Y Z : World} (h : KeepT B X Y) (k : KeepT B Y Z) : KeepT B X Z := ⟨Nat.le_trans h.1 k.1, fun b cs T fr hb hc => k.2 b cs T fr hb (h.2 b cs T fr hb hc)⟩
theorem KeepT.gr {B : Nat} {X Y : World} (h : Gr X Y) : KeepT B X Y := ⟨Below.size h, fun k _ _ _ _ hc => (h.block k (lt_of_block hc)).trans hc⟩
theorem KeepT.put {B : Nat} (W : World) (l : Nat) (o o' : Obj) (h : W.heap[l]? = some o) (hc : o.isCells = false) : KeepT B W (W.putObj l o') := by
  have hg := grownBy_putObj' W l o'
  refine ⟨hg.size, fun k cs T fr _ hk => ?_⟩
  by_cases hkl : k = l
  · subst hkl
    rw [h] at hk
    simp only [Option.some.injEq] at hk
    subst hk
    cases hc
  · exact (hg.block k (lt_of_block hk) (by simpa using fun e => hkl e)).trans hk
theorem KeepT.box {B : Nat} {X Y : World} (h : KeepT B X Y) {b : Nat} {d : ND} (hc : NBox X b d) : NBox Y b d := h.2 b _ 24 _ (.inr ⟨by decide, by decide⟩) hc
theorem KeepT.row {B : Nat} {X Y : World} (h : KeepT B X Y) {A : Option Addr} {n c : Nat} {zs : List Int} (hr : RowI X A n c zs) : RowI Y A n c zs := hr.keep (fun _ _ _ hb => h.2 _ _ 3 _ (.inr ⟨by decide, by decide⟩) hb)
theorem KeepT.cell {B : Nat} {X Y : World} (h : KeepT B X Y) {b o : Nat} {v : Value} (hb : b < B) (hc : X.cell? ⟨b, o, none⟩ = some v) : Y.cell? ⟨b, o, none⟩ = some v := by
  unfold World.cell? at hc ⊢
  split at hc
  · rename_i cs T fr hh
    rw [h.2 b cs T fr (.inl hb) hh]
    exact hc
  · cases hc
theorem NRep.keepT {B : Nat} {W w : World} (hk : KeepT B W w) : ∀ (m : Nat) (v : ND) (t : NT), NRep (fun b => b < B) m W v t → NRep (fun b => b < B) m w v t
  | 0, _, _, h => h
  | m + 1, v, .mk k l x ks e, h => by
    obtain ⟨h1, h2, h3, h4, h5, h6, h7, h8, h9, h10, h11, h12, h13⟩ := h
    refine ⟨h1, h2, h3, h4, h5, h6, h7, h8, h9, h10, h11, h12, fun i y hy => ?_⟩
    obtain ⟨b, o, d, ha, hp, hb, hc, hr⟩ := h13 i y hy
    obtain ⟨c0, c1, c2, c3, c4⟩ := hc
    exact ⟨b, o, d, ha, hp, Nat.lt_of_lt_of_le hb hk.1, ⟨hk.cell hp c0, hk.cell hp c1, hk.cell hp c2, hk.cell hp c3, hk.cell hp c4⟩, NRep.keepT hk m d y hr⟩
theorem Gr.grown {X Y : World} (h : Gr X Y) : X.grownBy Y none := ⟨h.os, h.tape, h.output, h.size, fun k hk _ => h.block k hk⟩
theorem AbidesFrom.gr {α : Type} {B : Nat} {J : List α → World → Prop} (hJ : AbidesFrom B J) {pre : List α} {X Y : World} (h : J pre X) (hg : Gr X Y) : J pre Y := hJ pre X Y none h hg.grown (fun r e => by cases e)
end Go.Proofs.Ytklncffhkdbkhaa
