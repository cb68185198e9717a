/- Check of package tree and of its reference, walked. -/
import Derived.Test.YtbfnmgiccbdglaaAnRec2
import Derived.Lib.Strings
import Derived.OneCell
import Derived.OwnWalk
import Derived.Deep.AppendLies
namespace Go.Proofs.Ytbfnmgiccbdglaa
open Go.ChangeShapes Go.WideShapes Go.ChangeAt Go.RowKit

mutual
theorem lookF_cap : ∀ (t : NT) (d s : Int), s ≤ 524288 → (lookF t d s).1 ≤ 524288
  | .mk k l x ks e, d, s, h => by
    rw [lookF]
    split
    · exact h
    · split
      · exact h
      · split
        · exact h
        · split
          · exact h
          · exact lookL_cap ks (d + 1) (s + 1) (by omega)
theorem lookL_cap : ∀ (l : List NT) (d s : Int), s ≤ 524288 → (lookL l d s).1 ≤ 524288
  | [], d, s, h => by rw [lookL]; exact h
  | y :: r, d, s, h => by
    have h1 := lookF_cap y d s h
    rw [lookL]
    split
    · exact h1
    · exact lookL_cap r d _ h1
end
def R2I (p : Int × Int) (w : World) (e : Ending) (w' : World) : Prop := e = .returned (.tuple #[.int .i64 p.1, .int .i64 p.2]) ∧ Gr w w'
def LookRel (w : World) (ks : List NT) (d : Int) (Q : Int × Int) (n : Nat) (sv iv : Value) (wr : World) : Prop :=
  ∃ (j : Nat) (s : Int), j ≤ n ∧ iv = .int .i64 j ∧ sv = .int .i64 s ∧ 0 ≤ s ∧ s ≤ 524288 ∧ lookL (ks.drop j) d s = Q ∧ Gr w wr
theorem bs_list (l : List UInt8) : (bs l).toList = l := Lib.toList_data _
set_option maxRecDepth 100000 in
set_option maxHeartbeats 4000000 in
theorem lookP_any : ∀ (m : Nat) (v : ND) (t : NT) (dd s : Int) (w : World), NRep anyB m w v t → -1000 ≤ dd → dd ≤ 1000 → 0 ≤ s → s ≤ 524288 → Calls Try.prog 53 #[.agg #[.int .i64 v.k, .string (bs v.l), .string (bs v.x), .slice v.A v.n v.c, .string (bs v.e)], .int .i64 dd, .int .i64 s] w (R2I (lookF t dd s) w) := by
  intro m
  induction m with
  | zero => intro v t dd s w h; exact h.elim
  | succ m ih =>
    intro v t dd s w hr hd0 hd1 hs0 hs1
    obtain ⟨A, n, c, rfl, p1, p2, p3, p4, p5, p6, p7, p8, p9⟩ := hr.open5
    have hn63 : n ≤ maxLen := Nat.le_trans p2 p3
    unfold maxLen at hn63 p3 p5 p6 p7
    have HI := Lib.hid ih
    have HN := Lib.hid p1
    have HK0 : Hid (Kids anyB m w A t.ks) := Lib.hid p9
    clear ih hr p9 p8 p4
    dsimp only
    have hs3 : ((bs t.e).size : Int) = t.e.length := rfl
    have hre := lookF_eq t dd s
    clear p1
    by_cases c1 : 192 < dd
    · have hR : lookF t dd s = (s, 9) := by rw [hre, if_pos c1]
      rw [hR]
      clear hR hre
      go_enter Try.func53, Try.ntmps53
      go_wp2_with fail
      go_ret2
      exact ⟨rfl, (by with_reducible (repeat (first | exact Gr.refl _ | assumption | apply Gr.alloc | apply Gr.drew | apply Gr.drewN | refine Gr.setCell ?_ (by first | (simp; done) | (simp; omega)) _ | refine Gr.trans ?_ (by assumption))))⟩
    by_cases c2 : 524288 ≤ s
    · have hR : lookF t dd s = (s, 10) := by rw [hre, if_neg c1, if_pos c2]
      rw [hR]
      clear hR hre
      go_enter Try.func53, Try.ntmps53
      go_wp2_with fail
      go_ret2
      exact ⟨rfl, (by with_reducible (repeat (first | exact Gr.refl _ | assumption | apply Gr.alloc | apply Gr.drew | apply Gr.drewN | refine Gr.setCell ?_ (by first | (simp; done) | (simp; omega)) _ | refine Gr.trans ?_ (by assumption))))⟩
    by_cases c3 : t.k < 1
    · have hR : lookF t dd s = (s, 6) := by rw [hre, if_neg c1, if_neg c2, if_pos (by omega)]
      rw [hR]
      clear hR hre
      go_enter Try.func53, Try.ntmps53
      go_wp2_with fail
      go_ret2
      exact ⟨rfl, (by with_reducible (repeat (first | exact Gr.refl _ | assumption | apply Gr.alloc | apply Gr.drew | apply Gr.drewN | refine Gr.setCell ?_ (by first | (simp; done) | (simp; omega)) _ | refine Gr.trans ?_ (by assumption))))⟩
    by_cases c4 : 11 < t.k
    · have hR : lookF t dd s = (s, 6) := by rw [hre, if_neg c1, if_neg c2, if_pos (by omega)]
      rw [hR]
      clear hR hre
      go_enter Try.func53, Try.ntmps53
      go_wp2_with fail
      go_ret2
      exact ⟨rfl, (by with_reducible (repeat (first | exact Gr.refl _ | assumption | apply Gr.alloc | apply Gr.drew | apply Gr.drewN | refine Gr.setCell ?_ (by first | (simp; done) | (simp; omega)) _ | refine Gr.trans ?_ (by assumption))))⟩
    have HW := fun (hx : leafB t.k = true → t.ks = [] ∧ t.e = []) => hre.trans (by rw [if_neg c1, if_neg c2, if_neg (by omega), if_neg (fun h => h.2.elim (fun k => k (hx h.1).1) (fun k => k (hx h.1).2))])
    by_cases c5 : leafB t.k = true ∧ 0 < n
    · obtain ⟨c5, c6⟩ := c5
      have hR : lookF t dd s = (s, 1) := by rw [hre, if_neg c1, if_neg c2, if_neg (by omega), if_pos ⟨c5, Or.inl (fun h => by have h1 := HN.out; rw [h] at h1; simp at h1; omega)⟩]
      rw [hR]
      clear hR hre
      go_enter Try.func53, Try.ntmps53
      go_wp2_with fail
      refine (leafRP_any _ _).mono ?_
      rw [c5]
      rintro e w1 ⟨rfl, hb1⟩
      obtain ⟨hc1, hf1, hs1⟩ := Gr.cells hb1
      simp at hs1
      have q3 := fun o => hc1 w.heap.size o (by simp)
      clear hc1 hf1
      go_wp2_with fail
      go_ret2
      exact ⟨rfl, (by with_reducible (repeat (first | exact Gr.refl _ | assumption | apply Gr.alloc | apply Gr.drew | apply Gr.drewN | refine Gr.setCell ?_ (by first | (simp; done) | (simp; omega)) _ | refine Gr.trans ?_ (by assumption))))⟩
    by_cases c6 : leafB t.k = true ∧ t.e ≠ []
    · obtain ⟨c6, c7⟩ := c6
      have c8 : n = 0 := by have : ¬ 0 < n := fun h => c5 ⟨c6, h⟩; omega
      have hR : lookF t dd s = (s, 1) := by rw [hre, if_neg c1, if_neg c2, if_neg (by omega), if_pos ⟨c6, Or.inr c7⟩]
      rw [hR]
      clear hR hre
      have te1 : (bs t.e).toList.isEmpty = false := by rw [bs_list]; cases h : t.e with
        | nil => exact absurd h c7
        | cons _ _ => rfl
      go_enter Try.func53, Try.ntmps53
      go_wp2_with fail
      refine (leafRP_any _ _).mono ?_
      rw [c6]
      rintro e w1 ⟨rfl, hb1⟩
      obtain ⟨hc1, hf1, hs1⟩ := Gr.cells hb1
      simp at hs1
      have q3 := fun o => hc1 w.heap.size o (by simp)
      clear hc1 hf1
      go_wp2_with fail
      go_ret2
      exact ⟨rfl, (by with_reducible (repeat (first | exact Gr.refl _ | assumption | apply Gr.alloc | apply Gr.drew | apply Gr.drewN | refine Gr.setCell ?_ (by first | (simp; done) | (simp; omega)) _ | refine Gr.trans ?_ (by assumption))))⟩
    have hR := HW (fun h => ⟨List.eq_nil_of_length_eq_zero (by have h1 := HN.out; have : ¬ 0 < n := fun k => c5 ⟨h, k⟩; omega), Classical.byContradiction fun k => c6 ⟨h, k⟩⟩)
    rw [hR]
    generalize hQ : lookL t.ks (dd + 1) (s + 1) = Q
    have HQ := Lib.hid hQ
    have hlf : leafB t.k = true → n = 0 ∧ t.e = [] := fun h => ⟨by have : ¬ 0 < n := fun k => c5 ⟨h, k⟩; omega, Classical.byContradiction fun k => c6 ⟨h, k⟩⟩
    have HLF := Lib.hid hlf
    clear hR hre HW hQ hlf c5 c6
    cases hk : leafB t.k with
    | true =>
      obtain ⟨rfl, hte⟩ := HLF.out hk
      have te1 : (bs t.e).toList.isEmpty = true := by rw [bs_list, hte]; rfl
      have hks : t.ks = [] := List.eq_nil_of_length_eq_zero HN.out.symm
      have hq : Q = (s + 1, 0) := by rw [← HQ.out, hks, lookL]
      have HQZ := Lib.hid hq
      clear hq hks hte
      go_enter Try.func53, Try.ntmps53
      go_wp2_with fail
      refine (leafRP_any _ _).mono ?_
      rw [hk]
      rintro e w1 ⟨rfl, hb1⟩
      obtain ⟨hc1, hf1, hs1⟩ := Gr.cells hb1
      simp at hs1
      have q3 := fun o => hc1 w.heap.size o (by simp)
      clear hc1 hf1
      go_wp2_with fail
      go_loopw [2, 8] (fun sv iv wr => sv = .int .i64 (s + 1) ∧ iv = .int .i64 0 ∧ wr = w1) (fun _ _ _ => 0)
      case atStart => exact ⟨rfl, rfl, rfl⟩
      case round =>
        obtain ⟨rfl, rfl, rfl⟩ := hrel
        go_wp2_with fail
        go_ret2
        rw [HQZ.out]
        exact ⟨rfl, (by with_reducible (repeat (first | exact Gr.refl _ | assumption | apply Gr.alloc | apply Gr.drew | apply Gr.drewN | refine Gr.setCell ?_ (by first | (simp; done) | (simp; omega)) _ | refine Gr.trans ?_ (by assumption))))⟩
    | false =>
      go_enter Try.func53, Try.ntmps53
      go_wp2_with fail
      have hbx : (w.alloc (.cells #[.int .i64 t.k, .string (bs t.l), .string (bs t.x), .slice A n c, .string (bs t.e)] 24)).heap[w.heap.size]? = some (.cells #[.int .i64 t.k, .string (bs t.l), .string (bs t.x), .slice A n c, .string (bs t.e)] 24 (0, 0)) := heap_alloc_new _ _
      have k0 : (w.alloc (.cells #[.int .i64 t.k, .string (bs t.l), .string (bs t.x), .slice A n c, .string (bs t.e)] 24)).cell? ⟨w.heap.size, 0, none⟩ = some (.int .i64 t.k) := cell_of_cells hbx 0
      have k1 : (w.alloc (.cells #[.int .i64 t.k, .string (bs t.l), .string (bs t.x), .slice A n c, .string (bs t.e)] 24)).cell? ⟨w.heap.size, 1, none⟩ = some (.string (bs t.l)) := cell_of_cells hbx 1
      have k2 : (w.alloc (.cells #[.int .i64 t.k, .string (bs t.l), .string (bs t.x), .slice A n c, .string (bs t.e)] 24)).cell? ⟨w.heap.size, 2, none⟩ = some (.string (bs t.x)) := cell_of_cells hbx 2
      have k3 : (w.alloc (.cells #[.int .i64 t.k, .string (bs t.l), .string (bs t.x), .slice A n c, .string (bs t.e)] 24)).cell? ⟨w.heap.size, 3, none⟩ = some (.slice A n c) := cell_of_cells hbx 3
      have k4 : (w.alloc (.cells #[.int .i64 t.k, .string (bs t.l), .string (bs t.x), .slice A n c, .string (bs t.e)] 24)).cell? ⟨w.heap.size, 4, none⟩ = some (.string (bs t.e)) := cell_of_cells hbx 4
      have hG1 : Gr w (w.alloc (.cells #[.int .i64 t.k, .string (bs t.l), .string (bs t.x), .slice A n c, .string (bs t.e)] 24)) := (Gr.refl w).alloc _
      have HK : Hid (Kids anyB m (w.alloc (.cells #[.int .i64 t.k, .string (bs t.l), .string (bs t.x), .slice A n c, .string (bs t.e)] 24)) A t.ks) := Lib.hid (HK0.out.gr hG1)
      have hb0 : w.heap.size < (w.alloc (.cells #[.int .i64 t.k, .string (bs t.l), .string (bs t.x), .slice A n c, .string (bs t.e)] 24)).heap.size := by simp
      clear hbx HK0
      generalize w.alloc (.cells #[.int .i64 t.k, .string (bs t.l), .string (bs t.x), .slice A n c, .string (bs t.e)] 24) = W1 at *
      generalize w.heap.size = b0 at *
      refine (leafRP_any _ _).mono ?_
      rw [hk]
      rintro e w1 ⟨rfl, hb1⟩
      have g0 := hb1.cell k0
      have g3 := hb1.cell k3
      have g4 := hb1.cell k4
      have hlw1 : b0 < w1.heap.size := Gr.lt hb1 hb0
      go_wp2_with fail
      clear g0 g3 g4
      go_loopw [2, 8] (fun sv iv wr => LookRel W1 t.ks (dd + 1) Q n sv iv wr) (fun _ iv _ => n - (intOf iv).toNat)
      case atStart => exact ⟨0, s + 1, Nat.zero_le _, rfl, rfl, by omega, by omega, HQ.out, hb1⟩
      case round =>
        obtain ⟨j, z, hj, rfl, rfl, hz0, hz1, hlk, hG⟩ := hrel
        have HLK := Lib.hid hlk
        clear hlk
        by_cases hlt : j < n
        · obtain ⟨y, hy⟩ : ∃ y, t.ks[j]? = some y := ⟨t.ks[j]'(by have := HN.out; omega), List.getElem?_eq_getElem _⟩
          have HY := Lib.hid hy
          obtain ⟨bk, ok, d, hA, _, hbk, hce, hre⟩ := HK.out.gr hG j y hy
          subst hA
          clear hy
          have HE := Lib.hid hre
          obtain ⟨e0, e1, e2, e3, e4⟩ := hce
          have g0 := hG.cell k0
          have g1 := hG.cell k1
          have g2 := hG.cell k2
          have g3 := hG.cell k3
          have g4 := hG.cell k4
          have hlw : b0 < wr.heap.size := Gr.lt hG hb0
          have hlt1 : (j : Int) < (n : Int) := by omega
          clear hre
          have hcap := lookF_cap y (dd + 1) z hz1
          have hsee := (lookF_seen y (dd + 1) z).1
          have hst := HLK.out
          rw [drop_at HY.out, lookL] at hst
          have HCALL : Hid (Calls Try.prog 53 #[.agg #[.int .i64 d.k, .string (bs d.l), .string (bs d.x), .slice d.A d.n d.c, .string (bs d.e)], .int .i64 (dd + 1), .int .i64 z] wr (R2I (lookF y (dd + 1) z) wr)) := Lib.hid (HI.out d y (dd + 1) z wr HE.out (by omega) (by omega) hz0 hz1)
          generalize lookF y (dd + 1) z = q at *
          obtain ⟨s', e'⟩ := q
          unfold R2I at HCALL
          dsimp only at HCALL hst hcap hsee
          by_cases he : e' = 0
          · subst he
            rw [if_neg (by omega)] at hst
            have HST := Lib.hid hst
            clear hst
            go_wp2_with fail
            refine HCALL.out.mono ?_
            rintro e w2 ⟨rfl, hb2⟩
            go_wp2_with fail
            go_roundw
            case rel => exact ⟨j + 1, s', by omega, by go_num, rfl, by omega, hcap, HST.out, (by with_reducible (repeat (first | exact Gr.refl _ | assumption | apply Gr.alloc | apply Gr.drew | apply Gr.drewN | refine Gr.setCell ?_ (by first | (simp; done) | (simp; omega)) _ | refine Gr.trans ?_ (by assumption))))⟩
            case measure => simp [intOf] <;> omega
          · rw [if_pos he] at hst
            have HST := Lib.hid hst
            have heb : (e' == 0) = false := by simpa using he
            have heb' : (e' != 0) = true := by simpa using he
            clear hst
            go_wp2_with fail
            refine HCALL.out.mono ?_
            rintro e w2 ⟨rfl, hb2⟩
            go_wp2_with fail
            go_ret2
            rw [← HST.out]
            exact ⟨rfl, hG1.trans (hG.trans hb2)⟩
        · have hq : Q = (z, 0) := by rw [← HLK.out, List.drop_of_length_le (by have := HN.out; omega), lookL]
          have HQZ := Lib.hid hq
          clear hq
          have g3 := hG.cell k3
          have hlw : b0 < wr.heap.size := Gr.lt hG hb0
          go_wp2_with fail
          go_ret2
          rw [HQZ.out]
          exact ⟨rfl, hG1.trans hG⟩

theorem heapOld {w : World} {o : Obj} {k : Nat} (h : k < w.heap.size) : (w.alloc o).heap[k]? = w.heap[k]? := by
  show (w.heap.push o)[k]? = _
  rw [Array.getElem?_push, if_neg (by omega)]
theorem NRep.lt {P : Nat → Prop} : ∀ {m : Nat} {W : World} {v : ND} {t : NT}, NRep P m W v t → NRep (fun k => k < W.heap.size) m W v t
  | 0, _, _, _, h => h
  | m + 1, W, v, .mk k l x ks e, h => by
    obtain ⟨h1, h2, h3, h4, h5, h6, h7, h8, h9, h10, h11, h12, h13⟩ := h
    refine ⟨h1, h2, h3, h4, h5, h6, h7, h8, h9, h10, h11, h12, fun i y hy => ?_⟩
    obtain ⟨b, o, d, ha, hp, hb, hc, hr⟩ := h13 i y hy
    exact ⟨b, o, d, ha, hb, hb, hc, NRep.lt hr⟩
theorem grown_on {W w : World} {b : Nat} (h : W.grownBy w (some b)) : SameOn (fun k => k ≠ b) W w :=
  ⟨h.size, fun k o hk hl => h.cell_far ⟨k, o, none⟩ hl (fun e => hk (by cases e; rfl))⟩
theorem alloc_on {P : Nat → Prop} {W : World} (o : Obj) : SameOn P W (W.alloc o) := ((Gr.refl W).alloc o).on P
theorem grown_trans {a w w' : World} {row : Option Nat} (h : a.grownBy w row) (k : w.grownBy w' row) : a.grownBy w' row :=
  ⟨k.os.trans h.os, k.tape.trans h.tape, k.output.trans h.output, Nat.le_trans h.size k.size, fun i hi hr => (k.block i (Nat.lt_of_lt_of_le hi h.size) hr).trans (h.block i hi hr)⟩
theorem grown_alloc {a w : World} {row : Option Nat} (h : a.grownBy w row) (o : Obj) : a.grownBy (w.alloc o) row := grown_trans h (World.grownBy_alloc w o row)
theorem grown_gr {a w w' : World} {row : Option Nat} (h : a.grownBy w row) (k : Gr w w') : a.grownBy w' row :=
  ⟨k.os.trans h.os, k.tape.trans h.tape, k.output.trans h.output, Nat.le_trans h.size k.size, fun i hi hr => (k.block i (Nat.lt_of_lt_of_le hi h.size)).trans (h.block i hi hr)⟩
theorem grown_set {w : World} (b : Nat) (u : Value) : w.grownBy (w.setCell ⟨b, 0, none⟩ u) (some b) :=
  ⟨rfl, rfl, rfl, by simp, fun k _ hr => Below.heap_setCell _ _ _ _ (fun e => hr (by rw [e]))⟩
def IntBox (W : World) (b : Nat) (s : Int) : Prop := W.heap[b]? = some (.cells #[.int .i64 s] 3 (0, 0))
theorem IntBox.gr {w w' : World} {b : Nat} {s : Int} (h : IntBox w b s) (k : Gr w w') : IntBox w' b s := (k.block b (lt_of_block h)).trans h
def ChkPost (b : Nat) (q : Int × Int) (w : World) (e : Ending) (w' : World) : Prop :=
  ∃ s' : Int, e = .returned (.int .i64 q.2) ∧ w.grownBy w' (some b) ∧ IntBox w' b s' ∧ (q.2 = 0 → s' = q.1) ∧ 0 ≤ s' ∧ s' ≤ 524289
def ChkRel (w : World) (b : Nat) (ks : List NT) (d : Int) (Q : Int × Int) (n : Nat) (iv : Value) (wr : World) : Prop :=
  ∃ (j : Nat) (s : Int), j ≤ n ∧ iv = .int .i64 j ∧ w.grownBy wr (some b) ∧ IntBox wr b s ∧ 0 ≤ s ∧ s ≤ 524288 ∧ lookL (ks.drop j) d s = Q
def KidsP (P : Nat → Prop) (m : Nat) (W : World) (A : Option Addr) (ks : List NT) : Prop := Kids P m W A ks
theorem Kids.on {P : Nat → Prop} {m : Nat} {W w : World} {A : Option Addr} {ks : List NT} (h : Kids P m W A ks) (hg : SameOn P W w) : Kids P m w A ks := fun i y hy => by
  obtain ⟨b, o, d, ha, hp, hb, hc, hr⟩ := h i y hy
  exact ⟨b, o, d, ha, hp, Nat.lt_of_lt_of_le hb hg.1, hc.keep hg hp hb, NRep.keep hg m d y hr⟩
set_option maxRecDepth 100000 in
set_option maxHeartbeats 4000000 in
theorem checkP_any : ∀ (m : Nat) (v : ND) (t : NT) (dd s : Int) (b : Nat) (w : World), NRep (fun k => k ≠ b) m w v t → IntBox w b s → -1000 ≤ dd → dd ≤ 1000 → 0 ≤ s → s ≤ 524288 → Calls Try.prog 50 #[.agg #[.int .i64 v.k, .string (bs v.l), .string (bs v.x), .slice v.A v.n v.c, .string (bs v.e)], .int .i64 dd, .pointer (some ⟨b, 0, none⟩)] w (ChkPost b (lookF t dd s) w) := by
  intro m
  induction m with
  | zero => intro v t dd s b w h; exact h.elim
  | succ m ih =>
    intro v t dd s b w hr hib hd0 hd1 hs0 hs1
    obtain ⟨A, n, c, rfl, p1, p2, p3, p4, p5, p6, p7, p8, p9⟩ := hr.open5
    have hn63 : n ≤ maxLen := Nat.le_trans p2 p3
    unfold maxLen at hn63 p3 p5 p6 p7
    have HI := Lib.hid ih
    have HN := Lib.hid p1
    have HK0 : Hid (Kids (fun k => k ≠ b) m w A t.ks) := Lib.hid p9
    clear ih hr p9 p8 p4
    dsimp only
    have hs3 : ((bs t.e).size : Int) = t.e.length := rfl
    have hre := lookF_eq t dd s
    clear p1
    have cb := cell_of_one hib
    have fb := free_of_one hib
    have hbl := lt_of_block hib
    have hbne : b ≠ w.heap.size := by omega
    have HIB := Lib.hid hib
    clear hib
    by_cases c1 : 192 < dd
    · have hR : lookF t dd s = (s, 9) := by rw [hre, if_pos c1]
      rw [hR]
      clear hR hre
      go_enter Try.func50, Try.ntmps50
      go_wp2_with fail
      go_ret
      exact ⟨s, rfl, grown_alloc (World.grownBy.refl _ _) _, (heapOld hbl).trans HIB.out, (fun h => absurd (show (9 : Int) = 0 from h) (by decide)), hs0, by omega⟩
    by_cases c2 : 524288 ≤ s
    · have hR : lookF t dd s = (s, 10) := by rw [hre, if_neg c1, if_pos c2]
      rw [hR]
      clear hR hre
      go_enter Try.func50, Try.ntmps50
      go_wp2_with fail
      go_ret
      exact ⟨s + 1, rfl, grown_alloc (grown_set _ _) _, (heapOld (by simp; omega)).trans (one_setCell HIB.out), (fun h => absurd (show (10 : Int) = 0 from h) (by decide)), by omega, by omega⟩
    by_cases c3 : t.k < 1
    · have hR : lookF t dd s = (s, 6) := by rw [hre, if_neg c1, if_neg c2, if_pos (by omega)]
      rw [hR]
      clear hR hre
      go_enter Try.func50, Try.ntmps50
      go_wp2_with fail
      go_ret
      exact ⟨s + 1, rfl, grown_alloc (grown_set _ _) _, (heapOld (by simp; omega)).trans (one_setCell HIB.out), (fun h => absurd (show (6 : Int) = 0 from h) (by decide)), by omega, by omega⟩
    by_cases c4 : 11 < t.k
    · have hR : lookF t dd s = (s, 6) := by rw [hre, if_neg c1, if_neg c2, if_pos (by omega)]
      rw [hR]
      clear hR hre
      go_enter Try.func50, Try.ntmps50
      go_wp2_with fail
      go_ret
      exact ⟨s + 1, rfl, grown_alloc (grown_set _ _) _, (heapOld (by simp; omega)).trans (one_setCell HIB.out), (fun h => absurd (show (6 : Int) = 0 from h) (by decide)), by omega, by omega⟩
    have HW := fun (hx : leafB t.k = true → t.ks = [] ∧ t.e = []) => hre.trans (by rw [if_neg c1, if_neg c2, if_neg (by omega), if_neg (fun h => h.2.elim (fun k => k (hx h.1).1) (fun k => k (hx h.1).2))])
    have HN1 := HN
    by_cases c5 : leafB t.k = true ∧ 0 < n
    · obtain ⟨c5, c6⟩ := c5
      have hR : lookF t dd s = (s, 1) := by rw [hre, if_neg c1, if_neg c2, if_neg (by omega), if_pos ⟨c5, Or.inl (fun h => by have h1 := HN.out; rw [h] at h1; simp at h1; omega)⟩]
      rw [hR]
      clear hR hre
      go_enter Try.func50, Try.ntmps50
      go_wp2_with fail
      refine (leafP_any _ _).mono ?_
      rw [c5]
      rintro e w1 ⟨rfl, hb1⟩
      obtain ⟨hc1, hf1, hs1⟩ := Gr.cells hb1
      simp at hs1
      have q3 := fun o => hc1 w.heap.size o (by simp)
      clear hc1 hf1
      go_wp2_with fail
      go_ret
      exact ⟨s + 1, rfl, grown_gr (grown_alloc (grown_set _ _) _) hb1, IntBox.gr ((heapOld (by simp; omega)).trans (one_setCell HIB.out)) hb1, (fun h => absurd (show (1 : Int) = 0 from h) (by decide)), by omega, by omega⟩
    by_cases c6 : leafB t.k = true ∧ t.e ≠ []
    · obtain ⟨c6, c7⟩ := c6
      have c8 : n = 0 := by have : ¬ 0 < n := fun h => c5 ⟨c6, h⟩; omega
      have hR : lookF t dd s = (s, 1) := by rw [hre, if_neg c1, if_neg c2, if_neg (by omega), if_pos ⟨c6, Or.inr c7⟩]
      rw [hR]
      clear hR hre
      have te1 : (bs t.e).toList.isEmpty = false := by rw [bs_list]; cases h : t.e with
        | nil => exact absurd h c7
        | cons _ _ => rfl
      go_enter Try.func50, Try.ntmps50
      go_wp2_with fail
      refine (leafP_any _ _).mono ?_
      rw [c6]
      rintro e w1 ⟨rfl, hb1⟩
      obtain ⟨hc1, hf1, hs1⟩ := Gr.cells hb1
      simp at hs1
      have q3 := fun o => hc1 w.heap.size o (by simp)
      clear hc1 hf1
      go_wp2_with fail
      go_ret
      exact ⟨s + 1, rfl, grown_gr (grown_alloc (grown_set _ _) _) hb1, IntBox.gr ((heapOld (by simp; omega)).trans (one_setCell HIB.out)) hb1, (fun h => absurd (show (1 : Int) = 0 from h) (by decide)), by omega, by omega⟩
    have hR := HW (fun h => ⟨List.eq_nil_of_length_eq_zero (by have h1 := HN.out; have : ¬ 0 < n := fun k => c5 ⟨h, k⟩; omega), Classical.byContradiction fun k => c6 ⟨h, k⟩⟩)
    rw [hR]
    generalize hQ : lookL t.ks (dd + 1) (s + 1) = Q
    have HQ := Lib.hid hQ
    have hlf : leafB t.k = true → n = 0 ∧ t.e = [] := fun h => ⟨by have : ¬ 0 < n := fun k => c5 ⟨h, k⟩; omega, Classical.byContradiction fun k => c6 ⟨h, k⟩⟩
    have HLF := Lib.hid hlf
    clear hR hre HW hQ hlf c5 c6
    have hbx : ((w.setCell ⟨b, 0, none⟩ (.int .i64 (s + 1))).alloc (.cells #[.int .i64 t.k, .string (bs t.l), .string (bs t.x), .slice A n c, .string (bs t.e)] 24)).heap[w.heap.size]? = some (.cells #[.int .i64 t.k, .string (bs t.l), .string (bs t.x), .slice A n c, .string (bs t.e)] 24 (0, 0)) := by
      have h := heap_alloc_new (w.setCell ⟨b, 0, none⟩ (.int .i64 (s + 1))) (.cells #[.int .i64 t.k, .string (bs t.l), .string (bs t.x), .slice A n c, .string (bs t.e)] 24)
      have hz : (w.setCell ⟨b, 0, none⟩ (.int .i64 (s + 1))).heap.size = w.heap.size := by simp
      rwa [hz] at h
    have hG1 : w.grownBy ((w.setCell ⟨b, 0, none⟩ (.int .i64 (s + 1))).alloc (.cells #[.int .i64 t.k, .string (bs t.l), .string (bs t.x), .slice A n c, .string (bs t.e)] 24)) (some b) := grown_alloc (grown_set _ _) _
    have hIB1 : IntBox ((w.setCell ⟨b, 0, none⟩ (.int .i64 (s + 1))).alloc (.cells #[.int .i64 t.k, .string (bs t.l), .string (bs t.x), .slice A n c, .string (bs t.e)] 24)) b (s + 1) := (heapOld (by simp; omega)).trans (one_setCell HIB.out)
    have HK : Hid (Kids (fun k => k ≠ b) m ((w.setCell ⟨b, 0, none⟩ (.int .i64 (s + 1))).alloc (.cells #[.int .i64 t.k, .string (bs t.l), .string (bs t.x), .slice A n c, .string (bs t.e)] 24)) A t.ks) := Lib.hid (HK0.out.on (grown_on hG1))
    have hb0 : w.heap.size < ((w.setCell ⟨b, 0, none⟩ (.int .i64 (s + 1))).alloc (.cells #[.int .i64 t.k, .string (bs t.l), .string (bs t.x), .slice A n c, .string (bs t.e)] 24)).heap.size := by simp
    have k0 := cell_of_cells hbx 0
    have k1 := cell_of_cells hbx 1
    have k2 := cell_of_cells hbx 2
    have k3 := cell_of_cells hbx 3
    have k4 := cell_of_cells hbx 4
    simp only [List.getElem?_toArray, List.getElem?_cons_zero, List.getElem?_cons_succ] at k0 k1 k2 k3 k4
    go_enter Try.func50, Try.ntmps50
    go_wp2_with fail
    clear hbx HK0 cb fb HIB hbl
    generalize ((w.setCell ⟨b, 0, none⟩ (.int .i64 (s + 1))).alloc (.cells #[.int .i64 t.k, .string (bs t.l), .string (bs t.x), .slice A n c, .string (bs t.e)] 24)) = W1 at *
    generalize w.heap.size = b0 at *
    refine (leafP_any _ _).mono ?_
    rintro e w1 ⟨rfl, hb1⟩
    have hG2 : w.grownBy w1 (some b) := grown_gr hG1 hb1
    have hIB2 := hIB1.gr hb1
    have HK2 : Hid (Kids (fun k => k ≠ b) m w1 A t.ks) := Lib.hid (HK.out.gr hb1)
    have g0 := hb1.cell k0
    have g3 := hb1.cell k3
    have g4 := hb1.cell k4
    have hlw1 : b0 < w1.heap.size := Gr.lt hb1 hb0
    clear HK hb0 hIB1 k0 k1 k2 k3 k4
    cases hk : leafB t.k with
    | true =>
      obtain ⟨rfl, hte⟩ := HLF.out hk
      have te1 : (bs t.e).toList.isEmpty = true := by rw [bs_list, hte]; rfl
      have hks : t.ks = [] := List.eq_nil_of_length_eq_zero HN.out.symm
      have hq : Q = (s + 1, 0) := by rw [← HQ.out, hks, lookL]
      have HQZ := Lib.hid hq
      clear hq hks hte
      go_wp2_with fail
      go_loopw [46] (fun iv wr => iv = .int .i64 0 ∧ wr = w1) (fun _ _ => 0)
      case atStart => exact ⟨rfl, rfl⟩
      case round =>
        obtain ⟨rfl, rfl⟩ := hrel
        go_wp2_with fail
        go_ret
        rw [HQZ.out]
        exact ⟨s + 1, rfl, hG2, hIB2, fun _ => rfl, by omega, by omega⟩
    | false =>
      go_wp2_with fail
      go_loopw [46] (fun iv wr => ChkRel w1 b t.ks (dd + 1) Q n iv wr) (fun iv _ => n - (intOf iv).toNat)
      case atStart => exact ⟨0, s + 1, Nat.zero_le _, rfl, World.grownBy.refl _ _, hIB2, by omega, by omega, HQ.out⟩
      case round =>
        obtain ⟨j, z, hj, rfl, hG, hib, hz0, hz1, hlk⟩ := hrel
        have HLK := Lib.hid hlk
        have HIB := Lib.hid hib
        have hbl := lt_of_block hib
        clear hlk hib
        by_cases hlt : j < n
        · obtain ⟨y, hy⟩ : ∃ y, t.ks[j]? = some y := ⟨t.ks[j]'(by have := HN.out; omega), List.getElem?_eq_getElem _⟩
          have HY := Lib.hid hy
          obtain ⟨bk, ok, d, hA, hbkb, hbk, hce, hre⟩ := HK2.out.on (grown_on hG) j y hy
          subst hA
          clear hy
          have HE := Lib.hid hre
          obtain ⟨e0, e1, e2, e3, e4⟩ := hce
          have hlt1 : (j : Int) < (n : Int) := by omega
          clear hre
          have hcap := lookF_cap y (dd + 1) z hz1
          have hsee := (lookF_seen y (dd + 1) z).1
          have hst := HLK.out
          rw [drop_at HY.out, lookL] at hst
          have HIB4 : Hid (IntBox (wr.alloc (.cells #[.int .i64 d.k, .string (bs d.l), .string (bs d.x), .slice d.A d.n d.c, .string (bs d.e)] 24)) b z) := Lib.hid ((heapOld hbl).trans HIB.out)
          have HCALL : Hid (Calls Try.prog 50 #[.agg #[.int .i64 d.k, .string (bs d.l), .string (bs d.x), .slice d.A d.n d.c, .string (bs d.e)], .int .i64 (dd + 1), .pointer (some ⟨b, 0, none⟩)] (wr.alloc (.cells #[.int .i64 d.k, .string (bs d.l), .string (bs d.x), .slice d.A d.n d.c, .string (bs d.e)] 24)) (ChkPost b (lookF y (dd + 1) z) (wr.alloc (.cells #[.int .i64 d.k, .string (bs d.l), .string (bs d.x), .slice d.A d.n d.c, .string (bs d.e)] 24)))) := Lib.hid (HI.out d y (dd + 1) z b _ (NRep.keep (alloc_on _) _ _ _ HE.out) HIB4.out (by omega) (by omega) hz0 hz1)
          generalize lookF y (dd + 1) z = q at *
          obtain ⟨s', e'⟩ := q
          unfold ChkPost at HCALL
          dsimp only at HCALL hst hcap hsee
          by_cases he : e' = 0
          · subst he
            rw [if_neg (by omega)] at hst
            have HST := Lib.hid hst
            clear hst
            go_wp2_with fail
            refine HCALL.out.mono ?_
            rintro e w2 ⟨s2, rfl, hg2, hib2, hs2, h20, h21⟩
            have hs2' : s2 = s' := by first | exact hs2 rfl | exact hs2 trivial | simpa using hs2
            subst hs2'
            have HIB2 := Lib.hid hib2
            clear hib2 hs2
            go_wp2_with fail
            go_roundw
            case rel => exact ⟨j + 1, s2, by omega, by go_num, grown_trans (grown_alloc hG _) hg2, HIB2.out, h20, hcap, HST.out⟩
            case measure => simp [intOf] <;> omega
          · rw [if_pos he] at hst
            have HST := Lib.hid hst
            have heb : (e' == 0) = false := by simpa using he
            have heb' : (e' != 0) = true := by simpa using he
            clear hst
            go_wp2_with fail
            refine HCALL.out.mono ?_
            rintro e w2 ⟨s2, rfl, hg2, hib2, hs2, h20, h21⟩
            have HIB2 := Lib.hid hib2
            clear hib2 hs2
            go_wp2_with fail
            go_ret
            rw [← HST.out]
            exact ⟨s2, rfl, grown_trans hG2 (grown_trans (grown_alloc hG _) hg2), HIB2.out, fun h => absurd h he, h20, h21⟩
        · have hq : Q = (z, 0) := by rw [← HLK.out, List.drop_of_length_le (by have := HN.out; omega), lookL]
          have HQZ := Lib.hid hq
          clear hq
          go_wp2_with fail
          go_ret
          rw [HQZ.out]
          exact ⟨z, rfl, grown_trans hG2 hG, HIB.out, fun _ => rfl, hz0, by omega⟩
end Go.Proofs.Ytbfnmgiccbdglaa
