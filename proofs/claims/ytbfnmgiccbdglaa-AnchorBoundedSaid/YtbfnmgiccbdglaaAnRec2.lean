/- Recursions over trees, walked: nesting, and whether a tree is small. -/
import Derived.Test.YtbfnmgiccbdglaaTrRec
namespace Go.Proofs.Ytbfnmgiccbdglaa
open Go.ChangeShapes Go.WideShapes Go.ChangeAt Go.RowKit

set_option maxRecDepth 100000 in
set_option maxHeartbeats 4000000 in
theorem depthRP_any : ∀ (m : Nat) (v : ND) (t : NT) (w : World), NRep anyB m w v t → depthF t ≤ 1152921504606846976 → Calls Try.prog 39 #[.agg #[.int .i64 v.k, .string (bs v.l), .string (bs v.x), .slice v.A v.n v.c, .string (bs v.e)]] w (RI (depthF t) w) := by
  intro m
  induction m with
  | zero => intro v t w h; exact h.elim
  | succ m ih =>
    intro v t w hr hb
    obtain ⟨A, n, c, rfl, p1, p2, p3, p4, p5, p6, p7, p8, p9⟩ := hr.open5
    have hn63 : n ≤ maxLen := Nat.le_trans p2 p3
    unfold maxLen at hn63 p3 p5 p6 p7
    have HI := Lib.hid ih
    have HN := Lib.hid p1
    have HK0 : Hid (Kids anyB m w A t.ks) := Lib.hid p9
    clear ih hr p9 p8 p4
    dsimp only
    have hle := depthF_eq t
    have HLE := Lib.hid hle
    have hb1 : depthL t.ks ≤ 1152921504606846976 := by omega
    clear hle hb
    clear p1
    go_enter Try.func39, Try.ntmps39
    go_wp2_with fail
    have hbx : (w.alloc (.cells #[.int .i64 t.k, .string (bs t.l), .string (bs t.x), .slice A n c, .string (bs t.e)] 24)).heap[w.heap.size]? = some (.cells #[.int .i64 t.k, .string (bs t.l), .string (bs t.x), .slice A n c, .string (bs t.e)] 24 (0, 0)) := heap_alloc_new _ _
    have k0 : (w.alloc (.cells #[.int .i64 t.k, .string (bs t.l), .string (bs t.x), .slice A n c, .string (bs t.e)] 24)).cell? ⟨w.heap.size, 0, none⟩ = some (.int .i64 t.k) := cell_of_cells hbx 0
    have k1 : (w.alloc (.cells #[.int .i64 t.k, .string (bs t.l), .string (bs t.x), .slice A n c, .string (bs t.e)] 24)).cell? ⟨w.heap.size, 1, none⟩ = some (.string (bs t.l)) := cell_of_cells hbx 1
    have k2 : (w.alloc (.cells #[.int .i64 t.k, .string (bs t.l), .string (bs t.x), .slice A n c, .string (bs t.e)] 24)).cell? ⟨w.heap.size, 2, none⟩ = some (.string (bs t.x)) := cell_of_cells hbx 2
    have k3 : (w.alloc (.cells #[.int .i64 t.k, .string (bs t.l), .string (bs t.x), .slice A n c, .string (bs t.e)] 24)).cell? ⟨w.heap.size, 3, none⟩ = some (.slice A n c) := cell_of_cells hbx 3
    have k4 : (w.alloc (.cells #[.int .i64 t.k, .string (bs t.l), .string (bs t.x), .slice A n c, .string (bs t.e)] 24)).cell? ⟨w.heap.size, 4, none⟩ = some (.string (bs t.e)) := cell_of_cells hbx 4
    have hG1 : Gr w (w.alloc (.cells #[.int .i64 t.k, .string (bs t.l), .string (bs t.x), .slice A n c, .string (bs t.e)] 24)) := (Gr.refl w).alloc _
    have HK : Hid (Kids anyB m (w.alloc (.cells #[.int .i64 t.k, .string (bs t.l), .string (bs t.x), .slice A n c, .string (bs t.e)] 24)) A t.ks) := Lib.hid (HK0.out.gr hG1)
    have hb0 : w.heap.size < (w.alloc (.cells #[.int .i64 t.k, .string (bs t.l), .string (bs t.x), .slice A n c, .string (bs t.e)] 24)).heap.size := by simp
    clear hbx HK0
    generalize w.alloc (.cells #[.int .i64 t.k, .string (bs t.l), .string (bs t.x), .slice A n c, .string (bs t.e)] 24) = W1 at *
    generalize w.heap.size = b0 at *
    go_loopw [3, 4] (fun sv iv wr => DepthRel W1 t n sv iv wr) (fun _ iv _ => n - (intOf iv).toNat)
    case atStart => exact ⟨0, Nat.zero_le _, rfl, by simp [depthL], Gr.refl _⟩
    case round =>
      obtain ⟨j, hj, rfl, rfl, hG⟩ := hrel
      by_cases hlt : j < n
      · obtain ⟨y, hy⟩ : ∃ y, t.ks[j]? = some y := ⟨t.ks[j]'(by have := HN.out; omega), List.getElem?_eq_getElem _⟩
        have HY := Lib.hid hy
        obtain ⟨bk, ok, d, hA, _, hbk, hce, hre⟩ := HK.out.gr hG j y hy
        subst hA
        clear hy
        have HE := Lib.hid hre
        obtain ⟨e0, e1, e2, e3, e4⟩ := hce
        have g0 := hG.cell k0
        have g1 := hG.cell k1
        have g2 := hG.cell k2
        have g3 := hG.cell k3
        have g4 := hG.cell k4
        have hlw : b0 < wr.heap.size := Gr.lt hG hb0
        have hlt1 : (j : Int) < (n : Int) := by omega
        clear hre
        have hg := depthL_get _ _ _ HY.out
        have hg2 := depthL_take t.ks j
        obtain ⟨M, hM⟩ : ∃ M, M = depthL (t.ks.take (j + 1)) := ⟨_, rfl⟩
        have hst : M = max (depthL (t.ks.take j)) (depthF y) := by
          rw [hM, take_succ_at HY.out, depthL_app]
          simp [depthL]
        have HM := Lib.hid hM
        have HST := Lib.hid hst
        have hM1 : depthL (t.ks.take j) ≤ M := by omega
        have hM2 : depthF y ≤ M := by omega
        clear hst hM
        by_cases hgt : depthL (t.ks.take j) < depthF y
        · have hmx : M = depthF y := by have := HST.out; omega
          have HMX := Lib.hid hmx
          clear hmx
          go_wp2_with (go_at_call 39; refine (HI.out _ y _ HE.out (by omega)).mono ?_; rintro e w2 ⟨rfl, hb2⟩)
          go_roundw
          case rel => exact ⟨j + 1, by omega, by go_num, by rw [← HM.out, HMX.out], (by with_reducible (repeat (first | exact Gr.refl _ | assumption | apply Gr.alloc | apply Gr.drew | apply Gr.drewN | refine Gr.setCell ?_ (by first | (simp; done) | (simp; omega)) _ | refine Gr.trans ?_ (by assumption))))⟩
          case measure => simp [intOf] <;> omega
        · have hmx : M = depthL (t.ks.take j) := by have := HST.out; omega
          have HMX := Lib.hid hmx
          clear hmx
          go_wp2_with (go_at_call 39; refine (HI.out _ y _ HE.out (by omega)).mono ?_; rintro e w2 ⟨rfl, hb2⟩)
          go_roundw
          case rel => exact ⟨j + 1, by omega, by go_num, by rw [← HM.out, HMX.out], (by with_reducible (repeat (first | exact Gr.refl _ | assumption | apply Gr.alloc | apply Gr.drew | apply Gr.drewN | refine Gr.setCell ?_ (by first | (simp; done) | (simp; omega)) _ | refine Gr.trans ?_ (by assumption))))⟩
          case measure => simp [intOf] <;> omega
      · have hjn : j = n := by omega
        have hfin : depthL (t.ks.take j) + 1 = depthF t := by
          rw [HLE.out, List.take_of_length_le (by have := HN.out; omega)]
        have HF := Lib.hid hfin
        have hg2 := depthL_take t.ks j
        clear hfin hjn
        have g0 := hG.cell k0
        have g3 := hG.cell k3
        have hlw : b0 < wr.heap.size := Gr.lt hG hb0
        go_wp2_with fail
        go_ret
        exact ⟨ret_int (by rw [← HF.out]; omega), hG1.trans hG⟩
def RoomRel (w : World) (ks : List NT) (d L R : Int) (n : Nat) (lv iv : Value) (wr : World) : Prop :=
  ∃ (j : Nat) (z : Int), j ≤ n ∧ iv = .int .i64 j ∧ lv = .int .i64 z ∧ -1 ≤ z ∧ z ≤ 1000000 ∧ roomL (ks.drop j) z d L = R ∧ Gr w wr
set_option maxRecDepth 100000 in
set_option maxHeartbeats 4000000 in
theorem roomP_any : ∀ (m : Nat) (v : ND) (t : NT) (left dd L : Int) (w : World), NRep anyB m w v t → -1 ≤ left → left ≤ 1000000 → -1000000 ≤ dd → dd ≤ 1000000 → 0 ≤ L → L ≤ 4000000 → Calls Try.prog 42 #[.agg #[.int .i64 v.k, .string (bs v.l), .string (bs v.x), .slice v.A v.n v.c, .string (bs v.e)], .int .i64 left, .int .i64 dd, .int .i64 L] w (RI (roomF t left dd L) w) := by
  intro m
  induction m with
  | zero => intro v t left dd L w h; exact h.elim
  | succ m ih =>
    intro v t left dd L w hr hl0 hl1 hd0 hd1 hL0 hL1
    obtain ⟨A, n, c, rfl, p1, p2, p3, p4, p5, p6, p7, p8, p9⟩ := hr.open5
    have hn63 : n ≤ maxLen := Nat.le_trans p2 p3
    unfold maxLen at hn63 p3 p5 p6 p7
    have HI := Lib.hid ih
    have HN := Lib.hid p1
    have HK0 : Hid (Kids anyB m w A t.ks) := Lib.hid p9
    clear ih hr p9 p8 p4
    dsimp only
    have hs1 : ((bs t.l).size : Int) = t.l.length := rfl
    have hs2 : ((bs t.x).size : Int) = t.x.length := rfl
    have hs3 : ((bs t.e).size : Int) = t.e.length := rfl
    have hre := roomF_eq t left dd L
    rw [← p1] at hre
    clear p1
    by_cases c1 : dd ≤ 0
    · have hR : roomF t left dd L = -1 := by rw [hre, if_pos (by omega)]
      rw [hR]
      clear hR hre
      go_enter Try.func42, Try.ntmps42
      go_wp2_with fail
      go_ret
      exact ⟨rfl, (by with_reducible (repeat (first | exact Gr.refl _ | assumption | apply Gr.alloc | apply Gr.drew | apply Gr.drewN | refine Gr.setCell ?_ (by first | (simp; done) | (simp; omega)) _ | refine Gr.trans ?_ (by assumption))))⟩
    by_cases c2 : left - 1 < n
    · have t2 : decide (left - 1 < (n : Int)) = true := decide_eq_true c2
      have hR : roomF t left dd L = -1 := by rw [hre, if_pos (by omega)]
      rw [hR]
      clear hR hre
      go_enter Try.func42, Try.ntmps42
      go_wp2_with fail
      go_ret
      exact ⟨rfl, (by with_reducible (repeat (first | exact Gr.refl _ | assumption | apply Gr.alloc | apply Gr.drew | apply Gr.drewN | refine Gr.setCell ?_ (by first | (simp; done) | (simp; omega)) _ | refine Gr.trans ?_ (by assumption))))⟩
    by_cases c3 : L < t.l.length
    · have hR : roomF t left dd L = -1 := by rw [hre, if_pos (by omega)]
      rw [hR]
      clear hR hre
      go_enter Try.func42, Try.ntmps42
      go_wp2_with fail
      go_ret
      exact ⟨rfl, (by with_reducible (repeat (first | exact Gr.refl _ | assumption | apply Gr.alloc | apply Gr.drew | apply Gr.drewN | refine Gr.setCell ?_ (by first | (simp; done) | (simp; omega)) _ | refine Gr.trans ?_ (by assumption))))⟩
    by_cases c4 : L < t.x.length
    · have hR : roomF t left dd L = -1 := by rw [hre, if_pos (by omega)]
      rw [hR]
      clear hR hre
      go_enter Try.func42, Try.ntmps42
      go_wp2_with fail
      go_ret
      exact ⟨rfl, (by with_reducible (repeat (first | exact Gr.refl _ | assumption | apply Gr.alloc | apply Gr.drew | apply Gr.drewN | refine Gr.setCell ?_ (by first | (simp; done) | (simp; omega)) _ | refine Gr.trans ?_ (by assumption))))⟩
    by_cases c5 : L < t.e.length
    · have hR : roomF t left dd L = -1 := by rw [hre, if_pos (by omega)]
      rw [hR]
      clear hR hre
      go_enter Try.func42, Try.ntmps42
      go_wp2_with fail
      go_ret
      exact ⟨rfl, (by with_reducible (repeat (first | exact Gr.refl _ | assumption | apply Gr.alloc | apply Gr.drew | apply Gr.drewN | refine Gr.setCell ?_ (by first | (simp; done) | (simp; omega)) _ | refine Gr.trans ?_ (by assumption))))⟩
    have hR : roomF t left dd L = roomL t.ks (left - 1) (dd - 1) L := by rw [hre, if_neg (by omega)]
    rw [hR]
    generalize hQ : roomL t.ks (left - 1) (dd - 1) L = Q
    have HQ := Lib.hid hQ
    clear hR hre hQ
    go_enter Try.func42, Try.ntmps42
    go_wp2_with fail
    have hbx : (w.alloc (.cells #[.int .i64 t.k, .string (bs t.l), .string (bs t.x), .slice A n c, .string (bs t.e)] 24)).heap[w.heap.size]? = some (.cells #[.int .i64 t.k, .string (bs t.l), .string (bs t.x), .slice A n c, .string (bs t.e)] 24 (0, 0)) := heap_alloc_new _ _
    have k0 : (w.alloc (.cells #[.int .i64 t.k, .string (bs t.l), .string (bs t.x), .slice A n c, .string (bs t.e)] 24)).cell? ⟨w.heap.size, 0, none⟩ = some (.int .i64 t.k) := cell_of_cells hbx 0
    have k1 : (w.alloc (.cells #[.int .i64 t.k, .string (bs t.l), .string (bs t.x), .slice A n c, .string (bs t.e)] 24)).cell? ⟨w.heap.size, 1, none⟩ = some (.string (bs t.l)) := cell_of_cells hbx 1
    have k2 : (w.alloc (.cells #[.int .i64 t.k, .string (bs t.l), .string (bs t.x), .slice A n c, .string (bs t.e)] 24)).cell? ⟨w.heap.size, 2, none⟩ = some (.string (bs t.x)) := cell_of_cells hbx 2
    have k3 : (w.alloc (.cells #[.int .i64 t.k, .string (bs t.l), .string (bs t.x), .slice A n c, .string (bs t.e)] 24)).cell? ⟨w.heap.size, 3, none⟩ = some (.slice A n c) := cell_of_cells hbx 3
    have k4 : (w.alloc (.cells #[.int .i64 t.k, .string (bs t.l), .string (bs t.x), .slice A n c, .string (bs t.e)] 24)).cell? ⟨w.heap.size, 4, none⟩ = some (.string (bs t.e)) := cell_of_cells hbx 4
    have hG1 : Gr w (w.alloc (.cells #[.int .i64 t.k, .string (bs t.l), .string (bs t.x), .slice A n c, .string (bs t.e)] 24)) := (Gr.refl w).alloc _
    have HK : Hid (Kids anyB m (w.alloc (.cells #[.int .i64 t.k, .string (bs t.l), .string (bs t.x), .slice A n c, .string (bs t.e)] 24)) A t.ks) := Lib.hid (HK0.out.gr hG1)
    have hb0 : w.heap.size < (w.alloc (.cells #[.int .i64 t.k, .string (bs t.l), .string (bs t.x), .slice A n c, .string (bs t.e)] 24)).heap.size := by simp
    clear hbx HK0
    generalize w.alloc (.cells #[.int .i64 t.k, .string (bs t.l), .string (bs t.x), .slice A n c, .string (bs t.e)] 24) = W1 at *
    generalize w.heap.size = b0 at *
    go_loopw [1, 9] (fun lv iv wr => RoomRel W1 t.ks (dd - 1) L Q n lv iv wr) (fun _ iv _ => n - (intOf iv).toNat)
    case atStart => exact ⟨0, left - 1, Nat.zero_le _, rfl, rfl, by omega, by omega, HQ.out, Gr.refl _⟩
    case round =>
      obtain ⟨j, z, hj, rfl, rfl, hz0, hz1, hrm, hG⟩ := hrel
      have HRM := Lib.hid hrm
      clear hrm
      by_cases hneg : z < 0
      · have hq : Q = z := by rw [← HRM.out, roomL_neg _ _ _ _ hneg]
        have HQZ := Lib.hid hq
        clear hq
        have g3 := hG.cell k3
        have hlw : b0 < wr.heap.size := Gr.lt hG hb0
        by_cases hlt : j < n
        all_goals
          go_wp2_with fail
          go_ret
          exact ⟨ret_int HQZ.out.symm, hG1.trans hG⟩
      by_cases hlt : j < n
      · obtain ⟨y, hy⟩ : ∃ y, t.ks[j]? = some y := ⟨t.ks[j]'(by have := HN.out; omega), List.getElem?_eq_getElem _⟩
        have HY := Lib.hid hy
        obtain ⟨bk, ok, d, hA, _, hbk, hce, hre⟩ := HK.out.gr hG j y hy
        subst hA
        clear hy
        have HE := Lib.hid hre
        obtain ⟨e0, e1, e2, e3, e4⟩ := hce
        have g0 := hG.cell k0
        have g1 := hG.cell k1
        have g2 := hG.cell k2
        have g3 := hG.cell k3
        have g4 := hG.cell k4
        have hlw : b0 < wr.heap.size := Gr.lt hG hb0
        have hlt1 : (j : Int) < (n : Int) := by omega
        clear hre
        have hst : roomL (t.ks.drop (j + 1)) (roomF y z (dd - 1) L) (dd - 1) L = Q := by rw [← HRM.out, drop_at HY.out, roomL, if_pos (by omega)]
        have HST := Lib.hid hst
        have hrl := roomF_le y z (dd - 1) L
        obtain ⟨hrl1, hrl2⟩ : -1 ≤ roomF y z (dd - 1) L ∧ roomF y z (dd - 1) L ≤ 1000000 := by omega
        clear hst
        go_wp2_with (go_at_call 42; refine (HI.out _ y _ _ _ _ HE.out (by omega) (by omega) (by omega) (by omega) (by omega) (by omega)).mono ?_; rintro e w2 ⟨rfl, hb2⟩)
        go_roundw
        case rel => exact ⟨j + 1, _, by omega, by go_num, rfl, by omega, by omega, HST.out, (by with_reducible (repeat (first | exact Gr.refl _ | assumption | apply Gr.alloc | apply Gr.drew | apply Gr.drewN | refine Gr.setCell ?_ (by first | (simp; done) | (simp; omega)) _ | refine Gr.trans ?_ (by assumption))))⟩
        case measure => simp [intOf] <;> omega
      · have hq : Q = z := by rw [← HRM.out, List.drop_of_length_le (by have := HN.out; omega), roomL]
        have HQZ := Lib.hid hq
        clear hq
        have g3 := hG.cell k3
        have hlw : b0 < wr.heap.size := Gr.lt hG hb0
        go_wp2_with fail
        go_ret
        exact ⟨ret_int HQZ.out.symm, hG1.trans hG⟩
set_option maxRecDepth 100000 in
set_option maxHeartbeats 4000000 in
theorem smallP_any (m : Nat) (v : ND) (t : NT) (n d L : Int) (w : World) (hr : NRep anyB m w v t) (h0 : 0 ≤ n) (h1 : n ≤ 1000000) (h2 : 0 ≤ d) (h3 : d ≤ 1000000) (h4 : 0 ≤ L) (h5 : L ≤ 4000000) :
    Calls Try.prog 26 #[.agg #[.int .i64 v.k, .string (bs v.l), .string (bs v.x), .slice v.A v.n v.c, .string (bs v.e)], .int .i64 n, .int .i64 d, .int .i64 L] w (RB (smallB t n d L) w) := by
  have hro := fun w' hg => roomP_any m v t n d L w' (hr.gr hg) (by omega) h1 (by omega) h3 h4 h5
  have HRO : Hid (∀ w', Gr w w' → Calls Try.prog 42 #[.agg #[.int .i64 v.k, .string (bs v.l), .string (bs v.x), .slice v.A v.n v.c, .string (bs v.e)], .int .i64 n, .int .i64 d, .int .i64 L] w' (RI (roomF t n d L) w')) := Lib.hid hro
  unfold smallB
  generalize roomF t n d L = Q at *
  clear hro hr
  go_enter Try.func26, Try.ntmps26
  go_wp2_with fail
  refine (HRO.out _ ((Gr.refl w).alloc _)).mono ?_
  rintro e w1 ⟨rfl, hb1⟩
  go_wp2_with fail
  go_ret
  exact ⟨rfl, (by with_reducible (repeat (first | exact Gr.refl _ | assumption | apply Gr.alloc | apply Gr.drew | apply Gr.drewN | refine Gr.setCell ?_ (by first | (simp; done) | (simp; omega)) _ | refine Gr.trans ?_ (by assumption))))⟩
end Go.Proofs.Ytbfnmgiccbdglaa
