/- Marks, proper trees, and how many nodes of a kind, walked. -/
import Derived.Test.YtbfnmgiccbdglaaAnName
namespace Go.Proofs.Ytbfnmgiccbdglaa
open Go.ChangeShapes Go.WideShapes Go.ChangeAt Go.RowKit

theorem bs_drop1 (s : List UInt8) : (bs s).extract 1 (bs s).size = bs (s.drop 1) := by
  apply ByteArray.ext
  apply Array.ext'
  simp [bs, ByteArray.size]
  exact List.take_of_length_le (by simp)
set_option maxRecDepth 100000 in
set_option maxHeartbeats 1000000 in
theorem countKP_any : ∀ (m : Nat) (v : ND) (t : NT) (w : World), NRep anyB m w v t → countF t ≤ 1152921504606846976 → Calls Try.prog 31 #[.agg #[.int .i64 v.k, .string (bs v.l), .string (bs v.x), .slice v.A v.n v.c, .string (bs v.e)]] w (RI (kindF 10 t) w) := by
  intro m
  induction m with
  | zero => intro v t w h; exact h.elim
  | succ m ih =>
    intro v t w hr hcb
    obtain ⟨A, n, c, rfl, p1, p2, p3, p4, p5, p6, p7, p8, p9⟩ := hr.open5
    have hn63 : n ≤ maxLen := Nat.le_trans p2 p3
    have HXL := Lib.hid p6
    unfold maxLen at hn63 p3
    have HI := Lib.hid ih
    have HN := Lib.hid p1
    have HK0 : Hid (Kids anyB m w A t.ks) := Lib.hid p9
    clear ih hr p9 p8 p4 p5 p6 p7 p1
    dsimp only
    have HCB : Hid (countL t.ks ≤ 1152921504606846975) := Lib.hid (by rw [countF_eq] at hcb; omega)
    have HKE := Lib.hid (kindF_eq 10 t)
    clear hcb
    by_cases hk : t.k = 10
    · have hk2 : (t.k == 10) = true := by simp [hk]
      rw [if_pos hk] at HKE
      have HKQ := Lib.hid hk
      clear hk
      go_enter Try.func31, Try.ntmps31
      go_wp2_with fail
      have hbx : NBox (w.alloc (.cells #[.int .i64 t.k, .string (bs t.l), .string (bs t.x), .slice A n c, .string (bs t.e)] 24)) w.heap.size ⟨t.k, t.l, t.x, A, n, c, t.e⟩ := heap_alloc_new _ _
      obtain ⟨k0, k1, k2, k3, k4⟩ := hbx.cells
      simp only at k0 k1 k2 k3 k4
      have hG1 : Gr w (w.alloc (.cells #[.int .i64 t.k, .string (bs t.l), .string (bs t.x), .slice A n c, .string (bs t.e)] 24)) := (Gr.refl w).alloc _
      have HK : Hid (Kids anyB m (w.alloc (.cells #[.int .i64 t.k, .string (bs t.l), .string (bs t.x), .slice A n c, .string (bs t.e)] 24)) A t.ks) := Lib.hid (HK0.out.gr hG1)
      have HBX := Lib.hid hbx
      have hb0 : w.heap.size < (w.alloc (.cells #[.int .i64 t.k, .string (bs t.l), .string (bs t.x), .slice A n c, .string (bs t.e)] 24)).heap.size := by simp
      clear hbx HK0
      generalize w.alloc (.cells #[.int .i64 t.k, .string (bs t.l), .string (bs t.x), .slice A n c, .string (bs t.e)] 24) = W1 at *
      generalize w.heap.size = b0 at *
      go_loopw [3, 12] (fun sv iv wr => ∃ j : Nat, j ≤ n ∧ iv = .int .i64 j ∧ sv = .int .i64 (1 + kindL 10 (t.ks.take j)) ∧ Gr W1 wr) (fun _ iv _ => n - (intOf iv).toNat)
      case atStart => exact ⟨0, Nat.zero_le _, rfl, by simp [kindL], Gr.refl _⟩
      case round =>
        obtain ⟨j, hj, rfl, rfl, hG⟩ := hrel
        by_cases hlt : j < n
        · obtain ⟨y, hy⟩ : ∃ y, t.ks[j]? = some y := ⟨t.ks[j]'(by have := HN.out; omega), List.getElem?_eq_getElem _⟩
          have HY := Lib.hid hy
          obtain ⟨bk, ok, d, hA, _, hbk, hce, hre⟩ := HK.out.gr hG j y hy
          subst hA
          clear hy
          have HE := Lib.hid hre
          obtain ⟨e0, e1, e2, e3, e4⟩ := hce
          have g0 := hG.cell k0
          have g1 := hG.cell k1
          have g2 := hG.cell k2
          have g3 := hG.cell k3
          have g4 := hG.cell k4
          have hlw : b0 < wr.heap.size := Gr.lt hG hb0
          have hlt1 : (j : Int) < (n : Int) := by omega
          clear hre
          have hst : kindL 10 (t.ks.take (j + 1)) = kindL 10 (t.ks.take j) + kindF 10 y := by
            rw [take_succ_at HY.out, kindL_app]
            simp [kindL]
          have HST := Lib.hid hst
          have hg1 := countL_get _ _ _ HY.out
          have hg2 := kindL_le 10 (t.ks.take j)
          have hg3 := kindF_le 10 y
          obtain ⟨a1, ha1⟩ : ∃ a, a = kindL 10 (t.ks.take j) := ⟨_, rfl⟩
          obtain ⟨a2, ha2⟩ : ∃ a, a = kindF 10 y := ⟨_, rfl⟩
          have hsum : 0 ≤ a1 ∧ 0 ≤ a2 ∧ a1 + a2 ≤ 1152921504606846976 ∧ countF y ≤ 1152921504606846976 := by
            have := HCB.out
            omega
          rw [← ha1]
          have HA1 := Lib.hid ha1
          have hcall := HI.out _ y (wr.alloc (.cells #[.int .i64 d.k, .string (bs d.l), .string (bs d.x), .slice d.A d.n d.c, .string (bs d.e)] 24)) ((HE.out).gr ((Gr.refl _).alloc _)) hsum.2.2.2
          rw [← ha2] at hcall
          have HCALL := Lib.hid hcall
          have HA2 := Lib.hid ha2
          clear hst hg1 hg2 hg3 ha1 ha2 hcall
          go_wp2_with (go_at_call 31; refine HCALL.out.mono ?_; rintro e w2 ⟨rfl, hb2⟩)
          go_roundw
          case rel => exact ⟨j + 1, by omega, by go_num, by rw [HST.out, ← HA1.out, ← HA2.out]; go_num, (by with_reducible (repeat (first | exact Gr.refl _ | assumption | apply Gr.alloc | apply Gr.drew | apply Gr.drewN | refine Gr.setCell ?_ (by first | (simp; done) | (simp; omega)) _ | refine Gr.trans ?_ (by assumption))))⟩
          case measure => simp [intOf] <;> omega
        · have hfin : 1 + kindL 10 (t.ks.take j) = kindF 10 t := by
            rw [HKE.out, List.take_of_length_le (by have := HN.out; omega)]
          have HF := Lib.hid hfin
          clear hfin
          have g0 := hG.cell k0
          have g3 := hG.cell k3
          have hlw : b0 < wr.heap.size := Gr.lt hG hb0
          go_wp2_with fail
          go_ret
          exact ⟨by rw [← HF.out]; rfl, hG1.trans hG⟩
    · have hk2 : (t.k == 10) = false := by simp [hk]
      rw [if_neg hk] at HKE
      clear hk
      go_enter Try.func31, Try.ntmps31
      go_wp2_with fail
      have hbx : NBox (w.alloc (.cells #[.int .i64 t.k, .string (bs t.l), .string (bs t.x), .slice A n c, .string (bs t.e)] 24)) w.heap.size ⟨t.k, t.l, t.x, A, n, c, t.e⟩ := heap_alloc_new _ _
      obtain ⟨k0, k1, k2, k3, k4⟩ := hbx.cells
      simp only at k0 k1 k2 k3 k4
      have hG1 : Gr w (w.alloc (.cells #[.int .i64 t.k, .string (bs t.l), .string (bs t.x), .slice A n c, .string (bs t.e)] 24)) := (Gr.refl w).alloc _
      have HK : Hid (Kids anyB m (w.alloc (.cells #[.int .i64 t.k, .string (bs t.l), .string (bs t.x), .slice A n c, .string (bs t.e)] 24)) A t.ks) := Lib.hid (HK0.out.gr hG1)
      have HBX := Lib.hid hbx
      have hb0 : w.heap.size < (w.alloc (.cells #[.int .i64 t.k, .string (bs t.l), .string (bs t.x), .slice A n c, .string (bs t.e)] 24)).heap.size := by simp
      clear hbx HK0
      generalize w.alloc (.cells #[.int .i64 t.k, .string (bs t.l), .string (bs t.x), .slice A n c, .string (bs t.e)] 24) = W1 at *
      generalize w.heap.size = b0 at *
      go_loopw [3, 12] (fun sv iv wr => ∃ j : Nat, j ≤ n ∧ iv = .int .i64 j ∧ sv = .int .i64 (0 + kindL 10 (t.ks.take j)) ∧ Gr W1 wr) (fun _ iv _ => n - (intOf iv).toNat)
      case atStart => exact ⟨0, Nat.zero_le _, rfl, by simp [kindL], Gr.refl _⟩
      case round =>
        obtain ⟨j, hj, rfl, rfl, hG⟩ := hrel
        by_cases hlt : j < n
        · obtain ⟨y, hy⟩ : ∃ y, t.ks[j]? = some y := ⟨t.ks[j]'(by have := HN.out; omega), List.getElem?_eq_getElem _⟩
          have HY := Lib.hid hy
          obtain ⟨bk, ok, d, hA, _, hbk, hce, hre⟩ := HK.out.gr hG j y hy
          subst hA
          clear hy
          have HE := Lib.hid hre
          obtain ⟨e0, e1, e2, e3, e4⟩ := hce
          have g0 := hG.cell k0
          have g1 := hG.cell k1
          have g2 := hG.cell k2
          have g3 := hG.cell k3
          have g4 := hG.cell k4
          have hlw : b0 < wr.heap.size := Gr.lt hG hb0
          have hlt1 : (j : Int) < (n : Int) := by omega
          clear hre
          have hst : kindL 10 (t.ks.take (j + 1)) = kindL 10 (t.ks.take j) + kindF 10 y := by
            rw [take_succ_at HY.out, kindL_app]
            simp [kindL]
          have HST := Lib.hid hst
          have hg1 := countL_get _ _ _ HY.out
          have hg2 := kindL_le 10 (t.ks.take j)
          have hg3 := kindF_le 10 y
          obtain ⟨a1, ha1⟩ : ∃ a, a = kindL 10 (t.ks.take j) := ⟨_, rfl⟩
          obtain ⟨a2, ha2⟩ : ∃ a, a = kindF 10 y := ⟨_, rfl⟩
          have hsum : 0 ≤ a1 ∧ 0 ≤ a2 ∧ a1 + a2 ≤ 1152921504606846976 ∧ countF y ≤ 1152921504606846976 := by
            have := HCB.out
            omega
          rw [← ha1]
          have HA1 := Lib.hid ha1
          have hcall := HI.out _ y (wr.alloc (.cells #[.int .i64 d.k, .string (bs d.l), .string (bs d.x), .slice d.A d.n d.c, .string (bs d.e)] 24)) ((HE.out).gr ((Gr.refl _).alloc _)) hsum.2.2.2
          rw [← ha2] at hcall
          have HCALL := Lib.hid hcall
          have HA2 := Lib.hid ha2
          clear hst hg1 hg2 hg3 ha1 ha2 hcall
          go_wp2_with (go_at_call 31; refine HCALL.out.mono ?_; rintro e w2 ⟨rfl, hb2⟩)
          go_roundw
          case rel => exact ⟨j + 1, by omega, by go_num, by rw [HST.out, ← HA1.out, ← HA2.out]; go_num, (by with_reducible (repeat (first | exact Gr.refl _ | assumption | apply Gr.alloc | apply Gr.drew | apply Gr.drewN | refine Gr.setCell ?_ (by first | (simp; done) | (simp; omega)) _ | refine Gr.trans ?_ (by assumption))))⟩
          case measure => simp [intOf] <;> omega
        · have hfin : 0 + kindL 10 (t.ks.take j) = kindF 10 t := by
            rw [HKE.out, List.take_of_length_le (by have := HN.out; omega)]
          have HF := Lib.hid hfin
          clear hfin
          have g0 := hG.cell k0
          have g3 := hG.cell k3
          have hlw : b0 < wr.heap.size := Gr.lt hG hb0
          go_wp2_with fail
          go_ret
          exact ⟨by rw [← HF.out]; rfl, hG1.trans hG⟩
set_option maxRecDepth 100000 in
set_option maxHeartbeats 1000000 in
theorem countKR_any (kd : Int) : ∀ (m : Nat) (v : ND) (t : NT) (w : World), NRep anyB m w v t → countF t ≤ 1152921504606846976 → Calls Try.prog 32 #[.agg #[.int .i64 v.k, .string (bs v.l), .string (bs v.x), .slice v.A v.n v.c, .string (bs v.e)], .int .i64 kd] w (RI (kindF kd t) w) := by
  intro m
  induction m with
  | zero => intro v t w h; exact h.elim
  | succ m ih =>
    intro v t w hr hcb
    obtain ⟨A, n, c, rfl, p1, p2, p3, p4, p5, p6, p7, p8, p9⟩ := hr.open5
    have hn63 : n ≤ maxLen := Nat.le_trans p2 p3
    have HXL := Lib.hid p6
    unfold maxLen at hn63 p3
    have HI := Lib.hid ih
    have HN := Lib.hid p1
    have HK0 : Hid (Kids anyB m w A t.ks) := Lib.hid p9
    clear ih hr p9 p8 p4 p5 p6 p7 p1
    dsimp only
    have HCB : Hid (countL t.ks ≤ 1152921504606846975) := Lib.hid (by rw [countF_eq] at hcb; omega)
    have HKE := Lib.hid (kindF_eq kd t)
    clear hcb
    by_cases hk : t.k = kd
    · have hk2 : (t.k == kd) = true := by simp [hk]
      rw [if_pos hk] at HKE
      have HKQ := Lib.hid hk
      clear hk
      go_enter Try.func32, Try.ntmps32
      go_wp2_with fail
      have hbx : NBox (w.alloc (.cells #[.int .i64 t.k, .string (bs t.l), .string (bs t.x), .slice A n c, .string (bs t.e)] 24)) w.heap.size ⟨t.k, t.l, t.x, A, n, c, t.e⟩ := heap_alloc_new _ _
      obtain ⟨k0, k1, k2, k3, k4⟩ := hbx.cells
      simp only at k0 k1 k2 k3 k4
      have hG1 : Gr w (w.alloc (.cells #[.int .i64 t.k, .string (bs t.l), .string (bs t.x), .slice A n c, .string (bs t.e)] 24)) := (Gr.refl w).alloc _
      have HK : Hid (Kids anyB m (w.alloc (.cells #[.int .i64 t.k, .string (bs t.l), .string (bs t.x), .slice A n c, .string (bs t.e)] 24)) A t.ks) := Lib.hid (HK0.out.gr hG1)
      have HBX := Lib.hid hbx
      have hb0 : w.heap.size < (w.alloc (.cells #[.int .i64 t.k, .string (bs t.l), .string (bs t.x), .slice A n c, .string (bs t.e)] 24)).heap.size := by simp
      clear hbx HK0
      generalize w.alloc (.cells #[.int .i64 t.k, .string (bs t.l), .string (bs t.x), .slice A n c, .string (bs t.e)] 24) = W1 at *
      generalize w.heap.size = b0 at *
      go_loopw [5, 6] (fun sv iv wr => ∃ j : Nat, j ≤ n ∧ iv = .int .i64 j ∧ sv = .int .i64 (1 + kindL kd (t.ks.take j)) ∧ Gr W1 wr) (fun _ iv _ => n - (intOf iv).toNat)
      case atStart => exact ⟨0, Nat.zero_le _, rfl, by simp [kindL], Gr.refl _⟩
      case round =>
        obtain ⟨j, hj, rfl, rfl, hG⟩ := hrel
        by_cases hlt : j < n
        · obtain ⟨y, hy⟩ : ∃ y, t.ks[j]? = some y := ⟨t.ks[j]'(by have := HN.out; omega), List.getElem?_eq_getElem _⟩
          have HY := Lib.hid hy
          obtain ⟨bk, ok, d, hA, _, hbk, hce, hre⟩ := HK.out.gr hG j y hy
          subst hA
          clear hy
          have HE := Lib.hid hre
          obtain ⟨e0, e1, e2, e3, e4⟩ := hce
          have g0 := hG.cell k0
          have g1 := hG.cell k1
          have g2 := hG.cell k2
          have g3 := hG.cell k3
          have g4 := hG.cell k4
          have hlw : b0 < wr.heap.size := Gr.lt hG hb0
          have hlt1 : (j : Int) < (n : Int) := by omega
          clear hre
          have hst : kindL kd (t.ks.take (j + 1)) = kindL kd (t.ks.take j) + kindF kd y := by
            rw [take_succ_at HY.out, kindL_app]
            simp [kindL]
          have HST := Lib.hid hst
          have hg1 := countL_get _ _ _ HY.out
          have hg2 := kindL_le kd (t.ks.take j)
          have hg3 := kindF_le kd y
          obtain ⟨a1, ha1⟩ : ∃ a, a = kindL kd (t.ks.take j) := ⟨_, rfl⟩
          obtain ⟨a2, ha2⟩ : ∃ a, a = kindF kd y := ⟨_, rfl⟩
          have hsum : 0 ≤ a1 ∧ 0 ≤ a2 ∧ a1 + a2 ≤ 1152921504606846976 ∧ countF y ≤ 1152921504606846976 := by
            have := HCB.out
            omega
          rw [← ha1]
          have HA1 := Lib.hid ha1
          have hcall := HI.out _ y wr HE.out hsum.2.2.2
          rw [← ha2] at hcall
          have HCALL := Lib.hid hcall
          have HA2 := Lib.hid ha2
          clear hst hg1 hg2 hg3 ha1 ha2 hcall
          go_wp2_with (go_at_call 32; refine HCALL.out.mono ?_; rintro e w2 ⟨rfl, hb2⟩)
          go_roundw
          case rel => exact ⟨j + 1, by omega, by go_num, by rw [HST.out, ← HA1.out, ← HA2.out]; go_num, (by with_reducible (repeat (first | exact Gr.refl _ | assumption | apply Gr.alloc | apply Gr.drew | apply Gr.drewN | refine Gr.setCell ?_ (by first | (simp; done) | (simp; omega)) _ | refine Gr.trans ?_ (by assumption))))⟩
          case measure => simp [intOf] <;> omega
        · have hfin : 1 + kindL kd (t.ks.take j) = kindF kd t := by
            rw [HKE.out, List.take_of_length_le (by have := HN.out; omega)]
          have HF := Lib.hid hfin
          clear hfin
          have g0 := hG.cell k0
          have g3 := hG.cell k3
          have hlw : b0 < wr.heap.size := Gr.lt hG hb0
          go_wp2_with fail
          go_ret
          exact ⟨by rw [← HF.out]; rfl, hG1.trans hG⟩
    · have hk2 : (t.k == kd) = false := by simp [hk]
      rw [if_neg hk] at HKE
      clear hk
      go_enter Try.func32, Try.ntmps32
      go_wp2_with fail
      have hbx : NBox (w.alloc (.cells #[.int .i64 t.k, .string (bs t.l), .string (bs t.x), .slice A n c, .string (bs t.e)] 24)) w.heap.size ⟨t.k, t.l, t.x, A, n, c, t.e⟩ := heap_alloc_new _ _
      obtain ⟨k0, k1, k2, k3, k4⟩ := hbx.cells
      simp only at k0 k1 k2 k3 k4
      have hG1 : Gr w (w.alloc (.cells #[.int .i64 t.k, .string (bs t.l), .string (bs t.x), .slice A n c, .string (bs t.e)] 24)) := (Gr.refl w).alloc _
      have HK : Hid (Kids anyB m (w.alloc (.cells #[.int .i64 t.k, .string (bs t.l), .string (bs t.x), .slice A n c, .string (bs t.e)] 24)) A t.ks) := Lib.hid (HK0.out.gr hG1)
      have HBX := Lib.hid hbx
      have hb0 : w.heap.size < (w.alloc (.cells #[.int .i64 t.k, .string (bs t.l), .string (bs t.x), .slice A n c, .string (bs t.e)] 24)).heap.size := by simp
      clear hbx HK0
      generalize w.alloc (.cells #[.int .i64 t.k, .string (bs t.l), .string (bs t.x), .slice A n c, .string (bs t.e)] 24) = W1 at *
      generalize w.heap.size = b0 at *
      go_loopw [5, 6] (fun sv iv wr => ∃ j : Nat, j ≤ n ∧ iv = .int .i64 j ∧ sv = .int .i64 (0 + kindL kd (t.ks.take j)) ∧ Gr W1 wr) (fun _ iv _ => n - (intOf iv).toNat)
      case atStart => exact ⟨0, Nat.zero_le _, rfl, by simp [kindL], Gr.refl _⟩
      case round =>
        obtain ⟨j, hj, rfl, rfl, hG⟩ := hrel
        by_cases hlt : j < n
        · obtain ⟨y, hy⟩ : ∃ y, t.ks[j]? = some y := ⟨t.ks[j]'(by have := HN.out; omega), List.getElem?_eq_getElem _⟩
          have HY := Lib.hid hy
          obtain ⟨bk, ok, d, hA, _, hbk, hce, hre⟩ := HK.out.gr hG j y hy
          subst hA
          clear hy
          have HE := Lib.hid hre
          obtain ⟨e0, e1, e2, e3, e4⟩ := hce
          have g0 := hG.cell k0
          have g1 := hG.cell k1
          have g2 := hG.cell k2
          have g3 := hG.cell k3
          have g4 := hG.cell k4
          have hlw : b0 < wr.heap.size := Gr.lt hG hb0
          have hlt1 : (j : Int) < (n : Int) := by omega
          clear hre
          have hst : kindL kd (t.ks.take (j + 1)) = kindL kd (t.ks.take j) + kindF kd y := by
            rw [take_succ_at HY.out, kindL_app]
            simp [kindL]
          have HST := Lib.hid hst
          have hg1 := countL_get _ _ _ HY.out
          have hg2 := kindL_le kd (t.ks.take j)
          have hg3 := kindF_le kd y
          obtain ⟨a1, ha1⟩ : ∃ a, a = kindL kd (t.ks.take j) := ⟨_, rfl⟩
          obtain ⟨a2, ha2⟩ : ∃ a, a = kindF kd y := ⟨_, rfl⟩
          have hsum : 0 ≤ a1 ∧ 0 ≤ a2 ∧ a1 + a2 ≤ 1152921504606846976 ∧ countF y ≤ 1152921504606846976 := by
            have := HCB.out
            omega
          rw [← ha1]
          have HA1 := Lib.hid ha1
          have hcall := HI.out _ y wr HE.out hsum.2.2.2
          rw [← ha2] at hcall
          have HCALL := Lib.hid hcall
          have HA2 := Lib.hid ha2
          clear hst hg1 hg2 hg3 ha1 ha2 hcall
          go_wp2_with (go_at_call 32; refine HCALL.out.mono ?_; rintro e w2 ⟨rfl, hb2⟩)
          go_roundw
          case rel => exact ⟨j + 1, by omega, by go_num, by rw [HST.out, ← HA1.out, ← HA2.out]; go_num, (by with_reducible (repeat (first | exact Gr.refl _ | assumption | apply Gr.alloc | apply Gr.drew | apply Gr.drewN | refine Gr.setCell ?_ (by first | (simp; done) | (simp; omega)) _ | refine Gr.trans ?_ (by assumption))))⟩
          case measure => simp [intOf] <;> omega
        · have hfin : 0 + kindL kd (t.ks.take j) = kindF kd t := by
            rw [HKE.out, List.take_of_length_le (by have := HN.out; omega)]
          have HF := Lib.hid hfin
          clear hfin
          have g0 := hG.cell k0
          have g3 := hG.cell k3
          have hlw : b0 < wr.heap.size := Gr.lt hG hb0
          go_wp2_with fail
          go_ret
          exact ⟨by rw [← HF.out]; rfl, hG1.trans hG⟩
set_option maxRecDepth 100000 in
set_option maxHeartbeats 1000000 in
theorem namedR_any (s : List UInt8) (m : Nat) (w : World) (hs : s.length ≤ maxLen) (hm : m < 256) : Calls Try.prog 54 #[.string (bs s), .int .u8 m] w (RB (namedB s m) w) := by
  have HS := Lib.hid hs
  unfold maxLen at hs
  generalize hQ : namedB s m = Q
  have HQ := Lib.hid hQ
  obtain ⟨n, hn⟩ : ∃ n, n = s.length := ⟨_, rfl⟩
  have hl : (bs s).size = n := hn.symm
  have HN := Lib.hid hn
  rw [← hn] at hs
  clear hn hQ
  go_enter Try.func54, Try.ntmps54
  by_cases h2 : 1 < n
  · obtain ⟨z0, hz0⟩ : ∃ z0, z0 = (s.getD 0 0).toNat := ⟨_, rfl⟩
    have hi0 : ∀ h : 0 < (bs s).size, ((bs s)[0]'h).toNat = z0 := fun h => by rw [hz0]; exact congrArg UInt8.toNat (bs_get h)
    have HZ0 := Lib.hid hz0
    clear hz0
    by_cases hzm : z0 = m
    · subst hzm
      have hcall := nameP_any (s.drop 1) w (Nat.le_trans (by rw [List.length_drop]; omega) HS.out)
      rw [← bs_drop1, hl] at hcall
      have hv : nameB (s.drop 1) = Q := by
        rw [← HQ.out]
        unfold nameB namedB
        have e1 : decide (s.drop 1 ≠ []) = true := decide_eq_true (fun h => by have h3 := congrArg List.length h; rw [List.length_drop, ← HN.out] at h3; simp at h3; omega)
        rw [e1, Bool.and_true, Bool.and_comm]
        congr 1
        refine decide_eq_decide.2 ?_
        rw [List.length_drop, ← HN.out, ← HZ0.out]
        omega
      rw [hv] at hcall
      have HC := Lib.hid hcall
      clear hcall hv
      go_wp2_with fail
      refine HC.out.mono ?_
      rintro e w1 ⟨rfl, hb1⟩
      go_wp2_with fail
      go_ret
      exact ⟨rfl, hb1⟩
    · have hne : ((z0 : Int) == (m : Int)) = false := by simp; omega
      go_wp2_with fail
      go_ret
      exact ⟨by rw [← HQ.out]; unfold namedB; rw [decide_eq_false (by rw [← HZ0.out]; omega)]; rfl, Gr.refl _⟩
  · have h2' : (1 < (n : Int)) = False := by simp; omega
    go_wp2_with fail
    go_ret
    exact ⟨by rw [← HQ.out]; unfold namedB; rw [decide_eq_false (by rw [← HN.out]; omega)]; rfl, Gr.refl _⟩
set_option maxRecDepth 100000 in
set_option maxHeartbeats 1000000 in
theorem markedP_any : ∀ (m : Nat) (v : ND) (t : NT) (w : World), NRep anyB m w v t → Calls Try.prog 44 #[.agg #[.int .i64 v.k, .string (bs v.l), .string (bs v.x), .slice v.A v.n v.c, .string (bs v.e)]] w (RB (markedB t) w) := by
  intro m
  induction m with
  | zero => intro v t w h; exact h.elim
  | succ m ih =>
    intro v t w hr
    obtain ⟨A, n, c, rfl, p1, p2, p3, p4, p5, p6, p7, p8, p9⟩ := hr.open5
    have hn63 : n ≤ maxLen := Nat.le_trans p2 p3
    have HXL := Lib.hid p6
    unfold maxLen at hn63 p3
    have HI := Lib.hid ih
    have HN := Lib.hid p1
    have HK0 : Hid (Kids anyB m w A t.ks) := Lib.hid p9
    clear ih hr p9 p8 p4 p5 p6 p7 p1
    dsimp only
    generalize hQ : markedB t = Q
    have HQ := Lib.hid hQ
    obtain ⟨q1, hq1⟩ : ∃ q, namedB t.x 38 = q := ⟨_, rfl⟩
    obtain ⟨q2, hq2⟩ : ∃ q, namedB t.x 42 = q := ⟨_, rfl⟩
    have hc1 := fun W => namedP_any t.x 38 W HXL.out (by decide)
    have hc2 := fun W => namedP_any t.x 42 W HXL.out (by decide)
    rw [hq1] at hc1
    rw [hq2] at hc2
    have HC1 := Lib.hid hc1
    have HC2 := Lib.hid hc2
    have HBB : Hid (badB t.k t.x t.ks.length = ((decide (t.k = 9) && (!q1 || decide (n ≠ 1))) || (decide (t.k = 10) && !q2))) := Lib.hid (by rw [badB, hq1, hq2, ← HN.out])
    clear hQ hq1 hq2 hc1 hc2
    by_cases h9 : t.k = 9
    · have r9 : (t.k == 9) = true := by simp [h9]
      have r10 : (t.k == 10) = false := by simp [h9]
      have HBB2 : Hid (badB t.k t.x t.ks.length = (!q1 || decide (n ≠ 1))) := Lib.hid (by rw [HBB.out, h9]; simp)
      clear h9 HBB
      go_enter Try.func44, Try.ntmps44
      go_wp2_with fail
      have hbx : NBox (w.alloc (.cells #[.int .i64 t.k, .string (bs t.l), .string (bs t.x), .slice A n c, .string (bs t.e)] 24)) w.heap.size ⟨t.k, t.l, t.x, A, n, c, t.e⟩ := heap_alloc_new _ _
      obtain ⟨k0, k1, k2, k3, k4⟩ := hbx.cells
      simp only at k0 k1 k2 k3 k4
      have hG1 : Gr w (w.alloc (.cells #[.int .i64 t.k, .string (bs t.l), .string (bs t.x), .slice A n c, .string (bs t.e)] 24)) := (Gr.refl w).alloc _
      have HK : Hid (Kids anyB m (w.alloc (.cells #[.int .i64 t.k, .string (bs t.l), .string (bs t.x), .slice A n c, .string (bs t.e)] 24)) A t.ks) := Lib.hid (HK0.out.gr hG1)
      have HBX := Lib.hid hbx
      have hb0 : w.heap.size < (w.alloc (.cells #[.int .i64 t.k, .string (bs t.l), .string (bs t.x), .slice A n c, .string (bs t.e)] 24)).heap.size := by simp
      clear hbx HK0
      generalize w.alloc (.cells #[.int .i64 t.k, .string (bs t.l), .string (bs t.x), .slice A n c, .string (bs t.e)] 24) = W1 at *
      generalize w.heap.size = b0 at *
      refine (HC1.out _).mono ?_
      rintro e w1 ⟨rfl, hb1⟩
      have hGa : Gr W1 w1 := hb1
      have l1 : b0 < w1.heap.size := Gr.lt hGa hb0
      have k3' := hGa.cell k3
      have k0' := hGa.cell k0
      cases q1 with
      | false =>
        have HBB3 : Hid (badB t.k t.x t.ks.length = true) := Lib.hid (by rw [HBB2.out]; rfl)
        have HB : Hid (Q = false) := Lib.hid (by rw [← HQ.out, markedB_eq, if_pos HBB3.out])
        go_wp2_with fail
        go_ret
        exact ⟨by rw [HB.out]; rfl, (by with_reducible (repeat (first | exact Gr.refl _ | assumption | apply Gr.alloc | apply Gr.drew | apply Gr.drewN | refine Gr.setCell ?_ (by first | (simp; done) | (simp; omega)) _ | refine Gr.trans ?_ (by assumption))))⟩
      | true =>
        by_cases hn1 : n = 1
        · have t1 : ((n : Int) != 1) = false := by simp; omega
          have HBB3 : Hid (badB t.k t.x t.ks.length = false) := Lib.hid (by rw [HBB2.out, decide_eq_false (by omega)]; rfl)
          have HML : Hid (markedL (t.ks.drop 0) = Q) := Lib.hid (by rw [List.drop_zero, ← HQ.out, markedB_eq, if_neg (by simp [HBB3.out])])
          clear hn1
          go_wp2_with fail
          go_loopw [34] (fun iv wr => ∃ j : Nat, j ≤ n ∧ iv = .int .i64 j ∧ markedL (t.ks.drop j) = Q ∧ Gr W1 wr) (fun iv _ => n - (intOf iv).toNat)
          case atStart => exact ⟨0, Nat.zero_le _, rfl, HML.out, (by with_reducible first | exact Gr.refl _ | assumption)⟩
          case round =>
            obtain ⟨j, hj, rfl, hml, hG⟩ := hrel
            have HJ := Lib.hid hml
            clear hml
            by_cases hlt : j < n
            · obtain ⟨y, hy⟩ : ∃ y, t.ks[j]? = some y := ⟨t.ks[j]'(by have := HN.out; omega), List.getElem?_eq_getElem _⟩
              have HY := Lib.hid hy
              obtain ⟨bk, ok, d, hA, _, hbk, hce, hre⟩ := HK.out.gr hG j y hy
              subst hA
              clear hy
              have HE := Lib.hid hre
              obtain ⟨e0, e1, e2, e3, e4⟩ := hce
              have g0 := hG.cell k0
              have g1 := hG.cell k1
              have g2 := hG.cell k2
              have g3 := hG.cell k3
              have g4 := hG.cell k4
              have hlw : b0 < wr.heap.size := Gr.lt hG hb0
              have hlt1 : (j : Int) < (n : Int) := by omega
              clear hre
              have hst := markedL_drop t.ks HY.out
              obtain ⟨b, hbq⟩ : ∃ b, markedB y = b := ⟨_, rfl⟩
              have hcall := HI.out _ y (wr.alloc (.cells #[.int .i64 d.k, .string (bs d.l), .string (bs d.x), .slice d.A d.n d.c, .string (bs d.e)] 24)) ((HE.out).gr ((Gr.refl _).alloc _))
              rw [hbq] at hst hcall
              have HST := Lib.hid hst
              have HCALL := Lib.hid hcall
              clear hst hcall hbq
              cases b with
              | true =>
                have HT : Hid (markedL (t.ks.drop (j + 1)) = Q) := Lib.hid (by rw [← HJ.out, HST.out, if_pos rfl])
                go_wp2_with (go_at_call 44; refine HCALL.out.mono ?_; rintro e w2 ⟨rfl, hb2⟩)
                go_roundw
                case rel => exact ⟨j + 1, by omega, by go_num, HT.out, (by with_reducible (repeat (first | exact Gr.refl _ | assumption | apply Gr.alloc | apply Gr.drew | apply Gr.drewN | refine Gr.setCell ?_ (by first | (simp; done) | (simp; omega)) _ | refine Gr.trans ?_ (by assumption))))⟩
                case measure => simp [intOf] <;> omega
              | false =>
                have HT : Hid (Q = false) := Lib.hid (by rw [← HJ.out, HST.out, if_neg (by decide)])
                go_wp2_with (go_at_call 44; refine HCALL.out.mono ?_; rintro e w2 ⟨rfl, hb2⟩)
                go_ret
                exact ⟨by rw [HT.out]; rfl, (by with_reducible (repeat (first | exact Gr.refl _ | assumption | apply Gr.alloc | apply Gr.drew | apply Gr.drewN | refine Gr.setCell ?_ (by first | (simp; done) | (simp; omega)) _ | refine Gr.trans ?_ (by assumption))))⟩
            · have hd : t.ks.drop j = [] := List.drop_eq_nil_of_le (by rw [← HN.out]; omega)
              have HT : Hid (Q = true) := Lib.hid (by rw [← HJ.out, hd]; rfl)
              clear hd
              have g0 := hG.cell k0
              have g3 := hG.cell k3
              have hlw : b0 < wr.heap.size := Gr.lt hG hb0
              go_wp2_with fail
              go_ret
              exact ⟨by rw [HT.out]; rfl, (by with_reducible (repeat (first | exact Gr.refl _ | assumption | apply Gr.alloc | apply Gr.drew | apply Gr.drewN | refine Gr.setCell ?_ (by first | (simp; done) | (simp; omega)) _ | refine Gr.trans ?_ (by assumption))))⟩
        · have t1 : ((n : Int) != 1) = true := by simp; omega
          have HBB3 : Hid (badB t.k t.x t.ks.length = true) := Lib.hid (by rw [HBB2.out, decide_eq_true hn1]; rfl)
          have HB : Hid (Q = false) := Lib.hid (by rw [← HQ.out, markedB_eq, if_pos HBB3.out])
          go_wp2_with fail
          go_ret
          exact ⟨by rw [HB.out]; rfl, (by with_reducible (repeat (first | exact Gr.refl _ | assumption | apply Gr.alloc | apply Gr.drew | apply Gr.drewN | refine Gr.setCell ?_ (by first | (simp; done) | (simp; omega)) _ | refine Gr.trans ?_ (by assumption))))⟩
    · have r9 : (t.k == 9) = false := by simp [h9]
      by_cases h10 : t.k = 10
      · have r10 : (t.k == 10) = true := by simp [h10]
        have HBB2 : Hid (badB t.k t.x t.ks.length = !q2) := Lib.hid (by rw [HBB.out, h10]; simp)
        clear h9 h10 HBB
        go_enter Try.func44, Try.ntmps44
        go_wp2_with fail
        have hbx : NBox (w.alloc (.cells #[.int .i64 t.k, .string (bs t.l), .string (bs t.x), .slice A n c, .string (bs t.e)] 24)) w.heap.size ⟨t.k, t.l, t.x, A, n, c, t.e⟩ := heap_alloc_new _ _
        obtain ⟨k0, k1, k2, k3, k4⟩ := hbx.cells
        simp only at k0 k1 k2 k3 k4
        have hG1 : Gr w (w.alloc (.cells #[.int .i64 t.k, .string (bs t.l), .string (bs t.x), .slice A n c, .string (bs t.e)] 24)) := (Gr.refl w).alloc _
        have HK : Hid (Kids anyB m (w.alloc (.cells #[.int .i64 t.k, .string (bs t.l), .string (bs t.x), .slice A n c, .string (bs t.e)] 24)) A t.ks) := Lib.hid (HK0.out.gr hG1)
        have HBX := Lib.hid hbx
        have hb0 : w.heap.size < (w.alloc (.cells #[.int .i64 t.k, .string (bs t.l), .string (bs t.x), .slice A n c, .string (bs t.e)] 24)).heap.size := by simp
        clear hbx HK0
        generalize w.alloc (.cells #[.int .i64 t.k, .string (bs t.l), .string (bs t.x), .slice A n c, .string (bs t.e)] 24) = W1 at *
        generalize w.heap.size = b0 at *
        refine (HC2.out _).mono ?_
        rintro e w1 ⟨rfl, hb1⟩
        have hGa : Gr W1 w1 := hb1
        have l1 : b0 < w1.heap.size := Gr.lt hGa hb0
        have k3' := hGa.cell k3
        have k0' := hGa.cell k0
        cases q2 with
        | false =>
          have HBB3 : Hid (badB t.k t.x t.ks.length = true) := Lib.hid (by rw [HBB2.out]; rfl)
          have HB : Hid (Q = false) := Lib.hid (by rw [← HQ.out, markedB_eq, if_pos HBB3.out])
          go_wp2_with fail
          go_ret
          exact ⟨by rw [HB.out]; rfl, (by with_reducible (repeat (first | exact Gr.refl _ | assumption | apply Gr.alloc | apply Gr.drew | apply Gr.drewN | refine Gr.setCell ?_ (by first | (simp; done) | (simp; omega)) _ | refine Gr.trans ?_ (by assumption))))⟩
        | true =>
          have HBB3 : Hid (badB t.k t.x t.ks.length = false) := Lib.hid (by rw [HBB2.out]; rfl)
          have HML : Hid (markedL (t.ks.drop 0) = Q) := Lib.hid (by rw [List.drop_zero, ← HQ.out, markedB_eq, if_neg (by simp [HBB3.out])])
          go_wp2_with fail
          go_loopw [34] (fun iv wr => ∃ j : Nat, j ≤ n ∧ iv = .int .i64 j ∧ markedL (t.ks.drop j) = Q ∧ Gr W1 wr) (fun iv _ => n - (intOf iv).toNat)
          case atStart => exact ⟨0, Nat.zero_le _, rfl, HML.out, (by with_reducible first | exact Gr.refl _ | assumption)⟩
          case round =>
            obtain ⟨j, hj, rfl, hml, hG⟩ := hrel
            have HJ := Lib.hid hml
            clear hml
            by_cases hlt : j < n
            · obtain ⟨y, hy⟩ : ∃ y, t.ks[j]? = some y := ⟨t.ks[j]'(by have := HN.out; omega), List.getElem?_eq_getElem _⟩
              have HY := Lib.hid hy
              obtain ⟨bk, ok, d, hA, _, hbk, hce, hre⟩ := HK.out.gr hG j y hy
              subst hA
              clear hy
              have HE := Lib.hid hre
              obtain ⟨e0, e1, e2, e3, e4⟩ := hce
              have g0 := hG.cell k0
              have g1 := hG.cell k1
              have g2 := hG.cell k2
              have g3 := hG.cell k3
              have g4 := hG.cell k4
              have hlw : b0 < wr.heap.size := Gr.lt hG hb0
              have hlt1 : (j : Int) < (n : Int) := by omega
              clear hre
              have hst := markedL_drop t.ks HY.out
              obtain ⟨b, hbq⟩ : ∃ b, markedB y = b := ⟨_, rfl⟩
              have hcall := HI.out _ y (wr.alloc (.cells #[.int .i64 d.k, .string (bs d.l), .string (bs d.x), .slice d.A d.n d.c, .string (bs d.e)] 24)) ((HE.out).gr ((Gr.refl _).alloc _))
              rw [hbq] at hst hcall
              have HST := Lib.hid hst
              have HCALL := Lib.hid hcall
              clear hst hcall hbq
              cases b with
              | true =>
                have HT : Hid (markedL (t.ks.drop (j + 1)) = Q) := Lib.hid (by rw [← HJ.out, HST.out, if_pos rfl])
                go_wp2_with (go_at_call 44; refine HCALL.out.mono ?_; rintro e w2 ⟨rfl, hb2⟩)
                go_roundw
                case rel => exact ⟨j + 1, by omega, by go_num, HT.out, (by with_reducible (repeat (first | exact Gr.refl _ | assumption | apply Gr.alloc | apply Gr.drew | apply Gr.drewN | refine Gr.setCell ?_ (by first | (simp; done) | (simp; omega)) _ | refine Gr.trans ?_ (by assumption))))⟩
                case measure => simp [intOf] <;> omega
              | false =>
                have HT : Hid (Q = false) := Lib.hid (by rw [← HJ.out, HST.out, if_neg (by decide)])
                go_wp2_with (go_at_call 44; refine HCALL.out.mono ?_; rintro e w2 ⟨rfl, hb2⟩)
                go_ret
                exact ⟨by rw [HT.out]; rfl, (by with_reducible (repeat (first | exact Gr.refl _ | assumption | apply Gr.alloc | apply Gr.drew | apply Gr.drewN | refine Gr.setCell ?_ (by first | (simp; done) | (simp; omega)) _ | refine Gr.trans ?_ (by assumption))))⟩
            · have hd : t.ks.drop j = [] := List.drop_eq_nil_of_le (by rw [← HN.out]; omega)
              have HT : Hid (Q = true) := Lib.hid (by rw [← HJ.out, hd]; rfl)
              clear hd
              have g0 := hG.cell k0
              have g3 := hG.cell k3
              have hlw : b0 < wr.heap.size := Gr.lt hG hb0
              go_wp2_with fail
              go_ret
              exact ⟨by rw [HT.out]; rfl, (by with_reducible (repeat (first | exact Gr.refl _ | assumption | apply Gr.alloc | apply Gr.drew | apply Gr.drewN | refine Gr.setCell ?_ (by first | (simp; done) | (simp; omega)) _ | refine Gr.trans ?_ (by assumption))))⟩
      · have r10 : (t.k == 10) = false := by simp [h10]
        have HBB2 : Hid (badB t.k t.x t.ks.length = false) := Lib.hid (by rw [HBB.out, decide_eq_false h9, decide_eq_false h10]; rfl)
        have HML : Hid (markedL (t.ks.drop 0) = Q) := Lib.hid (by rw [List.drop_zero, ← HQ.out, markedB_eq, if_neg (by simp [HBB2.out])])
        clear h9 h10 HBB
        go_enter Try.func44, Try.ntmps44
        go_wp2_with fail
        have hbx : NBox (w.alloc (.cells #[.int .i64 t.k, .string (bs t.l), .string (bs t.x), .slice A n c, .string (bs t.e)] 24)) w.heap.size ⟨t.k, t.l, t.x, A, n, c, t.e⟩ := heap_alloc_new _ _
        obtain ⟨k0, k1, k2, k3, k4⟩ := hbx.cells
        simp only at k0 k1 k2 k3 k4
        have hG1 : Gr w (w.alloc (.cells #[.int .i64 t.k, .string (bs t.l), .string (bs t.x), .slice A n c, .string (bs t.e)] 24)) := (Gr.refl w).alloc _
        have HK : Hid (Kids anyB m (w.alloc (.cells #[.int .i64 t.k, .string (bs t.l), .string (bs t.x), .slice A n c, .string (bs t.e)] 24)) A t.ks) := Lib.hid (HK0.out.gr hG1)
        have HBX := Lib.hid hbx
        have hb0 : w.heap.size < (w.alloc (.cells #[.int .i64 t.k, .string (bs t.l), .string (bs t.x), .slice A n c, .string (bs t.e)] 24)).heap.size := by simp
        clear hbx HK0
        generalize w.alloc (.cells #[.int .i64 t.k, .string (bs t.l), .string (bs t.x), .slice A n c, .string (bs t.e)] 24) = W1 at *
        generalize w.heap.size = b0 at *
        go_loopw [34] (fun iv wr => ∃ j : Nat, j ≤ n ∧ iv = .int .i64 j ∧ markedL (t.ks.drop j) = Q ∧ Gr W1 wr) (fun iv _ => n - (intOf iv).toNat)
        case atStart => exact ⟨0, Nat.zero_le _, rfl, HML.out, (by with_reducible first | exact Gr.refl _ | assumption)⟩
        case round =>
          obtain ⟨j, hj, rfl, hml, hG⟩ := hrel
          have HJ := Lib.hid hml
          clear hml
          by_cases hlt : j < n
          · obtain ⟨y, hy⟩ : ∃ y, t.ks[j]? = some y := ⟨t.ks[j]'(by have := HN.out; omega), List.getElem?_eq_getElem _⟩
            have HY := Lib.hid hy
            obtain ⟨bk, ok, d, hA, _, hbk, hce, hre⟩ := HK.out.gr hG j y hy
            subst hA
            clear hy
            have HE := Lib.hid hre
            obtain ⟨e0, e1, e2, e3, e4⟩ := hce
            have g0 := hG.cell k0
            have g1 := hG.cell k1
            have g2 := hG.cell k2
            have g3 := hG.cell k3
            have g4 := hG.cell k4
            have hlw : b0 < wr.heap.size := Gr.lt hG hb0
            have hlt1 : (j : Int) < (n : Int) := by omega
            clear hre
            have hst := markedL_drop t.ks HY.out
            obtain ⟨b, hbq⟩ : ∃ b, markedB y = b := ⟨_, rfl⟩
            have hcall := HI.out _ y (wr.alloc (.cells #[.int .i64 d.k, .string (bs d.l), .string (bs d.x), .slice d.A d.n d.c, .string (bs d.e)] 24)) ((HE.out).gr ((Gr.refl _).alloc _))
            rw [hbq] at hst hcall
            have HST := Lib.hid hst
            have HCALL := Lib.hid hcall
            clear hst hcall hbq
            cases b with
            | true =>
              have HT : Hid (markedL (t.ks.drop (j + 1)) = Q) := Lib.hid (by rw [← HJ.out, HST.out, if_pos rfl])
              go_wp2_with (go_at_call 44; refine HCALL.out.mono ?_; rintro e w2 ⟨rfl, hb2⟩)
              go_roundw
              case rel => exact ⟨j + 1, by omega, by go_num, HT.out, (by with_reducible (repeat (first | exact Gr.refl _ | assumption | apply Gr.alloc | apply Gr.drew | apply Gr.drewN | refine Gr.setCell ?_ (by first | (simp; done) | (simp; omega)) _ | refine Gr.trans ?_ (by assumption))))⟩
              case measure => simp [intOf] <;> omega
            | false =>
              have HT : Hid (Q = false) := Lib.hid (by rw [← HJ.out, HST.out, if_neg (by decide)])
              go_wp2_with (go_at_call 44; refine HCALL.out.mono ?_; rintro e w2 ⟨rfl, hb2⟩)
              go_ret
              exact ⟨by rw [HT.out]; rfl, (by with_reducible (repeat (first | exact Gr.refl _ | assumption | apply Gr.alloc | apply Gr.drew | apply Gr.drewN | refine Gr.setCell ?_ (by first | (simp; done) | (simp; omega)) _ | refine Gr.trans ?_ (by assumption))))⟩
          · have hd : t.ks.drop j = [] := List.drop_eq_nil_of_le (by rw [← HN.out]; omega)
            have HT : Hid (Q = true) := Lib.hid (by rw [← HJ.out, hd]; rfl)
            clear hd
            have g0 := hG.cell k0
            have g3 := hG.cell k3
            have hlw : b0 < wr.heap.size := Gr.lt hG hb0
            go_wp2_with fail
            go_ret
            exact ⟨by rw [HT.out]; rfl, (by with_reducible (repeat (first | exact Gr.refl _ | assumption | apply Gr.alloc | apply Gr.drew | apply Gr.drewN | refine Gr.setCell ?_ (by first | (simp; done) | (simp; omega)) _ | refine Gr.trans ?_ (by assumption))))⟩
set_option maxRecDepth 100000 in
set_option maxHeartbeats 1000000 in
theorem markedR_any : ∀ (m : Nat) (v : ND) (t : NT) (w : World), NRep anyB m w v t → Calls Try.prog 46 #[.agg #[.int .i64 v.k, .string (bs v.l), .string (bs v.x), .slice v.A v.n v.c, .string (bs v.e)]] w (RB (markedB t) w) := by
  intro m
  induction m with
  | zero => intro v t w h; exact h.elim
  | succ m ih =>
    intro v t w hr
    obtain ⟨A, n, c, rfl, p1, p2, p3, p4, p5, p6, p7, p8, p9⟩ := hr.open5
    have hn63 : n ≤ maxLen := Nat.le_trans p2 p3
    have HXL := Lib.hid p6
    unfold maxLen at hn63 p3
    have HI := Lib.hid ih
    have HN := Lib.hid p1
    have HK0 : Hid (Kids anyB m w A t.ks) := Lib.hid p9
    clear ih hr p9 p8 p4 p5 p6 p7 p1
    dsimp only
    generalize hQ : markedB t = Q
    have HQ := Lib.hid hQ
    obtain ⟨q1, hq1⟩ : ∃ q, namedB t.x 38 = q := ⟨_, rfl⟩
    obtain ⟨q2, hq2⟩ : ∃ q, namedB t.x 42 = q := ⟨_, rfl⟩
    have hc1 := fun W => namedR_any t.x 38 W HXL.out (by decide)
    have hc2 := fun W => namedR_any t.x 42 W HXL.out (by decide)
    rw [hq1] at hc1
    rw [hq2] at hc2
    have HC1 := Lib.hid hc1
    have HC2 := Lib.hid hc2
    have HBB : Hid (badB t.k t.x t.ks.length = ((decide (t.k = 9) && (!q1 || decide (n ≠ 1))) || (decide (t.k = 10) && !q2))) := Lib.hid (by rw [badB, hq1, hq2, ← HN.out])
    clear hQ hq1 hq2 hc1 hc2
    by_cases h9 : t.k = 9
    · have r9 : (t.k == 9) = true := by simp [h9]
      have r10 : (t.k == 10) = false := by simp [h9]
      have HBB2 : Hid (badB t.k t.x t.ks.length = (!q1 || decide (n ≠ 1))) := Lib.hid (by rw [HBB.out, h9]; simp)
      clear h9 HBB
      go_enter Try.func46, Try.ntmps46
      go_wp2_with fail
      have hbx : NBox (w.alloc (.cells #[.int .i64 t.k, .string (bs t.l), .string (bs t.x), .slice A n c, .string (bs t.e)] 24)) w.heap.size ⟨t.k, t.l, t.x, A, n, c, t.e⟩ := heap_alloc_new _ _
      obtain ⟨k0, k1, k2, k3, k4⟩ := hbx.cells
      simp only at k0 k1 k2 k3 k4
      have hG1 : Gr w (w.alloc (.cells #[.int .i64 t.k, .string (bs t.l), .string (bs t.x), .slice A n c, .string (bs t.e)] 24)) := (Gr.refl w).alloc _
      have HK : Hid (Kids anyB m (w.alloc (.cells #[.int .i64 t.k, .string (bs t.l), .string (bs t.x), .slice A n c, .string (bs t.e)] 24)) A t.ks) := Lib.hid (HK0.out.gr hG1)
      have HBX := Lib.hid hbx
      have hb0 : w.heap.size < (w.alloc (.cells #[.int .i64 t.k, .string (bs t.l), .string (bs t.x), .slice A n c, .string (bs t.e)] 24)).heap.size := by simp
      clear hbx HK0
      generalize w.alloc (.cells #[.int .i64 t.k, .string (bs t.l), .string (bs t.x), .slice A n c, .string (bs t.e)] 24) = W1 at *
      generalize w.heap.size = b0 at *
      refine (HC1.out _).mono ?_
      rintro e w1 ⟨rfl, hb1⟩
      have hGa : Gr W1 w1 := hb1
      have l1 : b0 < w1.heap.size := Gr.lt hGa hb0
      have k3' := hGa.cell k3
      have k0' := hGa.cell k0
      cases q1 with
      | false =>
        have HBB3 : Hid (badB t.k t.x t.ks.length = true) := Lib.hid (by rw [HBB2.out]; rfl)
        have HB : Hid (Q = false) := Lib.hid (by rw [← HQ.out, markedB_eq, if_pos HBB3.out])
        go_wp2_with fail
        go_ret
        exact ⟨by rw [HB.out]; rfl, (by with_reducible (repeat (first | exact Gr.refl _ | assumption | apply Gr.alloc | apply Gr.drew | apply Gr.drewN | refine Gr.setCell ?_ (by first | (simp; done) | (simp; omega)) _ | refine Gr.trans ?_ (by assumption))))⟩
      | true =>
        by_cases hn1 : n = 1
        · have t1 : ((n : Int) != 1) = false := by simp; omega
          have HBB3 : Hid (badB t.k t.x t.ks.length = false) := Lib.hid (by rw [HBB2.out, decide_eq_false (by omega)]; rfl)
          have HML : Hid (markedL (t.ks.drop 0) = Q) := Lib.hid (by rw [List.drop_zero, ← HQ.out, markedB_eq, if_neg (by simp [HBB3.out])])
          clear hn1
          go_wp2_with fail
          go_loopw [3] (fun iv wr => ∃ j : Nat, j ≤ n ∧ iv = .int .i64 j ∧ markedL (t.ks.drop j) = Q ∧ Gr W1 wr) (fun iv _ => n - (intOf iv).toNat)
          case atStart => exact ⟨0, Nat.zero_le _, rfl, HML.out, (by with_reducible first | exact Gr.refl _ | assumption)⟩
          case round =>
            obtain ⟨j, hj, rfl, hml, hG⟩ := hrel
            have HJ := Lib.hid hml
            clear hml
            by_cases hlt : j < n
            · obtain ⟨y, hy⟩ : ∃ y, t.ks[j]? = some y := ⟨t.ks[j]'(by have := HN.out; omega), List.getElem?_eq_getElem _⟩
              have HY := Lib.hid hy
              obtain ⟨bk, ok, d, hA, _, hbk, hce, hre⟩ := HK.out.gr hG j y hy
              subst hA
              clear hy
              have HE := Lib.hid hre
              obtain ⟨e0, e1, e2, e3, e4⟩ := hce
              have g0 := hG.cell k0
              have g1 := hG.cell k1
              have g2 := hG.cell k2
              have g3 := hG.cell k3
              have g4 := hG.cell k4
              have hlw : b0 < wr.heap.size := Gr.lt hG hb0
              have hlt1 : (j : Int) < (n : Int) := by omega
              clear hre
              have hst := markedL_drop t.ks HY.out
              obtain ⟨b, hbq⟩ : ∃ b, markedB y = b := ⟨_, rfl⟩
              have hcall := HI.out _ y wr HE.out
              rw [hbq] at hst hcall
              have HST := Lib.hid hst
              have HCALL := Lib.hid hcall
              clear hst hcall hbq
              cases b with
              | true =>
                have HT : Hid (markedL (t.ks.drop (j + 1)) = Q) := Lib.hid (by rw [← HJ.out, HST.out, if_pos rfl])
                go_wp2_with (go_at_call 46; refine HCALL.out.mono ?_; rintro e w2 ⟨rfl, hb2⟩)
                go_roundw
                case rel => exact ⟨j + 1, by omega, by go_num, HT.out, (by with_reducible (repeat (first | exact Gr.refl _ | assumption | apply Gr.alloc | apply Gr.drew | apply Gr.drewN | refine Gr.setCell ?_ (by first | (simp; done) | (simp; omega)) _ | refine Gr.trans ?_ (by assumption))))⟩
                case measure => simp [intOf] <;> omega
              | false =>
                have HT : Hid (Q = false) := Lib.hid (by rw [← HJ.out, HST.out, if_neg (by decide)])
                go_wp2_with (go_at_call 46; refine HCALL.out.mono ?_; rintro e w2 ⟨rfl, hb2⟩)
                go_ret
                exact ⟨by rw [HT.out]; rfl, (by with_reducible (repeat (first | exact Gr.refl _ | assumption | apply Gr.alloc | apply Gr.drew | apply Gr.drewN | refine Gr.setCell ?_ (by first | (simp; done) | (simp; omega)) _ | refine Gr.trans ?_ (by assumption))))⟩
            · have hd : t.ks.drop j = [] := List.drop_eq_nil_of_le (by rw [← HN.out]; omega)
              have HT : Hid (Q = true) := Lib.hid (by rw [← HJ.out, hd]; rfl)
              clear hd
              have g0 := hG.cell k0
              have g3 := hG.cell k3
              have hlw : b0 < wr.heap.size := Gr.lt hG hb0
              go_wp2_with fail
              go_ret
              exact ⟨by rw [HT.out]; rfl, (by with_reducible (repeat (first | exact Gr.refl _ | assumption | apply Gr.alloc | apply Gr.drew | apply Gr.drewN | refine Gr.setCell ?_ (by first | (simp; done) | (simp; omega)) _ | refine Gr.trans ?_ (by assumption))))⟩
        · have t1 : ((n : Int) != 1) = true := by simp; omega
          have HBB3 : Hid (badB t.k t.x t.ks.length = true) := Lib.hid (by rw [HBB2.out, decide_eq_true hn1]; rfl)
          have HB : Hid (Q = false) := Lib.hid (by rw [← HQ.out, markedB_eq, if_pos HBB3.out])
          go_wp2_with fail
          go_ret
          exact ⟨by rw [HB.out]; rfl, (by with_reducible (repeat (first | exact Gr.refl _ | assumption | apply Gr.alloc | apply Gr.drew | apply Gr.drewN | refine Gr.setCell ?_ (by first | (simp; done) | (simp; omega)) _ | refine Gr.trans ?_ (by assumption))))⟩
    · have r9 : (t.k == 9) = false := by simp [h9]
      by_cases h10 : t.k = 10
      · have r10 : (t.k == 10) = true := by simp [h10]
        have HBB2 : Hid (badB t.k t.x t.ks.length = !q2) := Lib.hid (by rw [HBB.out, h10]; simp)
        clear h9 h10 HBB
        go_enter Try.func46, Try.ntmps46
        go_wp2_with fail
        have hbx : NBox (w.alloc (.cells #[.int .i64 t.k, .string (bs t.l), .string (bs t.x), .slice A n c, .string (bs t.e)] 24)) w.heap.size ⟨t.k, t.l, t.x, A, n, c, t.e⟩ := heap_alloc_new _ _
        obtain ⟨k0, k1, k2, k3, k4⟩ := hbx.cells
        simp only at k0 k1 k2 k3 k4
        have hG1 : Gr w (w.alloc (.cells #[.int .i64 t.k, .string (bs t.l), .string (bs t.x), .slice A n c, .string (bs t.e)] 24)) := (Gr.refl w).alloc _
        have HK : Hid (Kids anyB m (w.alloc (.cells #[.int .i64 t.k, .string (bs t.l), .string (bs t.x), .slice A n c, .string (bs t.e)] 24)) A t.ks) := Lib.hid (HK0.out.gr hG1)
        have HBX := Lib.hid hbx
        have hb0 : w.heap.size < (w.alloc (.cells #[.int .i64 t.k, .string (bs t.l), .string (bs t.x), .slice A n c, .string (bs t.e)] 24)).heap.size := by simp
        clear hbx HK0
        generalize w.alloc (.cells #[.int .i64 t.k, .string (bs t.l), .string (bs t.x), .slice A n c, .string (bs t.e)] 24) = W1 at *
        generalize w.heap.size = b0 at *
        refine (HC2.out _).mono ?_
        rintro e w1 ⟨rfl, hb1⟩
        have hGa : Gr W1 w1 := hb1
        have l1 : b0 < w1.heap.size := Gr.lt hGa hb0
        have k3' := hGa.cell k3
        have k0' := hGa.cell k0
        cases q2 with
        | false =>
          have HBB3 : Hid (badB t.k t.x t.ks.length = true) := Lib.hid (by rw [HBB2.out]; rfl)
          have HB : Hid (Q = false) := Lib.hid (by rw [← HQ.out, markedB_eq, if_pos HBB3.out])
          go_wp2_with fail
          go_ret
          exact ⟨by rw [HB.out]; rfl, (by with_reducible (repeat (first | exact Gr.refl _ | assumption | apply Gr.alloc | apply Gr.drew | apply Gr.drewN | refine Gr.setCell ?_ (by first | (simp; done) | (simp; omega)) _ | refine Gr.trans ?_ (by assumption))))⟩
        | true =>
          have HBB3 : Hid (badB t.k t.x t.ks.length = false) := Lib.hid (by rw [HBB2.out]; rfl)
          have HML : Hid (markedL (t.ks.drop 0) = Q) := Lib.hid (by rw [List.drop_zero, ← HQ.out, markedB_eq, if_neg (by simp [HBB3.out])])
          go_wp2_with fail
          go_loopw [3] (fun iv wr => ∃ j : Nat, j ≤ n ∧ iv = .int .i64 j ∧ markedL (t.ks.drop j) = Q ∧ Gr W1 wr) (fun iv _ => n - (intOf iv).toNat)
          case atStart => exact ⟨0, Nat.zero_le _, rfl, HML.out, (by with_reducible first | exact Gr.refl _ | assumption)⟩
          case round =>
            obtain ⟨j, hj, rfl, hml, hG⟩ := hrel
            have HJ := Lib.hid hml
            clear hml
            by_cases hlt : j < n
            · obtain ⟨y, hy⟩ : ∃ y, t.ks[j]? = some y := ⟨t.ks[j]'(by have := HN.out; omega), List.getElem?_eq_getElem _⟩
              have HY := Lib.hid hy
              obtain ⟨bk, ok, d, hA, _, hbk, hce, hre⟩ := HK.out.gr hG j y hy
              subst hA
              clear hy
              have HE := Lib.hid hre
              obtain ⟨e0, e1, e2, e3, e4⟩ := hce
              have g0 := hG.cell k0
              have g1 := hG.cell k1
              have g2 := hG.cell k2
              have g3 := hG.cell k3
              have g4 := hG.cell k4
              have hlw : b0 < wr.heap.size := Gr.lt hG hb0
              have hlt1 : (j : Int) < (n : Int) := by omega
              clear hre
              have hst := markedL_drop t.ks HY.out
              obtain ⟨b, hbq⟩ : ∃ b, markedB y = b := ⟨_, rfl⟩
              have hcall := HI.out _ y wr HE.out
              rw [hbq] at hst hcall
              have HST := Lib.hid hst
              have HCALL := Lib.hid hcall
              clear hst hcall hbq
              cases b with
              | true =>
                have HT : Hid (markedL (t.ks.drop (j + 1)) = Q) := Lib.hid (by rw [← HJ.out, HST.out, if_pos rfl])
                go_wp2_with (go_at_call 46; refine HCALL.out.mono ?_; rintro e w2 ⟨rfl, hb2⟩)
                go_roundw
                case rel => exact ⟨j + 1, by omega, by go_num, HT.out, (by with_reducible (repeat (first | exact Gr.refl _ | assumption | apply Gr.alloc | apply Gr.drew | apply Gr.drewN | refine Gr.setCell ?_ (by first | (simp; done) | (simp; omega)) _ | refine Gr.trans ?_ (by assumption))))⟩
                case measure => simp [intOf] <;> omega
              | false =>
                have HT : Hid (Q = false) := Lib.hid (by rw [← HJ.out, HST.out, if_neg (by decide)])
                go_wp2_with (go_at_call 46; refine HCALL.out.mono ?_; rintro e w2 ⟨rfl, hb2⟩)
                go_ret
                exact ⟨by rw [HT.out]; rfl, (by with_reducible (repeat (first | exact Gr.refl _ | assumption | apply Gr.alloc | apply Gr.drew | apply Gr.drewN | refine Gr.setCell ?_ (by first | (simp; done) | (simp; omega)) _ | refine Gr.trans ?_ (by assumption))))⟩
            · have hd : t.ks.drop j = [] := List.drop_eq_nil_of_le (by rw [← HN.out]; omega)
              have HT : Hid (Q = true) := Lib.hid (by rw [← HJ.out, hd]; rfl)
              clear hd
              have g0 := hG.cell k0
              have g3 := hG.cell k3
              have hlw : b0 < wr.heap.size := Gr.lt hG hb0
              go_wp2_with fail
              go_ret
              exact ⟨by rw [HT.out]; rfl, (by with_reducible (repeat (first | exact Gr.refl _ | assumption | apply Gr.alloc | apply Gr.drew | apply Gr.drewN | refine Gr.setCell ?_ (by first | (simp; done) | (simp; omega)) _ | refine Gr.trans ?_ (by assumption))))⟩
      · have r10 : (t.k == 10) = false := by simp [h10]
        have HBB2 : Hid (badB t.k t.x t.ks.length = false) := Lib.hid (by rw [HBB.out, decide_eq_false h9, decide_eq_false h10]; rfl)
        have HML : Hid (markedL (t.ks.drop 0) = Q) := Lib.hid (by rw [List.drop_zero, ← HQ.out, markedB_eq, if_neg (by simp [HBB2.out])])
        clear h9 h10 HBB
        go_enter Try.func46, Try.ntmps46
        go_wp2_with fail
        have hbx : NBox (w.alloc (.cells #[.int .i64 t.k, .string (bs t.l), .string (bs t.x), .slice A n c, .string (bs t.e)] 24)) w.heap.size ⟨t.k, t.l, t.x, A, n, c, t.e⟩ := heap_alloc_new _ _
        obtain ⟨k0, k1, k2, k3, k4⟩ := hbx.cells
        simp only at k0 k1 k2 k3 k4
        have hG1 : Gr w (w.alloc (.cells #[.int .i64 t.k, .string (bs t.l), .string (bs t.x), .slice A n c, .string (bs t.e)] 24)) := (Gr.refl w).alloc _
        have HK : Hid (Kids anyB m (w.alloc (.cells #[.int .i64 t.k, .string (bs t.l), .string (bs t.x), .slice A n c, .string (bs t.e)] 24)) A t.ks) := Lib.hid (HK0.out.gr hG1)
        have HBX := Lib.hid hbx
        have hb0 : w.heap.size < (w.alloc (.cells #[.int .i64 t.k, .string (bs t.l), .string (bs t.x), .slice A n c, .string (bs t.e)] 24)).heap.size := by simp
        clear hbx HK0
        generalize w.alloc (.cells #[.int .i64 t.k, .string (bs t.l), .string (bs t.x), .slice A n c, .string (bs t.e)] 24) = W1 at *
        generalize w.heap.size = b0 at *
        go_loopw [3] (fun iv wr => ∃ j : Nat, j ≤ n ∧ iv = .int .i64 j ∧ markedL (t.ks.drop j) = Q ∧ Gr W1 wr) (fun iv _ => n - (intOf iv).toNat)
        case atStart => exact ⟨0, Nat.zero_le _, rfl, HML.out, (by with_reducible first | exact Gr.refl _ | assumption)⟩
        case round =>
          obtain ⟨j, hj, rfl, hml, hG⟩ := hrel
          have HJ := Lib.hid hml
          clear hml
          by_cases hlt : j < n
          · obtain ⟨y, hy⟩ : ∃ y, t.ks[j]? = some y := ⟨t.ks[j]'(by have := HN.out; omega), List.getElem?_eq_getElem _⟩
            have HY := Lib.hid hy
            obtain ⟨bk, ok, d, hA, _, hbk, hce, hre⟩ := HK.out.gr hG j y hy
            subst hA
            clear hy
            have HE := Lib.hid hre
            obtain ⟨e0, e1, e2, e3, e4⟩ := hce
            have g0 := hG.cell k0
            have g1 := hG.cell k1
            have g2 := hG.cell k2
            have g3 := hG.cell k3
            have g4 := hG.cell k4
            have hlw : b0 < wr.heap.size := Gr.lt hG hb0
            have hlt1 : (j : Int) < (n : Int) := by omega
            clear hre
            have hst := markedL_drop t.ks HY.out
            obtain ⟨b, hbq⟩ : ∃ b, markedB y = b := ⟨_, rfl⟩
            have hcall := HI.out _ y wr HE.out
            rw [hbq] at hst hcall
            have HST := Lib.hid hst
            have HCALL := Lib.hid hcall
            clear hst hcall hbq
            cases b with
            | true =>
              have HT : Hid (markedL (t.ks.drop (j + 1)) = Q) := Lib.hid (by rw [← HJ.out, HST.out, if_pos rfl])
              go_wp2_with (go_at_call 46; refine HCALL.out.mono ?_; rintro e w2 ⟨rfl, hb2⟩)
              go_roundw
              case rel => exact ⟨j + 1, by omega, by go_num, HT.out, (by with_reducible (repeat (first | exact Gr.refl _ | assumption | apply Gr.alloc | apply Gr.drew | apply Gr.drewN | refine Gr.setCell ?_ (by first | (simp; done) | (simp; omega)) _ | refine Gr.trans ?_ (by assumption))))⟩
              case measure => simp [intOf] <;> omega
            | false =>
              have HT : Hid (Q = false) := Lib.hid (by rw [← HJ.out, HST.out, if_neg (by decide)])
              go_wp2_with (go_at_call 46; refine HCALL.out.mono ?_; rintro e w2 ⟨rfl, hb2⟩)
              go_ret
              exact ⟨by rw [HT.out]; rfl, (by with_reducible (repeat (first | exact Gr.refl _ | assumption | apply Gr.alloc | apply Gr.drew | apply Gr.drewN | refine Gr.setCell ?_ (by first | (simp; done) | (simp; omega)) _ | refine Gr.trans ?_ (by assumption))))⟩
          · have hd : t.ks.drop j = [] := List.drop_eq_nil_of_le (by rw [← HN.out]; omega)
            have HT : Hid (Q = true) := Lib.hid (by rw [← HJ.out, hd]; rfl)
            clear hd
            have g0 := hG.cell k0
            have g3 := hG.cell k3
            have hlw : b0 < wr.heap.size := Gr.lt hG hb0
            go_wp2_with fail
            go_ret
            exact ⟨by rw [HT.out]; rfl, (by with_reducible (repeat (first | exact Gr.refl _ | assumption | apply Gr.alloc | apply Gr.drew | apply Gr.drewN | refine Gr.setCell ?_ (by first | (simp; done) | (simp; omega)) _ | refine Gr.trans ?_ (by assumption))))⟩
set_option maxRecDepth 100000 in
set_option maxHeartbeats 1000000 in
theorem properP_any (m : Nat) (v : ND) (t : NT) (w : World) (hr : NRep anyB m w v t) (hl : lenF t ≤ 1152921504606846976) : Calls Try.prog 27 #[.agg #[.int .i64 v.k, .string (bs v.l), .string (bs v.x), .slice v.A v.n v.c, .string (bs v.e)]] w (RB (properB t) w) := by
  have hca := CheckP_any m v t (w.alloc (.cells #[.int .i64 v.k, .string (bs v.l), .string (bs v.x), .slice v.A v.n v.c, .string (bs v.e)] 24)) (hr.gr ((Gr.refl w).alloc _)) hl
  obtain ⟨z, hz⟩ : ∃ z, checkT t = z := ⟨_, rfl⟩
  obtain ⟨q, hq⟩ : ∃ q, markedB t = q := ⟨_, rfl⟩
  have hcb := fun W (hg : Gr w W) => markedP_any m v t W (hr.gr hg)
  rw [hz] at hca
  rw [hq] at hcb
  have HCA := Lib.hid hca
  have HCB := Lib.hid hcb
  have HV : Hid (properB t = (decide (z = 0) && q)) := Lib.hid (by rw [properB, hz, hq])
  clear hca hcb hz hq hr hl
  go_enter Try.func27, Try.ntmps27
  go_wp2_with fail
  have hbx : NBox (w.alloc (.cells #[.int .i64 v.k, .string (bs v.l), .string (bs v.x), .slice v.A v.n v.c, .string (bs v.e)] 24)) w.heap.size v := heap_alloc_new _ _
  refine HCA.out.mono ?_
  rintro e w1 ⟨rfl, hb1⟩
  have hg1 : Gr w w1 := ((Gr.refl w).alloc _).trans hb1
  have hbx1 := hbx.gr hb1
  obtain ⟨k0, k1, k2, k3, k4⟩ := hbx1.cells
  have hlb := lt_of_block hbx1
  clear hbx hbx1
  by_cases hz0 : z = 0
  · have hz1 : (z == 0) = true := by simp [hz0]
    have HW : Hid (properB t = q) := Lib.hid (by rw [HV.out, decide_eq_true hz0]; rfl)
    go_wp2_with fail
    refine (HCB.out _ hg1).mono ?_
    rintro e w2 ⟨rfl, hb2⟩
    go_wp2_with fail
    go_ret
    exact ⟨by rw [HW.out]; rfl, hg1.trans hb2⟩
  · have hz1 : (z == 0) = false := by simp [hz0]
    have HW : Hid (properB t = false) := Lib.hid (by rw [HV.out, decide_eq_false hz0]; rfl)
    go_wp2_with fail
    go_ret
    exact ⟨by rw [HW.out]; rfl, hg1⟩
set_option maxRecDepth 100000 in
set_option maxHeartbeats 1000000 in
theorem properR_any (m : Nat) (v : ND) (t : NT) (w : World) (hr : NRep anyB m w v t) (hl : lenF t ≤ 1152921504606846976) : Calls Try.prog 29 #[.agg #[.int .i64 v.k, .string (bs v.l), .string (bs v.x), .slice v.A v.n v.c, .string (bs v.e)]] w (RB (properB t) w) := by
  have hca := CheckRP_any m v t (w.alloc (.cells #[.int .i64 v.k, .string (bs v.l), .string (bs v.x), .slice v.A v.n v.c, .string (bs v.e)] 24)) (hr.gr ((Gr.refl w).alloc _)) hl
  obtain ⟨z, hz⟩ : ∃ z, checkT t = z := ⟨_, rfl⟩
  obtain ⟨q, hq⟩ : ∃ q, markedB t = q := ⟨_, rfl⟩
  have hcb := fun W (hg : Gr w W) => markedR_any m v t W (hr.gr hg)
  rw [hz] at hca
  rw [hq] at hcb
  have HCA := Lib.hid hca
  have HCB := Lib.hid hcb
  have HV : Hid (properB t = (decide (z = 0) && q)) := Lib.hid (by rw [properB, hz, hq])
  clear hca hcb hz hq hr hl
  go_enter Try.func29, Try.ntmps29
  go_wp2_with fail
  have hbx : NBox (w.alloc (.cells #[.int .i64 v.k, .string (bs v.l), .string (bs v.x), .slice v.A v.n v.c, .string (bs v.e)] 24)) w.heap.size v := heap_alloc_new _ _
  refine HCA.out.mono ?_
  rintro e w1 ⟨rfl, hb1⟩
  have hg1 : Gr w w1 := ((Gr.refl w).alloc _).trans hb1
  have hbx1 := hbx.gr hb1
  obtain ⟨k0, k1, k2, k3, k4⟩ := hbx1.cells
  have hlb := lt_of_block hbx1
  clear hbx hbx1
  by_cases hz0 : z = 0
  · have hz1 : (z == 0) = true := by simp [hz0]
    have HW : Hid (properB t = q) := Lib.hid (by rw [HV.out, decide_eq_true hz0]; rfl)
    go_wp2_with fail
    refine (HCB.out _ hg1).mono ?_
    rintro e w2 ⟨rfl, hb2⟩
    go_wp2_with fail
    go_ret
    exact ⟨by rw [HW.out]; rfl, hg1.trans hb2⟩
  · have hz1 : (z == 0) = false := by simp [hz0]
    have HW : Hid (properB t = false) := Lib.hid (by rw [HV.out, decide_eq_false hz0]; rfl)
    go_wp2_with fail
    go_ret
    exact ⟨by rw [HW.out]; rfl, hg1⟩
end Go.Proofs.Ytbfnmgiccbdglaa
