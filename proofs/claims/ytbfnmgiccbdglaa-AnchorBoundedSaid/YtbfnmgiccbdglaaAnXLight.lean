/- small and light, walked. -/
import Derived.Test.YtbfnmgiccbdglaaAnRCk
namespace Go.Proofs.Ytbfnmgiccbdglaa
open Go.ChangeShapes Go.WideShapes Go.ChangeAt Go.RowKit

set_option maxRecDepth 100000 in
set_option maxHeartbeats 4000000 in
theorem smallX_any (m : Nat) (v : ND) (t : NT) (w : World) (hr : NRep anyB m w v t) : Calls Try.prog 9 #[.agg #[.int .i64 v.k, .string (bs v.l), .string (bs v.x), .slice v.A v.n v.c, .string (bs v.e)]] w (RB (smallB t 60 140 2000) w) := by
  have hcall := smallP_any m v t 60 140 2000 (w.alloc (.cells #[.int .i64 v.k, .string (bs v.l), .string (bs v.x), .slice v.A v.n v.c, .string (bs v.e)] 24)) (hr.gr ((Gr.refl w).alloc _)) (by omega) (by omega) (by omega) (by omega) (by omega) (by omega)
  have HC := Lib.hid hcall
  clear hcall hr
  go_enter Try.func9, Try.ntmps9
  go_wp2_with fail
  refine HC.out.mono ?_
  rintro e w1 ⟨rfl, hb1⟩
  have hg1 : Gr w w1 := ((Gr.refl w).alloc _).trans hb1
  go_wp2_with fail
  go_ret
  exact ⟨rfl, hg1⟩
theorem smallX_facts {t : NT} (h : smallB t 60 140 2000 = true) : countF t ≤ 60 ∧ depthF t ≤ 140 ∧ lenF t ≤ 360000 := by
  unfold smallB at h
  simp only [decide_eq_true_eq] at h
  obtain ⟨q1, q2, q3⟩ := roomF_ok t 60 140 2000 h
  have h2 : (countF t : Int) ≤ 60 := by omega
  have h3 : (countF t : Int) * (3 * 2000) ≤ 60 * (3 * 2000) := Int.mul_le_mul_of_nonneg_right h2 (by omega)
  omega
def lightB (t : NT) : Bool := smallB t 60 140 2000 && (decide ((costF t).2 ≠ 0) || decide ((costF t).1 ≤ 3000))
theorem light_small {t : NT} (h : lightB t = true) : smallB t 60 140 2000 = true := by
  unfold lightB at h
  rw [Bool.and_eq_true] at h
  exact h.1
set_option maxRecDepth 100000 in
set_option maxHeartbeats 4000000 in
theorem light_out (v : ND) (w : World) (HS : Hid (∀ W, Gr w W → Calls Try.prog 9 #[.agg #[.int .i64 v.k, .string (bs v.l), .string (bs v.x), .slice v.A v.n v.c, .string (bs v.e)]] W (RB false W))) : Calls Try.prog 21 #[.agg #[.int .i64 v.k, .string (bs v.l), .string (bs v.x), .slice v.A v.n v.c, .string (bs v.e)]] w (RB false w) := by
  go_enter Try.func21, Try.ntmps21
  go_wp2_with fail
  have hn1 : NBox (w.alloc (.cells #[.int .i64 v.k, .string (bs v.l), .string (bs v.x), .slice v.A v.n v.c, .string (bs v.e)] 24)) w.heap.size v := heap_alloc_new w _
  have hg1 : Gr w (w.alloc (.cells #[.int .i64 v.k, .string (bs v.l), .string (bs v.x), .slice v.A v.n v.c, .string (bs v.e)] 24)) := (Gr.refl w).alloc _
  generalize w.alloc (.cells #[.int .i64 v.k, .string (bs v.l), .string (bs v.x), .slice v.A v.n v.c, .string (bs v.e)] 24) = W1 at *
  have HN1 := Lib.hid hn1
  have HG1 := Lib.hid hg1
  clear hn1 hg1
  go_wp2_with (go_at_call 9; refine (HS.out _ HG1.out).mono ?_; rintro e w2 ⟨rfl, hb2⟩; (have hn2 := HN1.out.gr hb2); (have k0 := cell_of_cells hn2 0); (have k1 := cell_of_cells hn2 1); (have k2 := cell_of_cells hn2 2); (have k3 := cell_of_cells hn2 3); (have k4 := cell_of_cells hn2 4); (have kl := lt_of_block hn2); (have HG2 := Lib.hid (HG1.out.trans hb2)); clear hb2 hn2)
  go_ret
  exact ⟨rfl, HG2.out⟩
set_option maxRecDepth 100000 in
set_option maxHeartbeats 4000000 in
theorem light_in (v : ND) (c : Int × Int) (w : World) (HS : Hid (∀ W, Gr w W → Calls Try.prog 9 #[.agg #[.int .i64 v.k, .string (bs v.l), .string (bs v.x), .slice v.A v.n v.c, .string (bs v.e)]] W (RB true W))) (HK : Hid (∀ W, Gr w W → Calls Try.prog 18 #[.agg #[.int .i64 v.k, .string (bs v.l), .string (bs v.x), .slice v.A v.n v.c, .string (bs v.e)]] W (fun e w' => e = .returned (.tuple #[.int .i64 c.1, .int .i64 c.2]) ∧ Gr W w'))) : Calls Try.prog 21 #[.agg #[.int .i64 v.k, .string (bs v.l), .string (bs v.x), .slice v.A v.n v.c, .string (bs v.e)]] w (RB (decide (c.2 ≠ 0) || decide (c.1 ≤ 3000)) w) := by
  go_enter Try.func21, Try.ntmps21
  go_wp2_with fail
  have hn1 : NBox (w.alloc (.cells #[.int .i64 v.k, .string (bs v.l), .string (bs v.x), .slice v.A v.n v.c, .string (bs v.e)] 24)) w.heap.size v := heap_alloc_new w _
  have hg1 : Gr w (w.alloc (.cells #[.int .i64 v.k, .string (bs v.l), .string (bs v.x), .slice v.A v.n v.c, .string (bs v.e)] 24)) := (Gr.refl w).alloc _
  generalize w.alloc (.cells #[.int .i64 v.k, .string (bs v.l), .string (bs v.x), .slice v.A v.n v.c, .string (bs v.e)] 24) = W1 at *
  have HN1 := Lib.hid hn1
  have HG1 := Lib.hid hg1
  clear hn1 hg1
  by_cases hz : c.2 = 0
  · have hz2 : (c.2 != 0) = false := by simp [hz]
    by_cases hc : c.1 ≤ 3000
    · go_wp2_with (first | (go_at_call 9; refine (HS.out _ HG1.out).mono ?_; rintro e w2 ⟨rfl, hb2⟩; (have hn2 := HN1.out.gr hb2); (have k0 := cell_of_cells hn2 0); (have k1 := cell_of_cells hn2 1); (have k2 := cell_of_cells hn2 2); (have k3 := cell_of_cells hn2 3); (have k4 := cell_of_cells hn2 4); (have kl := lt_of_block hn2); (have HG2 := Lib.hid (HG1.out.trans hb2)); clear hb2 hn2) | (go_at_call 18; refine (HK.out _ HG2.out).mono ?_; rintro e w3 ⟨rfl, hb3⟩; (have HG3 := Lib.hid (HG2.out.trans hb3)); clear hb3))
      go_ret
      exact ⟨by simp [hc], HG3.out⟩
    · go_wp2_with (first | (go_at_call 9; refine (HS.out _ HG1.out).mono ?_; rintro e w2 ⟨rfl, hb2⟩; (have hn2 := HN1.out.gr hb2); (have k0 := cell_of_cells hn2 0); (have k1 := cell_of_cells hn2 1); (have k2 := cell_of_cells hn2 2); (have k3 := cell_of_cells hn2 3); (have k4 := cell_of_cells hn2 4); (have kl := lt_of_block hn2); (have HG2 := Lib.hid (HG1.out.trans hb2)); clear hb2 hn2) | (go_at_call 18; refine (HK.out _ HG2.out).mono ?_; rintro e w3 ⟨rfl, hb3⟩; (have HG3 := Lib.hid (HG2.out.trans hb3)); clear hb3))
      go_ret
      exact ⟨by simp [hz], HG3.out⟩
  · have hz2 : (c.2 != 0) = true := by simp [hz]
    go_wp2_with (first | (go_at_call 9; refine (HS.out _ HG1.out).mono ?_; rintro e w2 ⟨rfl, hb2⟩; (have hn2 := HN1.out.gr hb2); (have k0 := cell_of_cells hn2 0); (have k1 := cell_of_cells hn2 1); (have k2 := cell_of_cells hn2 2); (have k3 := cell_of_cells hn2 3); (have k4 := cell_of_cells hn2 4); (have kl := lt_of_block hn2); (have HG2 := Lib.hid (HG1.out.trans hb2)); clear hb2 hn2) | (go_at_call 18; refine (HK.out _ HG2.out).mono ?_; rintro e w3 ⟨rfl, hb3⟩; (have HG3 := Lib.hid (HG2.out.trans hb3)); clear hb3))
    go_ret
    exact ⟨by simp [hz], HG3.out⟩
theorem light_any (m : Nat) (v : ND) (t : NT) (w : World) (hr : NRep anyB m w v t) : Calls Try.prog 21 #[.agg #[.int .i64 v.k, .string (bs v.l), .string (bs v.x), .slice v.A v.n v.c, .string (bs v.e)]] w (RB (lightB t) w) := by
  have hs := fun W (hg : Gr w W) => smallX_any m v t W (hr.gr hg)
  unfold lightB
  cases hsm : smallB t 60 140 2000 with
  | false =>
    rw [hsm] at hs
    exact light_out v w (Lib.hid hs)
  | true =>
    rw [hsm] at hs
    obtain ⟨f1, _, f3⟩ := smallX_facts hsm
    rw [Bool.true_and]
    exact light_in v (costF t) w (Lib.hid hs) (Lib.hid (fun W hg => by rw [← costR_eq]; exact costRR_any m v t W (hr.gr hg) (Nat.le_trans f3 (by decide)) (Nat.le_trans f1 (by decide))))
end Go.Proofs.Ytbfnmgiccbdglaa
