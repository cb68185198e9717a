/- kinds, walked. -/
import Derived.Test.YtbfnmgiccbdglaaAnBPlain
import Derived.Test.YtbfnmgiccbdglaaAnCheck
namespace Go.Proofs.Ytbfnmgiccbdglaa
open Go.ChangeShapes Go.WideShapes Go.ChangeAt Go.RowKit

theorem mkL_take (l : List NT) {j : Nat} {y : NT} (h : l[j]? = some y) : mkL (l.take (j + 1)) = mkL (l.take j) + mkF y := by
  rw [take_succ_at h, mkL_app, mkL_cons, mkL_nil]; omega
theorem vaL_take (l : List NT) {j : Nat} {y : NT} (h : l[j]? = some y) : vaL (l.take (j + 1)) = vaL (l.take j) + vaF y := by
  rw [take_succ_at h, vaL_app, vaL_cons, vaL_nil]; omega
set_option maxRecDepth 100000 in
set_option maxHeartbeats 4000000 in
theorem kinds_9 (m : Nat) (t : NT) (A : Option Addr) (n c : Nat) (w : World) (hn : n = t.ks.length) (hc : countF t ≤ 1000000) (HK0 : Hid (Kids anyB m w A t.ks)) (HI : Hid (∀ (v : ND) (t : NT) (w : World), NRep anyB m w v t → countF t ≤ 1000000 → Calls Try.prog 25 #[.agg #[.int .i64 v.k, .string (bs v.l), .string (bs v.x), .slice v.A v.n v.c, .string (bs v.e)]] w (R2II (mkF t, vaF t) w))) (hk : t.k = 9) : Calls Try.prog 25 #[.agg #[.int .i64 t.k, .string (bs t.l), .string (bs t.x), .slice A n c, .string (bs t.e)]] w (R2II (mkF t, vaF t) w) := by
  have hm : mk0 t.k = 1 := by unfold mk0; rw [hk]; decide
  have hv : cost0 t.k = 0 := by unfold cost0; rw [hk]; decide
  have hme := mkF_eq t
  have hve := vaF_eq t
  rw [hm] at hme
  rw [hv] at hve
  have r9 : (t.k == 9) = true := by simp [hk]
  have r10 : (t.k == 10) = false := by simp [hk]
  have r2 : (t.k == 2) = false := by simp [hk]
  have r3 : (t.k == 3) = false := by simp [hk]
  have r4 : (t.k == 4) = false := by simp [hk]
  have HM := Lib.hid hme
  have HV := Lib.hid hve
  have HN := Lib.hid hn
  have hct := countF_eq t
  have HCT : Hid (countL t.ks ≤ 1000000) := Lib.hid (by omega)
  have hn63 : n ≤ 1000000 := by have := ks_count t.ks; omega
  clear hm hv hme hve hn hc hct hk
  go_enter Try.func25, Try.ntmps25
  go_wp2_with fail
  have hbx : NBox (w.alloc (.cells #[.int .i64 t.k, .string (bs t.l), .string (bs t.x), .slice A n c, .string (bs t.e)] 24)) w.heap.size ⟨t.k, t.l, t.x, A, n, c, t.e⟩ := heap_alloc_new _ _
  have HG1 : Hid (Gr w (w.alloc (.cells #[.int .i64 t.k, .string (bs t.l), .string (bs t.x), .slice A n c, .string (bs t.e)] 24))) := Lib.hid ((Gr.refl w).alloc _)
  obtain ⟨W1, hW1⟩ : ∃ W1, W1 = w.alloc (.cells #[.int .i64 t.k, .string (bs t.l), .string (bs t.x), .slice A n c, .string (bs t.e)] 24) := ⟨_, rfl⟩
  obtain ⟨b0, hb0⟩ : ∃ b0, b0 = w.heap.size := ⟨_, rfl⟩
  rw [← hW1] at hbx HG1
  rw [← hb0] at hbx
  try rw [← hW1]
  try rw [← hb0]
  have HBX := Lib.hid hbx
  clear hW1 hbx hb0
  go_loopw [4, 5, 6] (fun av vv iv wr => ∃ j : Nat, j ≤ n ∧ iv = .int .i64 j ∧ av = .int .i64 (1 + mkL (t.ks.take j)) ∧ vv = .int .i64 (0 + vaL (t.ks.take j)) ∧ Gr W1 wr) (fun _ _ iv _ => n - (intOf iv).toNat)
  case atStart => exact ⟨0, Nat.zero_le _, rfl, by rw [List.take_zero, mkL_nil]; rfl, by rw [List.take_zero, vaL_nil]; rfl, Gr.refl _⟩
  case round =>
    obtain ⟨j, hj, rfl, rfl, rfl, hg⟩ := hrel
    have hbw := HBX.out.gr hg
    obtain ⟨k0, k1, k2, k3, k4⟩ := hbw.cells
    simp only at k0 k1 k2 k3 k4
    have kl := lt_of_block hbw
    have HG := Lib.hid hg
    clear hbw hg
    by_cases hlt : j < n
    · obtain ⟨y, hy⟩ : ∃ y, t.ks[j]? = some y := ⟨t.ks[j]'(by have := HN.out; omega), List.getElem?_eq_getElem _⟩
      obtain ⟨bk, ok, d, hA, _, hbk, hce, hre⟩ := (HK0.out.gr (HG1.out.trans HG.out)) j y hy
      subst hA
      obtain ⟨e0, e1, e2, e3, e4⟩ := hce
      have hlt1 : (j : Int) < (n : Int) := by omega
      have hcl := countL_get _ _ _ hy
      have HCALL := Lib.hid (HI.out d y wr hre (by have := HCT.out; omega))
      have m1 := mkL_take t.ks hy
      have m2 := vaL_take t.ks hy
      have b1 := vaL_le (t.ks.take j)
      have b2 := va_le y
      have b3 : (countL (t.ks.take j) : Int) + countF y ≤ 1000000 := by have := HCT.out; omega
      have w1 : wrap64 (1 + mkL (t.ks.take j) + mkF y) = 1 + mkL (t.ks.take (j + 1)) := by rw [m1, wrap64_inX _ ⟨by omega, by omega⟩]; omega
      have w2 : wrap64 (0 + vaL (t.ks.take j) + vaF y) = 0 + vaL (t.ks.take (j + 1)) := by rw [m2, wrap64_inX _ ⟨by omega, by omega⟩]; omega
      have HW1 := Lib.hid w1
      have HW2 := Lib.hid w2
      clear hy hre hcl m1 m2 b1 b2 b3 w1 w2
      obtain ⟨MA, hMA⟩ : ∃ z, z = 1 + mkL (t.ks.take j) := ⟨_, rfl⟩
      obtain ⟨VA, hVA⟩ : ∃ z, z = 0 + vaL (t.ks.take j) := ⟨_, rfl⟩
      obtain ⟨MY, hMY⟩ : ∃ z, z = mkF y := ⟨_, rfl⟩
      obtain ⟨VY, hVY⟩ : ∃ z, z = vaF y := ⟨_, rfl⟩
      rw [← hMY, ← hVY] at HCALL
      rw [← hMA, ← hMY] at HW1
      rw [← hVA, ← hVY] at HW2
      rw [← hMA, ← hVA]
      clear hMA hVA hMY hVY
      go_wp2_with (go_at_call 25; refine HCALL.out.mono ?_; rintro e w2 ⟨rfl, hb2⟩; (have HG2 := Lib.hid (HG.out.trans hb2)); clear hb2)
      go_roundw
      case rel => exact ⟨j + 1, by omega, by go_num, by rw [HW1.out], by rw [HW2.out], HG2.out⟩
      case measure => simp [intOf] <;> omega
    · have htk : t.ks.take j = t.ks := List.take_of_length_le (by have := HN.out; omega)
      have q1 : 1 + mkL (t.ks.take j) = mkF t := by rw [htk, HM.out]
      have q2 : 0 + vaL (t.ks.take j) = vaF t := by rw [htk, HV.out]
      rw [q1, q2]
      clear htk q1 q2
      go_wp2_with fail
      go_ret2
      exact ⟨rfl, HG1.out.trans HG.out⟩
set_option maxRecDepth 100000 in
set_option maxHeartbeats 4000000 in
theorem kinds_10 (m : Nat) (t : NT) (A : Option Addr) (n c : Nat) (w : World) (hn : n = t.ks.length) (hc : countF t ≤ 1000000) (HK0 : Hid (Kids anyB m w A t.ks)) (HI : Hid (∀ (v : ND) (t : NT) (w : World), NRep anyB m w v t → countF t ≤ 1000000 → Calls Try.prog 25 #[.agg #[.int .i64 v.k, .string (bs v.l), .string (bs v.x), .slice v.A v.n v.c, .string (bs v.e)]] w (R2II (mkF t, vaF t) w))) (hk : t.k = 10) : Calls Try.prog 25 #[.agg #[.int .i64 t.k, .string (bs t.l), .string (bs t.x), .slice A n c, .string (bs t.e)]] w (R2II (mkF t, vaF t) w) := by
  have hm : mk0 t.k = 1 := by unfold mk0; rw [hk]; decide
  have hv : cost0 t.k = 0 := by unfold cost0; rw [hk]; decide
  have hme := mkF_eq t
  have hve := vaF_eq t
  rw [hm] at hme
  rw [hv] at hve
  have r9 : (t.k == 9) = false := by simp [hk]
  have r10 : (t.k == 10) = true := by simp [hk]
  have r2 : (t.k == 2) = false := by simp [hk]
  have r3 : (t.k == 3) = false := by simp [hk]
  have r4 : (t.k == 4) = false := by simp [hk]
  have HM := Lib.hid hme
  have HV := Lib.hid hve
  have HN := Lib.hid hn
  have hct := countF_eq t
  have HCT : Hid (countL t.ks ≤ 1000000) := Lib.hid (by omega)
  have hn63 : n ≤ 1000000 := by have := ks_count t.ks; omega
  clear hm hv hme hve hn hc hct hk
  go_enter Try.func25, Try.ntmps25
  go_wp2_with fail
  have hbx : NBox (w.alloc (.cells #[.int .i64 t.k, .string (bs t.l), .string (bs t.x), .slice A n c, .string (bs t.e)] 24)) w.heap.size ⟨t.k, t.l, t.x, A, n, c, t.e⟩ := heap_alloc_new _ _
  have HG1 : Hid (Gr w (w.alloc (.cells #[.int .i64 t.k, .string (bs t.l), .string (bs t.x), .slice A n c, .string (bs t.e)] 24))) := Lib.hid ((Gr.refl w).alloc _)
  obtain ⟨W1, hW1⟩ : ∃ W1, W1 = w.alloc (.cells #[.int .i64 t.k, .string (bs t.l), .string (bs t.x), .slice A n c, .string (bs t.e)] 24) := ⟨_, rfl⟩
  obtain ⟨b0, hb0⟩ : ∃ b0, b0 = w.heap.size := ⟨_, rfl⟩
  rw [← hW1] at hbx HG1
  rw [← hb0] at hbx
  try rw [← hW1]
  try rw [← hb0]
  have HBX := Lib.hid hbx
  clear hW1 hbx hb0
  go_loopw [4, 5, 6] (fun av vv iv wr => ∃ j : Nat, j ≤ n ∧ iv = .int .i64 j ∧ av = .int .i64 (1 + mkL (t.ks.take j)) ∧ vv = .int .i64 (0 + vaL (t.ks.take j)) ∧ Gr W1 wr) (fun _ _ iv _ => n - (intOf iv).toNat)
  case atStart => exact ⟨0, Nat.zero_le _, rfl, by rw [List.take_zero, mkL_nil]; rfl, by rw [List.take_zero, vaL_nil]; rfl, Gr.refl _⟩
  case round =>
    obtain ⟨j, hj, rfl, rfl, rfl, hg⟩ := hrel
    have hbw := HBX.out.gr hg
    obtain ⟨k0, k1, k2, k3, k4⟩ := hbw.cells
    simp only at k0 k1 k2 k3 k4
    have kl := lt_of_block hbw
    have HG := Lib.hid hg
    clear hbw hg
    by_cases hlt : j < n
    · obtain ⟨y, hy⟩ : ∃ y, t.ks[j]? = some y := ⟨t.ks[j]'(by have := HN.out; omega), List.getElem?_eq_getElem _⟩
      obtain ⟨bk, ok, d, hA, _, hbk, hce, hre⟩ := (HK0.out.gr (HG1.out.trans HG.out)) j y hy
      subst hA
      obtain ⟨e0, e1, e2, e3, e4⟩ := hce
      have hlt1 : (j : Int) < (n : Int) := by omega
      have hcl := countL_get _ _ _ hy
      have HCALL := Lib.hid (HI.out d y wr hre (by have := HCT.out; omega))
      have m1 := mkL_take t.ks hy
      have m2 := vaL_take t.ks hy
      have b1 := vaL_le (t.ks.take j)
      have b2 := va_le y
      have b3 : (countL (t.ks.take j) : Int) + countF y ≤ 1000000 := by have := HCT.out; omega
      have w1 : wrap64 (1 + mkL (t.ks.take j) + mkF y) = 1 + mkL (t.ks.take (j + 1)) := by rw [m1, wrap64_inX _ ⟨by omega, by omega⟩]; omega
      have w2 : wrap64 (0 + vaL (t.ks.take j) + vaF y) = 0 + vaL (t.ks.take (j + 1)) := by rw [m2, wrap64_inX _ ⟨by omega, by omega⟩]; omega
      have HW1 := Lib.hid w1
      have HW2 := Lib.hid w2
      clear hy hre hcl m1 m2 b1 b2 b3 w1 w2
      obtain ⟨MA, hMA⟩ : ∃ z, z = 1 + mkL (t.ks.take j) := ⟨_, rfl⟩
      obtain ⟨VA, hVA⟩ : ∃ z, z = 0 + vaL (t.ks.take j) := ⟨_, rfl⟩
      obtain ⟨MY, hMY⟩ : ∃ z, z = mkF y := ⟨_, rfl⟩
      obtain ⟨VY, hVY⟩ : ∃ z, z = vaF y := ⟨_, rfl⟩
      rw [← hMY, ← hVY] at HCALL
      rw [← hMA, ← hMY] at HW1
      rw [← hVA, ← hVY] at HW2
      rw [← hMA, ← hVA]
      clear hMA hVA hMY hVY
      go_wp2_with (go_at_call 25; refine HCALL.out.mono ?_; rintro e w2 ⟨rfl, hb2⟩; (have HG2 := Lib.hid (HG.out.trans hb2)); clear hb2)
      go_roundw
      case rel => exact ⟨j + 1, by omega, by go_num, by rw [HW1.out], by rw [HW2.out], HG2.out⟩
      case measure => simp [intOf] <;> omega
    · have htk : t.ks.take j = t.ks := List.take_of_length_le (by have := HN.out; omega)
      have q1 : 1 + mkL (t.ks.take j) = mkF t := by rw [htk, HM.out]
      have q2 : 0 + vaL (t.ks.take j) = vaF t := by rw [htk, HV.out]
      rw [q1, q2]
      clear htk q1 q2
      go_wp2_with fail
      go_ret2
      exact ⟨rfl, HG1.out.trans HG.out⟩
set_option maxRecDepth 100000 in
set_option maxHeartbeats 4000000 in
theorem kinds_2 (m : Nat) (t : NT) (A : Option Addr) (n c : Nat) (w : World) (hn : n = t.ks.length) (hc : countF t ≤ 1000000) (HK0 : Hid (Kids anyB m w A t.ks)) (HI : Hid (∀ (v : ND) (t : NT) (w : World), NRep anyB m w v t → countF t ≤ 1000000 → Calls Try.prog 25 #[.agg #[.int .i64 v.k, .string (bs v.l), .string (bs v.x), .slice v.A v.n v.c, .string (bs v.e)]] w (R2II (mkF t, vaF t) w))) (hk : t.k = 2) : Calls Try.prog 25 #[.agg #[.int .i64 t.k, .string (bs t.l), .string (bs t.x), .slice A n c, .string (bs t.e)]] w (R2II (mkF t, vaF t) w) := by
  have hm : mk0 t.k = 0 := by unfold mk0; rw [hk]; decide
  have hv : cost0 t.k = 1 := by unfold cost0; rw [hk]; decide
  have hme := mkF_eq t
  have hve := vaF_eq t
  rw [hm] at hme
  rw [hv] at hve
  have r9 : (t.k == 9) = false := by simp [hk]
  have r10 : (t.k == 10) = false := by simp [hk]
  have r2 : (t.k == 2) = true := by simp [hk]
  have r3 : (t.k == 3) = false := by simp [hk]
  have r4 : (t.k == 4) = false := by simp [hk]
  have HM := Lib.hid hme
  have HV := Lib.hid hve
  have HN := Lib.hid hn
  have hct := countF_eq t
  have HCT : Hid (countL t.ks ≤ 1000000) := Lib.hid (by omega)
  have hn63 : n ≤ 1000000 := by have := ks_count t.ks; omega
  clear hm hv hme hve hn hc hct hk
  go_enter Try.func25, Try.ntmps25
  go_wp2_with fail
  have hbx : NBox (w.alloc (.cells #[.int .i64 t.k, .string (bs t.l), .string (bs t.x), .slice A n c, .string (bs t.e)] 24)) w.heap.size ⟨t.k, t.l, t.x, A, n, c, t.e⟩ := heap_alloc_new _ _
  have HG1 : Hid (Gr w (w.alloc (.cells #[.int .i64 t.k, .string (bs t.l), .string (bs t.x), .slice A n c, .string (bs t.e)] 24))) := Lib.hid ((Gr.refl w).alloc _)
  obtain ⟨W1, hW1⟩ : ∃ W1, W1 = w.alloc (.cells #[.int .i64 t.k, .string (bs t.l), .string (bs t.x), .slice A n c, .string (bs t.e)] 24) := ⟨_, rfl⟩
  obtain ⟨b0, hb0⟩ : ∃ b0, b0 = w.heap.size := ⟨_, rfl⟩
  rw [← hW1] at hbx HG1
  rw [← hb0] at hbx
  try rw [← hW1]
  try rw [← hb0]
  have HBX := Lib.hid hbx
  clear hW1 hbx hb0
  go_loopw [4, 5, 6] (fun av vv iv wr => ∃ j : Nat, j ≤ n ∧ iv = .int .i64 j ∧ av = .int .i64 (0 + mkL (t.ks.take j)) ∧ vv = .int .i64 (1 + vaL (t.ks.take j)) ∧ Gr W1 wr) (fun _ _ iv _ => n - (intOf iv).toNat)
  case atStart => exact ⟨0, Nat.zero_le _, rfl, by rw [List.take_zero, mkL_nil]; rfl, by rw [List.take_zero, vaL_nil]; rfl, Gr.refl _⟩
  case round =>
    obtain ⟨j, hj, rfl, rfl, rfl, hg⟩ := hrel
    have hbw := HBX.out.gr hg
    obtain ⟨k0, k1, k2, k3, k4⟩ := hbw.cells
    simp only at k0 k1 k2 k3 k4
    have kl := lt_of_block hbw
    have HG := Lib.hid hg
    clear hbw hg
    by_cases hlt : j < n
    · obtain ⟨y, hy⟩ : ∃ y, t.ks[j]? = some y := ⟨t.ks[j]'(by have := HN.out; omega), List.getElem?_eq_getElem _⟩
      obtain ⟨bk, ok, d, hA, _, hbk, hce, hre⟩ := (HK0.out.gr (HG1.out.trans HG.out)) j y hy
      subst hA
      obtain ⟨e0, e1, e2, e3, e4⟩ := hce
      have hlt1 : (j : Int) < (n : Int) := by omega
      have hcl := countL_get _ _ _ hy
      have HCALL := Lib.hid (HI.out d y wr hre (by have := HCT.out; omega))
      have m1 := mkL_take t.ks hy
      have m2 := vaL_take t.ks hy
      have b1 := vaL_le (t.ks.take j)
      have b2 := va_le y
      have b3 : (countL (t.ks.take j) : Int) + countF y ≤ 1000000 := by have := HCT.out; omega
      have w1 : wrap64 (0 + mkL (t.ks.take j) + mkF y) = 0 + mkL (t.ks.take (j + 1)) := by rw [m1, wrap64_inX _ ⟨by omega, by omega⟩]; omega
      have w2 : wrap64 (1 + vaL (t.ks.take j) + vaF y) = 1 + vaL (t.ks.take (j + 1)) := by rw [m2, wrap64_inX _ ⟨by omega, by omega⟩]; omega
      have HW1 := Lib.hid w1
      have HW2 := Lib.hid w2
      clear hy hre hcl m1 m2 b1 b2 b3 w1 w2
      obtain ⟨MA, hMA⟩ : ∃ z, z = 0 + mkL (t.ks.take j) := ⟨_, rfl⟩
      obtain ⟨VA, hVA⟩ : ∃ z, z = 1 + vaL (t.ks.take j) := ⟨_, rfl⟩
      obtain ⟨MY, hMY⟩ : ∃ z, z = mkF y := ⟨_, rfl⟩
      obtain ⟨VY, hVY⟩ : ∃ z, z = vaF y := ⟨_, rfl⟩
      rw [← hMY, ← hVY] at HCALL
      rw [← hMA, ← hMY] at HW1
      rw [← hVA, ← hVY] at HW2
      rw [← hMA, ← hVA]
      clear hMA hVA hMY hVY
      go_wp2_with (go_at_call 25; refine HCALL.out.mono ?_; rintro e w2 ⟨rfl, hb2⟩; (have HG2 := Lib.hid (HG.out.trans hb2)); clear hb2)
      go_roundw
      case rel => exact ⟨j + 1, by omega, by go_num, by rw [HW1.out], by rw [HW2.out], HG2.out⟩
      case measure => simp [intOf] <;> omega
    · have htk : t.ks.take j = t.ks := List.take_of_length_le (by have := HN.out; omega)
      have q1 : 0 + mkL (t.ks.take j) = mkF t := by rw [htk, HM.out]
      have q2 : 1 + vaL (t.ks.take j) = vaF t := by rw [htk, HV.out]
      rw [q1, q2]
      clear htk q1 q2
      go_wp2_with fail
      go_ret2
      exact ⟨rfl, HG1.out.trans HG.out⟩
set_option maxRecDepth 100000 in
set_option maxHeartbeats 4000000 in
theorem kinds_3 (m : Nat) (t : NT) (A : Option Addr) (n c : Nat) (w : World) (hn : n = t.ks.length) (hc : countF t ≤ 1000000) (HK0 : Hid (Kids anyB m w A t.ks)) (HI : Hid (∀ (v : ND) (t : NT) (w : World), NRep anyB m w v t → countF t ≤ 1000000 → Calls Try.prog 25 #[.agg #[.int .i64 v.k, .string (bs v.l), .string (bs v.x), .slice v.A v.n v.c, .string (bs v.e)]] w (R2II (mkF t, vaF t) w))) (hk : t.k = 3) : Calls Try.prog 25 #[.agg #[.int .i64 t.k, .string (bs t.l), .string (bs t.x), .slice A n c, .string (bs t.e)]] w (R2II (mkF t, vaF t) w) := by
  have hm : mk0 t.k = 0 := by unfold mk0; rw [hk]; decide
  have hv : cost0 t.k = 1 := by unfold cost0; rw [hk]; decide
  have hme := mkF_eq t
  have hve := vaF_eq t
  rw [hm] at hme
  rw [hv] at hve
  have r9 : (t.k == 9) = false := by simp [hk]
  have r10 : (t.k == 10) = false := by simp [hk]
  have r2 : (t.k == 2) = false := by simp [hk]
  have r3 : (t.k == 3) = true := by simp [hk]
  have r4 : (t.k == 4) = false := by simp [hk]
  have HM := Lib.hid hme
  have HV := Lib.hid hve
  have HN := Lib.hid hn
  have hct := countF_eq t
  have HCT : Hid (countL t.ks ≤ 1000000) := Lib.hid (by omega)
  have hn63 : n ≤ 1000000 := by have := ks_count t.ks; omega
  clear hm hv hme hve hn hc hct hk
  go_enter Try.func25, Try.ntmps25
  go_wp2_with fail
  have hbx : NBox (w.alloc (.cells #[.int .i64 t.k, .string (bs t.l), .string (bs t.x), .slice A n c, .string (bs t.e)] 24)) w.heap.size ⟨t.k, t.l, t.x, A, n, c, t.e⟩ := heap_alloc_new _ _
  have HG1 : Hid (Gr w (w.alloc (.cells #[.int .i64 t.k, .string (bs t.l), .string (bs t.x), .slice A n c, .string (bs t.e)] 24))) := Lib.hid ((Gr.refl w).alloc _)
  obtain ⟨W1, hW1⟩ : ∃ W1, W1 = w.alloc (.cells #[.int .i64 t.k, .string (bs t.l), .string (bs t.x), .slice A n c, .string (bs t.e)] 24) := ⟨_, rfl⟩
  obtain ⟨b0, hb0⟩ : ∃ b0, b0 = w.heap.size := ⟨_, rfl⟩
  rw [← hW1] at hbx HG1
  rw [← hb0] at hbx
  try rw [← hW1]
  try rw [← hb0]
  have HBX := Lib.hid hbx
  clear hW1 hbx hb0
  go_loopw [4, 5, 6] (fun av vv iv wr => ∃ j : Nat, j ≤ n ∧ iv = .int .i64 j ∧ av = .int .i64 (0 + mkL (t.ks.take j)) ∧ vv = .int .i64 (1 + vaL (t.ks.take j)) ∧ Gr W1 wr) (fun _ _ iv _ => n - (intOf iv).toNat)
  case atStart => exact ⟨0, Nat.zero_le _, rfl, by rw [List.take_zero, mkL_nil]; rfl, by rw [List.take_zero, vaL_nil]; rfl, Gr.refl _⟩
  case round =>
    obtain ⟨j, hj, rfl, rfl, rfl, hg⟩ := hrel
    have hbw := HBX.out.gr hg
    obtain ⟨k0, k1, k2, k3, k4⟩ := hbw.cells
    simp only at k0 k1 k2 k3 k4
    have kl := lt_of_block hbw
    have HG := Lib.hid hg
    clear hbw hg
    by_cases hlt : j < n
    · obtain ⟨y, hy⟩ : ∃ y, t.ks[j]? = some y := ⟨t.ks[j]'(by have := HN.out; omega), List.getElem?_eq_getElem _⟩
      obtain ⟨bk, ok, d, hA, _, hbk, hce, hre⟩ := (HK0.out.gr (HG1.out.trans HG.out)) j y hy
      subst hA
      obtain ⟨e0, e1, e2, e3, e4⟩ := hce
      have hlt1 : (j : Int) < (n : Int) := by omega
      have hcl := countL_get _ _ _ hy
      have HCALL := Lib.hid (HI.out d y wr hre (by have := HCT.out; omega))
      have m1 := mkL_take t.ks hy
      have m2 := vaL_take t.ks hy
      have b1 := vaL_le (t.ks.take j)
      have b2 := va_le y
      have b3 : (countL (t.ks.take j) : Int) + countF y ≤ 1000000 := by have := HCT.out; omega
      have w1 : wrap64 (0 + mkL (t.ks.take j) + mkF y) = 0 + mkL (t.ks.take (j + 1)) := by rw [m1, wrap64_inX _ ⟨by omega, by omega⟩]; omega
      have w2 : wrap64 (1 + vaL (t.ks.take j) + vaF y) = 1 + vaL (t.ks.take (j + 1)) := by rw [m2, wrap64_inX _ ⟨by omega, by omega⟩]; omega
      have HW1 := Lib.hid w1
      have HW2 := Lib.hid w2
      clear hy hre hcl m1 m2 b1 b2 b3 w1 w2
      obtain ⟨MA, hMA⟩ : ∃ z, z = 0 + mkL (t.ks.take j) := ⟨_, rfl⟩
      obtain ⟨VA, hVA⟩ : ∃ z, z = 1 + vaL (t.ks.take j) := ⟨_, rfl⟩
      obtain ⟨MY, hMY⟩ : ∃ z, z = mkF y := ⟨_, rfl⟩
      obtain ⟨VY, hVY⟩ : ∃ z, z = vaF y := ⟨_, rfl⟩
      rw [← hMY, ← hVY] at HCALL
      rw [← hMA, ← hMY] at HW1
      rw [← hVA, ← hVY] at HW2
      rw [← hMA, ← hVA]
      clear hMA hVA hMY hVY
      go_wp2_with (go_at_call 25; refine HCALL.out.mono ?_; rintro e w2 ⟨rfl, hb2⟩; (have HG2 := Lib.hid (HG.out.trans hb2)); clear hb2)
      go_roundw
      case rel => exact ⟨j + 1, by omega, by go_num, by rw [HW1.out], by rw [HW2.out], HG2.out⟩
      case measure => simp [intOf] <;> omega
    · have htk : t.ks.take j = t.ks := List.take_of_length_le (by have := HN.out; omega)
      have q1 : 0 + mkL (t.ks.take j) = mkF t := by rw [htk, HM.out]
      have q2 : 1 + vaL (t.ks.take j) = vaF t := by rw [htk, HV.out]
      rw [q1, q2]
      clear htk q1 q2
      go_wp2_with fail
      go_ret2
      exact ⟨rfl, HG1.out.trans HG.out⟩
set_option maxRecDepth 100000 in
set_option maxHeartbeats 4000000 in
theorem kinds_4 (m : Nat) (t : NT) (A : Option Addr) (n c : Nat) (w : World) (hn : n = t.ks.length) (hc : countF t ≤ 1000000) (HK0 : Hid (Kids anyB m w A t.ks)) (HI : Hid (∀ (v : ND) (t : NT) (w : World), NRep anyB m w v t → countF t ≤ 1000000 → Calls Try.prog 25 #[.agg #[.int .i64 v.k, .string (bs v.l), .string (bs v.x), .slice v.A v.n v.c, .string (bs v.e)]] w (R2II (mkF t, vaF t) w))) (hk : t.k = 4) : Calls Try.prog 25 #[.agg #[.int .i64 t.k, .string (bs t.l), .string (bs t.x), .slice A n c, .string (bs t.e)]] w (R2II (mkF t, vaF t) w) := by
  have hm : mk0 t.k = 0 := by unfold mk0; rw [hk]; decide
  have hv : cost0 t.k = 1 := by unfold cost0; rw [hk]; decide
  have hme := mkF_eq t
  have hve := vaF_eq t
  rw [hm] at hme
  rw [hv] at hve
  have r9 : (t.k == 9) = false := by simp [hk]
  have r10 : (t.k == 10) = false := by simp [hk]
  have r2 : (t.k == 2) = false := by simp [hk]
  have r3 : (t.k == 3) = false := by simp [hk]
  have r4 : (t.k == 4) = true := by simp [hk]
  have HM := Lib.hid hme
  have HV := Lib.hid hve
  have HN := Lib.hid hn
  have hct := countF_eq t
  have HCT : Hid (countL t.ks ≤ 1000000) := Lib.hid (by omega)
  have hn63 : n ≤ 1000000 := by have := ks_count t.ks; omega
  clear hm hv hme hve hn hc hct hk
  go_enter Try.func25, Try.ntmps25
  go_wp2_with fail
  have hbx : NBox (w.alloc (.cells #[.int .i64 t.k, .string (bs t.l), .string (bs t.x), .slice A n c, .string (bs t.e)] 24)) w.heap.size ⟨t.k, t.l, t.x, A, n, c, t.e⟩ := heap_alloc_new _ _
  have HG1 : Hid (Gr w (w.alloc (.cells #[.int .i64 t.k, .string (bs t.l), .string (bs t.x), .slice A n c, .string (bs t.e)] 24))) := Lib.hid ((Gr.refl w).alloc _)
  obtain ⟨W1, hW1⟩ : ∃ W1, W1 = w.alloc (.cells #[.int .i64 t.k, .string (bs t.l), .string (bs t.x), .slice A n c, .string (bs t.e)] 24) := ⟨_, rfl⟩
  obtain ⟨b0, hb0⟩ : ∃ b0, b0 = w.heap.size := ⟨_, rfl⟩
  rw [← hW1] at hbx HG1
  rw [← hb0] at hbx
  try rw [← hW1]
  try rw [← hb0]
  have HBX := Lib.hid hbx
  clear hW1 hbx hb0
  go_loopw [4, 5, 6] (fun av vv iv wr => ∃ j : Nat, j ≤ n ∧ iv = .int .i64 j ∧ av = .int .i64 (0 + mkL (t.ks.take j)) ∧ vv = .int .i64 (1 + vaL (t.ks.take j)) ∧ Gr W1 wr) (fun _ _ iv _ => n - (intOf iv).toNat)
  case atStart => exact ⟨0, Nat.zero_le _, rfl, by rw [List.take_zero, mkL_nil]; rfl, by rw [List.take_zero, vaL_nil]; rfl, Gr.refl _⟩
  case round =>
    obtain ⟨j, hj, rfl, rfl, rfl, hg⟩ := hrel
    have hbw := HBX.out.gr hg
    obtain ⟨k0, k1, k2, k3, k4⟩ := hbw.cells
    simp only at k0 k1 k2 k3 k4
    have kl := lt_of_block hbw
    have HG := Lib.hid hg
    clear hbw hg
    by_cases hlt : j < n
    · obtain ⟨y, hy⟩ : ∃ y, t.ks[j]? = some y := ⟨t.ks[j]'(by have := HN.out; omega), List.getElem?_eq_getElem _⟩
      obtain ⟨bk, ok, d, hA, _, hbk, hce, hre⟩ := (HK0.out.gr (HG1.out.trans HG.out)) j y hy
      subst hA
      obtain ⟨e0, e1, e2, e3, e4⟩ := hce
      have hlt1 : (j : Int) < (n : Int) := by omega
      have hcl := countL_get _ _ _ hy
      have HCALL := Lib.hid (HI.out d y wr hre (by have := HCT.out; omega))
      have m1 := mkL_take t.ks hy
      have m2 := vaL_take t.ks hy
      have b1 := vaL_le (t.ks.take j)
      have b2 := va_le y
      have b3 : (countL (t.ks.take j) : Int) + countF y ≤ 1000000 := by have := HCT.out; omega
      have w1 : wrap64 (0 + mkL (t.ks.take j) + mkF y) = 0 + mkL (t.ks.take (j + 1)) := by rw [m1, wrap64_inX _ ⟨by omega, by omega⟩]; omega
      have w2 : wrap64 (1 + vaL (t.ks.take j) + vaF y) = 1 + vaL (t.ks.take (j + 1)) := by rw [m2, wrap64_inX _ ⟨by omega, by omega⟩]; omega
      have HW1 := Lib.hid w1
      have HW2 := Lib.hid w2
      clear hy hre hcl m1 m2 b1 b2 b3 w1 w2
      obtain ⟨MA, hMA⟩ : ∃ z, z = 0 + mkL (t.ks.take j) := ⟨_, rfl⟩
      obtain ⟨VA, hVA⟩ : ∃ z, z = 1 + vaL (t.ks.take j) := ⟨_, rfl⟩
      obtain ⟨MY, hMY⟩ : ∃ z, z = mkF y := ⟨_, rfl⟩
      obtain ⟨VY, hVY⟩ : ∃ z, z = vaF y := ⟨_, rfl⟩
      rw [← hMY, ← hVY] at HCALL
      rw [← hMA, ← hMY] at HW1
      rw [← hVA, ← hVY] at HW2
      rw [← hMA, ← hVA]
      clear hMA hVA hMY hVY
      go_wp2_with (go_at_call 25; refine HCALL.out.mono ?_; rintro e w2 ⟨rfl, hb2⟩; (have HG2 := Lib.hid (HG.out.trans hb2)); clear hb2)
      go_roundw
      case rel => exact ⟨j + 1, by omega, by go_num, by rw [HW1.out], by rw [HW2.out], HG2.out⟩
      case measure => simp [intOf] <;> omega
    · have htk : t.ks.take j = t.ks := List.take_of_length_le (by have := HN.out; omega)
      have q1 : 0 + mkL (t.ks.take j) = mkF t := by rw [htk, HM.out]
      have q2 : 1 + vaL (t.ks.take j) = vaF t := by rw [htk, HV.out]
      rw [q1, q2]
      clear htk q1 q2
      go_wp2_with fail
      go_ret2
      exact ⟨rfl, HG1.out.trans HG.out⟩
set_option maxRecDepth 100000 in
set_option maxHeartbeats 4000000 in
theorem kinds_0 (m : Nat) (t : NT) (A : Option Addr) (n c : Nat) (w : World) (hn : n = t.ks.length) (hc : countF t ≤ 1000000) (HK0 : Hid (Kids anyB m w A t.ks)) (HI : Hid (∀ (v : ND) (t : NT) (w : World), NRep anyB m w v t → countF t ≤ 1000000 → Calls Try.prog 25 #[.agg #[.int .i64 v.k, .string (bs v.l), .string (bs v.x), .slice v.A v.n v.c, .string (bs v.e)]] w (R2II (mkF t, vaF t) w))) (h9 : t.k ≠ 9) (h10 : t.k ≠ 10) (h2 : t.k ≠ 2) (h3 : t.k ≠ 3) (h4 : t.k ≠ 4) : Calls Try.prog 25 #[.agg #[.int .i64 t.k, .string (bs t.l), .string (bs t.x), .slice A n c, .string (bs t.e)]] w (R2II (mkF t, vaF t) w) := by
  have hm : mk0 t.k = 0 := by unfold mk0; rw [if_neg (by omega)]
  have hv : cost0 t.k = 0 := by unfold cost0; rw [if_neg (by omega)]
  have hme := mkF_eq t
  have hve := vaF_eq t
  rw [hm] at hme
  rw [hv] at hve
  have r9 : (t.k == 9) = false := by simp [h9]
  have r10 : (t.k == 10) = false := by simp [h10]
  have r2 : (t.k == 2) = false := by simp [h2]
  have r3 : (t.k == 3) = false := by simp [h3]
  have r4 : (t.k == 4) = false := by simp [h4]
  have HM := Lib.hid hme
  have HV := Lib.hid hve
  have HN := Lib.hid hn
  have hct := countF_eq t
  have HCT : Hid (countL t.ks ≤ 1000000) := Lib.hid (by omega)
  have hn63 : n ≤ 1000000 := by have := ks_count t.ks; omega
  clear hm hv hme hve hn hc hct h9 h10 h2 h3 h4
  go_enter Try.func25, Try.ntmps25
  go_wp2_with fail
  have hbx : NBox (w.alloc (.cells #[.int .i64 t.k, .string (bs t.l), .string (bs t.x), .slice A n c, .string (bs t.e)] 24)) w.heap.size ⟨t.k, t.l, t.x, A, n, c, t.e⟩ := heap_alloc_new _ _
  have HG1 : Hid (Gr w (w.alloc (.cells #[.int .i64 t.k, .string (bs t.l), .string (bs t.x), .slice A n c, .string (bs t.e)] 24))) := Lib.hid ((Gr.refl w).alloc _)
  obtain ⟨W1, hW1⟩ : ∃ W1, W1 = w.alloc (.cells #[.int .i64 t.k, .string (bs t.l), .string (bs t.x), .slice A n c, .string (bs t.e)] 24) := ⟨_, rfl⟩
  obtain ⟨b0, hb0⟩ : ∃ b0, b0 = w.heap.size := ⟨_, rfl⟩
  rw [← hW1] at hbx HG1
  rw [← hb0] at hbx
  try rw [← hW1]
  try rw [← hb0]
  have HBX := Lib.hid hbx
  clear hW1 hbx hb0
  go_loopw [4, 5, 6] (fun av vv iv wr => ∃ j : Nat, j ≤ n ∧ iv = .int .i64 j ∧ av = .int .i64 (0 + mkL (t.ks.take j)) ∧ vv = .int .i64 (0 + vaL (t.ks.take j)) ∧ Gr W1 wr) (fun _ _ iv _ => n - (intOf iv).toNat)
  case atStart => exact ⟨0, Nat.zero_le _, rfl, by rw [List.take_zero, mkL_nil]; rfl, by rw [List.take_zero, vaL_nil]; rfl, Gr.refl _⟩
  case round =>
    obtain ⟨j, hj, rfl, rfl, rfl, hg⟩ := hrel
    have hbw := HBX.out.gr hg
    obtain ⟨k0, k1, k2, k3, k4⟩ := hbw.cells
    simp only at k0 k1 k2 k3 k4
    have kl := lt_of_block hbw
    have HG := Lib.hid hg
    clear hbw hg
    by_cases hlt : j < n
    · obtain ⟨y, hy⟩ : ∃ y, t.ks[j]? = some y := ⟨t.ks[j]'(by have := HN.out; omega), List.getElem?_eq_getElem _⟩
      obtain ⟨bk, ok, d, hA, _, hbk, hce, hre⟩ := (HK0.out.gr (HG1.out.trans HG.out)) j y hy
      subst hA
      obtain ⟨e0, e1, e2, e3, e4⟩ := hce
      have hlt1 : (j : Int) < (n : Int) := by omega
      have hcl := countL_get _ _ _ hy
      have HCALL := Lib.hid (HI.out d y wr hre (by have := HCT.out; omega))
      have m1 := mkL_take t.ks hy
      have m2 := vaL_take t.ks hy
      have b1 := vaL_le (t.ks.take j)
      have b2 := va_le y
      have b3 : (countL (t.ks.take j) : Int) + countF y ≤ 1000000 := by have := HCT.out; omega
      have w1 : wrap64 (0 + mkL (t.ks.take j) + mkF y) = 0 + mkL (t.ks.take (j + 1)) := by rw [m1, wrap64_inX _ ⟨by omega, by omega⟩]; omega
      have w2 : wrap64 (0 + vaL (t.ks.take j) + vaF y) = 0 + vaL (t.ks.take (j + 1)) := by rw [m2, wrap64_inX _ ⟨by omega, by omega⟩]; omega
      have HW1 := Lib.hid w1
      have HW2 := Lib.hid w2
      clear hy hre hcl m1 m2 b1 b2 b3 w1 w2
      obtain ⟨MA, hMA⟩ : ∃ z, z = 0 + mkL (t.ks.take j) := ⟨_, rfl⟩
      obtain ⟨VA, hVA⟩ : ∃ z, z = 0 + vaL (t.ks.take j) := ⟨_, rfl⟩
      obtain ⟨MY, hMY⟩ : ∃ z, z = mkF y := ⟨_, rfl⟩
      obtain ⟨VY, hVY⟩ : ∃ z, z = vaF y := ⟨_, rfl⟩
      rw [← hMY, ← hVY] at HCALL
      rw [← hMA, ← hMY] at HW1
      rw [← hVA, ← hVY] at HW2
      rw [← hMA, ← hVA]
      clear hMA hVA hMY hVY
      go_wp2_with (go_at_call 25; refine HCALL.out.mono ?_; rintro e w2 ⟨rfl, hb2⟩; (have HG2 := Lib.hid (HG.out.trans hb2)); clear hb2)
      go_roundw
      case rel => exact ⟨j + 1, by omega, by go_num, by rw [HW1.out], by rw [HW2.out], HG2.out⟩
      case measure => simp [intOf] <;> omega
    · have htk : t.ks.take j = t.ks := List.take_of_length_le (by have := HN.out; omega)
      have q1 : 0 + mkL (t.ks.take j) = mkF t := by rw [htk, HM.out]
      have q2 : 0 + vaL (t.ks.take j) = vaF t := by rw [htk, HV.out]
      rw [q1, q2]
      clear htk q1 q2
      go_wp2_with fail
      go_ret2
      exact ⟨rfl, HG1.out.trans HG.out⟩
theorem kinds_any : ∀ m : Nat, ∀ (v : ND) (t : NT) (w : World), NRep anyB m w v t → countF t ≤ 1000000 → Calls Try.prog 25 #[.agg #[.int .i64 v.k, .string (bs v.l), .string (bs v.x), .slice v.A v.n v.c, .string (bs v.e)]] w (R2II (mkF t, vaF t) w) := by
  intro m
  induction m with
  | zero => intro v t w h; exact h.elim
  | succ m ih =>
    intro v t w hr hc
    obtain ⟨A, n, c, rfl, p1, p2, p3, p4, p5, p6, p7, p8, p9⟩ := hr.open5
    dsimp only
    have HK := Lib.hid p9
    have HI := Lib.hid ih
    by_cases h9 : t.k = 9
    · exact kinds_9 m t A n c w p1 hc HK HI h9
    by_cases h10 : t.k = 10
    · exact kinds_10 m t A n c w p1 hc HK HI h10
    by_cases h2 : t.k = 2
    · exact kinds_2 m t A n c w p1 hc HK HI h2
    by_cases h3 : t.k = 3
    · exact kinds_3 m t A n c w p1 hc HK HI h3
    by_cases h4 : t.k = 4
    · exact kinds_4 m t A n c w p1 hc HK HI h4
    · exact kinds_0 m t A n c w p1 hc HK HI h9 h10 h2 h3 h4
end Go.Proofs.Ytbfnmgiccbdglaa
