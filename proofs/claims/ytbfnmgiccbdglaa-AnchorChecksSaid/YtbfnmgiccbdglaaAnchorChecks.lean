/- AnchorChecks returns true for every input: Check and Cost answer as the reference's. No condition. -/
import Derived.Test.YtbfnmgiccbdglaaAnAwake
import Derived.Test.YtbfnmgiccbdglaaAnRCk
namespace Go.Proofs.Ytbfnmgiccbdglaa
open Go.ChangeShapes Go.WideShapes Go.ChangeAt Go.RowKit

set_option maxRecDepth 100000 in
set_option maxHeartbeats 4000000 in
theorem smallC_any (m : Nat) (v : ND) (t : NT) (w : World) (hr : NRep anyB m w v t) : Calls Try.prog 9 #[.agg #[.int .i64 v.k, .string (bs v.l), .string (bs v.x), .slice v.A v.n v.c, .string (bs v.e)]] w (RB (smallB t 60 140 2000) w) := by
  have hcall := smallP_any m v t 60 140 2000 (w.alloc (.cells #[.int .i64 v.k, .string (bs v.l), .string (bs v.x), .slice v.A v.n v.c, .string (bs v.e)] 24)) (hr.gr ((Gr.refl w).alloc _)) (by omega) (by omega) (by omega) (by omega) (by omega) (by omega)
  have HC := Lib.hid hcall
  clear hcall hr
  go_enter Try.func9, Try.ntmps9
  go_wp2_with fail
  refine HC.out.mono ?_
  rintro e w1 ⟨rfl, hb1⟩
  have hg1 : Gr w w1 := ((Gr.refl w).alloc _).trans hb1
  go_wp2_with fail
  go_ret
  exact ⟨rfl, hg1⟩
theorem smallC_facts {t : NT} (h : smallB t 60 140 2000 = true) : countF t ≤ 60 ∧ depthF t ≤ 140 ∧ lenF t ≤ 360000 := by
  unfold smallB at h
  simp only [decide_eq_true_eq] at h
  obtain ⟨q1, q2, q3⟩ := roomF_ok t 60 140 2000 h
  have h2 : (countF t : Int) ≤ 60 := by omega
  have h3 : (countF t : Int) * (3 * 2000) ≤ 60 * (3 * 2000) := Int.mul_le_mul_of_nonneg_right h2 (by omega)
  omega
set_option maxRecDepth 100000 in
set_option maxHeartbeats 4000000 in
theorem checks_out (v : ND) (L : U5) (w : World) (HS : Hid (∀ W, Gr w W → Calls Try.prog 9 #[.agg #[.int .i64 v.k, .string (bs v.l), .string (bs v.x), .slice v.A v.n v.c, .string (bs v.e)]] W (RB false W))) : Calls Try.prog 4 #[.agg #[.int .i64 v.k, .string (bs v.l), .string (bs v.x), .slice v.A v.n v.c, .string (bs v.e)], .agg #[.int .i64 L.d, .int .i64 L.n, .int .i64 L.b, .int .i64 L.a, .int .i64 L.x]] w (RB true w) := by
  go_enter Try.func4, Try.ntmps4
  go_wp2_with fail
  obtain ⟨nb, hnb⟩ : ∃ nb, nb = w.heap.size := ⟨_, rfl⟩
  obtain ⟨W1, hW1⟩ : ∃ W1, W1 = (w.alloc (.cells #[.int .i64 v.k, .string (bs v.l), .string (bs v.x), .slice v.A v.n v.c, .string (bs v.e)] 24)).alloc (.cells #[.int .i64 L.d, .int .i64 L.n, .int .i64 L.b, .int .i64 L.a, .int .i64 L.x] 35) := ⟨_, rfl⟩
  have hg1 : Gr w W1 := by rw [hW1]; exact ((Gr.refl w).alloc _).alloc _
  have hn1 : NBox W1 nb v := by
    rw [hW1, hnb]
    exact NBox.gr (heap_alloc_new w (.cells #[.int .i64 v.k, .string (bs v.l), .string (bs v.x), .slice v.A v.n v.c, .string (bs v.e)] 24)) ((Gr.refl _).alloc _)
  have hl1 : L5Box W1 (nb + 1) L := by
    have h := heap_alloc_new (w.alloc (.cells #[.int .i64 v.k, .string (bs v.l), .string (bs v.x), .slice v.A v.n v.c, .string (bs v.e)] 24)) (.cells #[.int .i64 L.d, .int .i64 L.n, .int .i64 L.b, .int .i64 L.a, .int .i64 L.x] 35)
    rw [show (w.alloc (.cells #[.int .i64 v.k, .string (bs v.l), .string (bs v.x), .slice v.A v.n v.c, .string (bs v.e)] 24)).heap.size = nb + 1 by simp [hnb]] at h
    rw [hW1]
    exact h
  try rw [← hnb]
  try rw [← hW1]
  clear hW1 hnb
  refine (HS.out _ hg1).mono ?_
  rintro e w2 ⟨rfl, hb2⟩
  have hg2 := hg1.trans hb2
  clear hb2 hg1 hn1 hl1
  go_wp2_with fail
  refine (awake_any _).mono ?_
  rintro e w3 ⟨rfl, hb3⟩
  go_wp2_with fail
  go_ret
  exact ⟨rfl, hg2.trans hb3⟩
set_option maxRecDepth 100000 in
set_option maxHeartbeats 4000000 in
theorem checks_in (v : ND) (L : U5) (q : U5 × Int) (c : Int × Int) (w : World) (HS : Hid (∀ W, Gr w W → Calls Try.prog 9 #[.agg #[.int .i64 v.k, .string (bs v.l), .string (bs v.x), .slice v.A v.n v.c, .string (bs v.e)]] W (RB true W))) (HC1 : Hid (∀ W, Gr w W → Calls Try.prog 15 #[.agg #[.int .i64 v.k, .string (bs v.l), .string (bs v.x), .slice v.A v.n v.c, .string (bs v.e)], .agg #[.int .i64 L.d, .int .i64 L.n, .int .i64 L.b, .int .i64 L.a, .int .i64 L.x]] W (fun e w' => e = .returned (.tuple #[.agg #[.int .i64 q.1.d, .int .i64 q.1.n, .int .i64 q.1.b, .int .i64 q.1.a, .int .i64 q.1.x], .int .i64 q.2]) ∧ Gr W w'))) (HC2 : Hid (∀ W, Gr w W → Calls Try.prog 16 #[.agg #[.int .i64 v.k, .string (bs v.l), .string (bs v.x), .slice v.A v.n v.c, .string (bs v.e)], .agg #[.int .i64 L.d, .int .i64 L.n, .int .i64 L.b, .int .i64 L.a, .int .i64 L.x]] W (fun e w' => e = .returned (.tuple #[.agg #[.int .i64 q.1.d, .int .i64 q.1.n, .int .i64 q.1.b, .int .i64 q.1.a, .int .i64 q.1.x], .int .i64 q.2]) ∧ Gr W w'))) (HK1 : Hid (∀ W, Gr w W → Calls Try.prog 17 #[.agg #[.int .i64 v.k, .string (bs v.l), .string (bs v.x), .slice v.A v.n v.c, .string (bs v.e)]] W (fun e w' => e = .returned (.tuple #[.int .i64 c.1, .int .i64 c.2]) ∧ Gr W w'))) (HK2 : Hid (∀ W, Gr w W → Calls Try.prog 18 #[.agg #[.int .i64 v.k, .string (bs v.l), .string (bs v.x), .slice v.A v.n v.c, .string (bs v.e)]] W (fun e w' => e = .returned (.tuple #[.int .i64 c.1, .int .i64 c.2]) ∧ Gr W w'))) : Calls Try.prog 4 #[.agg #[.int .i64 v.k, .string (bs v.l), .string (bs v.x), .slice v.A v.n v.c, .string (bs v.e)], .agg #[.int .i64 L.d, .int .i64 L.n, .int .i64 L.b, .int .i64 L.a, .int .i64 L.x]] w (RB true w) := by
  have e1 : (q.1.d == q.1.d) = true := by simp
  have e2 : (q.1.n == q.1.n) = true := by simp
  have e3 : (q.1.b == q.1.b) = true := by simp
  have e4 : (q.1.a == q.1.a) = true := by simp
  have e5 : (q.1.x == q.1.x) = true := by simp
  have e6 : (q.2 == q.2) = true := by simp
  have e7 : (c.1 == c.1) = true := by simp
  have e8 : (c.2 == c.2) = true := by simp
  go_enter Try.func4, Try.ntmps4
  go_wp2_with fail
  obtain ⟨nb, hnb⟩ : ∃ nb, nb = w.heap.size := ⟨_, rfl⟩
  obtain ⟨W1, hW1⟩ : ∃ W1, W1 = (w.alloc (.cells #[.int .i64 v.k, .string (bs v.l), .string (bs v.x), .slice v.A v.n v.c, .string (bs v.e)] 24)).alloc (.cells #[.int .i64 L.d, .int .i64 L.n, .int .i64 L.b, .int .i64 L.a, .int .i64 L.x] 35) := ⟨_, rfl⟩
  have hg1 : Gr w W1 := by rw [hW1]; exact ((Gr.refl w).alloc _).alloc _
  have hn1 : NBox W1 nb v := by
    rw [hW1, hnb]
    exact NBox.gr (heap_alloc_new w (.cells #[.int .i64 v.k, .string (bs v.l), .string (bs v.x), .slice v.A v.n v.c, .string (bs v.e)] 24)) ((Gr.refl _).alloc _)
  have hl1 : L5Box W1 (nb + 1) L := by
    have h := heap_alloc_new (w.alloc (.cells #[.int .i64 v.k, .string (bs v.l), .string (bs v.x), .slice v.A v.n v.c, .string (bs v.e)] 24)) (.cells #[.int .i64 L.d, .int .i64 L.n, .int .i64 L.b, .int .i64 L.a, .int .i64 L.x] 35)
    rw [show (w.alloc (.cells #[.int .i64 v.k, .string (bs v.l), .string (bs v.x), .slice v.A v.n v.c, .string (bs v.e)] 24)).heap.size = nb + 1 by simp [hnb]] at h
    rw [hW1]
    exact h
  try rw [← hnb]
  try rw [← hW1]
  clear hW1 hnb
  refine (HS.out _ hg1).mono ?_
  rintro e w2 ⟨rfl, hb2⟩
  have HG1 := Lib.hid hg1
  have HN1 := Lib.hid hn1
  have HL1 := Lib.hid hl1
  clear hg1 hn1 hl1
  have HG2 := Lib.hid (HG1.out.trans hb2)
  have HN2 := Lib.hid (HN1.out.gr hb2)
  have HL2 := Lib.hid (HL1.out.gr hb2)
  clear hb2 HG1 HN1 HL1
  obtain ⟨k0, k1, k2, k3, k4⟩ := HN2.out.cells
  have kl := lt_of_block HN2.out
  have l0 := cell_of_cells HL2.out 0
  have l1 := cell_of_cells HL2.out 1
  have l2 := cell_of_cells HL2.out 2
  have l3 := cell_of_cells HL2.out 3
  have l4 := cell_of_cells HL2.out 4
  have ll := lt_of_block HL2.out
  go_wp2_with fail
  refine (HC1.out _ HG2.out).mono ?_
  rintro e w3 ⟨rfl, hb3⟩
  clear k0 k1 k2 k3 k4 l0 l1 l2 l3 l4 kl ll
  have HG3 := Lib.hid (HG2.out.trans hb3)
  have HN3 := Lib.hid (HN2.out.gr hb3)
  have HL3 := Lib.hid (HL2.out.gr hb3)
  clear hb3 HG2 HN2 HL2
  obtain ⟨k0, k1, k2, k3, k4⟩ := HN3.out.cells
  have kl := lt_of_block HN3.out
  have l0 := cell_of_cells HL3.out 0
  have l1 := cell_of_cells HL3.out 1
  have l2 := cell_of_cells HL3.out 2
  have l3 := cell_of_cells HL3.out 3
  have l4 := cell_of_cells HL3.out 4
  have ll := lt_of_block HL3.out
  go_wp2_with fail
  clear k0 k1 k2 k3 k4 l0 l1 l2 l3 l4 kl ll
  obtain ⟨bU, hbU⟩ : ∃ b, b = w3.heap.size := ⟨_, rfl⟩
  have hxU : UBox (w3.alloc (.cells #[.int .i64 q.1.d, .int .i64 q.1.n, .int .i64 q.1.b, .int .i64 q.1.a, .int .i64 q.1.x] 36)) bU q.1 := by rw [hbU]; exact heap_alloc_new w3 _
  have hgaU : Gr w3 (w3.alloc (.cells #[.int .i64 q.1.d, .int .i64 q.1.n, .int .i64 q.1.b, .int .i64 q.1.a, .int .i64 q.1.x] 36)) := (Gr.refl _).alloc _
  try rw [← hbU]
  have HX4 := Lib.hid (HG3.out.trans hgaU)
  have HY4 := Lib.hid (HN3.out.gr hgaU)
  have HZ4 := Lib.hid (HL3.out.gr hgaU)
  generalize (w3.alloc (.cells #[.int .i64 q.1.d, .int .i64 q.1.n, .int .i64 q.1.b, .int .i64 q.1.a, .int .i64 q.1.x] 36)) = w4 at *
  have HG4 := Lib.hid HX4.out
  have HN4 := Lib.hid HY4.out
  have HL4 := Lib.hid HZ4.out
  have HU4 := Lib.hid hxU
  clear HX4 HY4 HZ4 hxU hgaU hbU HG3 HN3 HL3
  refine (HC2.out _ HG4.out).mono ?_
  rintro e w5 ⟨rfl, hb5⟩
  have HG5 := Lib.hid (HG4.out.trans hb5)
  have HN5 := Lib.hid (HN4.out.gr hb5)
  have HL5 := Lib.hid (HL4.out.gr hb5)
  have HU5 := Lib.hid (HU4.out.gr hb5)
  clear hb5 HG4 HN4 HL4 HU4
  obtain ⟨k0, k1, k2, k3, k4⟩ := HN5.out.cells
  have kl := lt_of_block HN5.out
  have l0 := cell_of_cells HL5.out 0
  have l1 := cell_of_cells HL5.out 1
  have l2 := cell_of_cells HL5.out 2
  have l3 := cell_of_cells HL5.out 3
  have l4 := cell_of_cells HL5.out 4
  have ll := lt_of_block HL5.out
  have u0 := cell_of_cells HU5.out 0
  have u1 := cell_of_cells HU5.out 1
  have u2 := cell_of_cells HU5.out 2
  have u3 := cell_of_cells HU5.out 3
  have u4 := cell_of_cells HU5.out 4
  have ul := lt_of_block HU5.out
  go_wp2_with fail
  clear k0 k1 k2 k3 k4 l0 l1 l2 l3 l4 u0 u1 u2 u3 u4 kl ll ul
  obtain ⟨bV, hbV⟩ : ∃ b, b = w5.heap.size := ⟨_, rfl⟩
  have hxV : UBox (w5.alloc (.cells #[.int .i64 q.1.d, .int .i64 q.1.n, .int .i64 q.1.b, .int .i64 q.1.a, .int .i64 q.1.x] 36)) bV q.1 := by rw [hbV]; exact heap_alloc_new w5 _
  have hgaV : Gr w5 (w5.alloc (.cells #[.int .i64 q.1.d, .int .i64 q.1.n, .int .i64 q.1.b, .int .i64 q.1.a, .int .i64 q.1.x] 36)) := (Gr.refl _).alloc _
  try rw [← hbV]
  have HX6 := Lib.hid (HG5.out.trans hgaV)
  have HY6 := Lib.hid (HN5.out.gr hgaV)
  have HZ6 := Lib.hid (HL5.out.gr hgaV)
  have HWU6 := Lib.hid (HU5.out.gr hgaV)
  generalize (w5.alloc (.cells #[.int .i64 q.1.d, .int .i64 q.1.n, .int .i64 q.1.b, .int .i64 q.1.a, .int .i64 q.1.x] 36)) = w6 at *
  have HG6 := Lib.hid HX6.out
  have HN6 := Lib.hid HY6.out
  have HL6 := Lib.hid HZ6.out
  have HV6 := Lib.hid hxV
  have HU6 := Lib.hid HWU6.out
  clear HX6 HY6 HZ6 hxV hgaV hbV HG5 HN5 HL5 HU5 HWU6
  refine (HK1.out _ HG6.out).mono ?_
  rintro e w7 ⟨rfl, hb7⟩
  have HG7 := Lib.hid (HG6.out.trans hb7)
  have HN7 := Lib.hid (HN6.out.gr hb7)
  have HL7 := Lib.hid (HL6.out.gr hb7)
  have HU7 := Lib.hid (HU6.out.gr hb7)
  have HV7 := Lib.hid (HV6.out.gr hb7)
  clear hb7 HG6 HN6 HL6 HU6 HV6
  obtain ⟨k0, k1, k2, k3, k4⟩ := HN7.out.cells
  have kl := lt_of_block HN7.out
  have l0 := cell_of_cells HL7.out 0
  have l1 := cell_of_cells HL7.out 1
  have l2 := cell_of_cells HL7.out 2
  have l3 := cell_of_cells HL7.out 3
  have l4 := cell_of_cells HL7.out 4
  have ll := lt_of_block HL7.out
  have u0 := cell_of_cells HU7.out 0
  have u1 := cell_of_cells HU7.out 1
  have u2 := cell_of_cells HU7.out 2
  have u3 := cell_of_cells HU7.out 3
  have u4 := cell_of_cells HU7.out 4
  have ul := lt_of_block HU7.out
  have v0 := cell_of_cells HV7.out 0
  have v1 := cell_of_cells HV7.out 1
  have v2 := cell_of_cells HV7.out 2
  have v3 := cell_of_cells HV7.out 3
  have v4 := cell_of_cells HV7.out 4
  have vl := lt_of_block HV7.out
  go_wp2_with fail
  refine (HK2.out _ HG7.out).mono ?_
  rintro e w8 ⟨rfl, hb8⟩
  clear k0 k1 k2 k3 k4 l0 l1 l2 l3 l4 u0 u1 u2 u3 u4 v0 v1 v2 v3 v4 kl ll ul vl
  have HG8 := Lib.hid (HG7.out.trans hb8)
  have HN8 := Lib.hid (HN7.out.gr hb8)
  have HL8 := Lib.hid (HL7.out.gr hb8)
  have HU8 := Lib.hid (HU7.out.gr hb8)
  have HV8 := Lib.hid (HV7.out.gr hb8)
  clear hb8 HG7 HN7 HL7 HU7 HV7
  obtain ⟨k0, k1, k2, k3, k4⟩ := HN8.out.cells
  have kl := lt_of_block HN8.out
  have l0 := cell_of_cells HL8.out 0
  have l1 := cell_of_cells HL8.out 1
  have l2 := cell_of_cells HL8.out 2
  have l3 := cell_of_cells HL8.out 3
  have l4 := cell_of_cells HL8.out 4
  have ll := lt_of_block HL8.out
  have u0 := cell_of_cells HU8.out 0
  have u1 := cell_of_cells HU8.out 1
  have u2 := cell_of_cells HU8.out 2
  have u3 := cell_of_cells HU8.out 3
  have u4 := cell_of_cells HU8.out 4
  have ul := lt_of_block HU8.out
  have v0 := cell_of_cells HV8.out 0
  have v1 := cell_of_cells HV8.out 1
  have v2 := cell_of_cells HV8.out 2
  have v3 := cell_of_cells HV8.out 3
  have v4 := cell_of_cells HV8.out 4
  have vl := lt_of_block HV8.out
  go_wp2_with fail
  refine (awake_any _).mono ?_
  rintro e w9 ⟨rfl, hb9⟩
  go_wp2_with fail
  go_ret
  exact ⟨rfl, HG8.out.trans hb9⟩
set_option maxRecDepth 100000 in
set_option maxHeartbeats 4000000 in
theorem anchorChecks_any (m : Nat) (v : ND) (t : NT) (L : U5) (w : World) (hr : NRep anyB m w v t) : Calls Try.prog 4 #[.agg #[.int .i64 v.k, .string (bs v.l), .string (bs v.x), .slice v.A v.n v.c, .string (bs v.e)], .agg #[.int .i64 L.d, .int .i64 L.n, .int .i64 L.b, .int .i64 L.a, .int .i64 L.x]] w (RB true w) := by
  have hs := fun W (hg : Gr w W) => smallC_any m v t W (hr.gr hg)
  cases hsm : smallB t 60 140 2000 with
  | false =>
    rw [hsm] at hs
    exact checks_out v L w (Lib.hid hs)
  | true =>
    rw [hsm] at hs
    obtain ⟨f1, _, f3⟩ := smallC_facts hsm
    have hl : lenF t ≤ 1152921504606846976 := Nat.le_trans f3 (by decide)
    have hc : countF t ≤ 1000000 := Nat.le_trans f1 (by decide)
    exact checks_in v L (chkF L t) (costF t) w (Lib.hid hs) (Lib.hid (fun W hg => CheckA_any m v t L W (hr.gr hg) hl hc)) (Lib.hid (fun W hg => by rw [← chkR_eq]; exact CheckRR_any m v t L W (hr.gr hg) hl hc)) (Lib.hid (fun W hg => costP_any m v t W (hr.gr hg) hl hc)) (Lib.hid (fun W hg => by rw [← costR_eq]; exact costRR_any m v t W (hr.gr hg) hl hc))
namespace AnchorChecks
set_option maxRecDepth 100000 in
theorem lifted (os : Os) (started : os.Started) (H : Type) (enc : TypeId × Value → H) :
    ReturnsInHanded {} Try.checked os 4 .any (Rows.anchorChecksSpec.pre6 enc Try.prog Try.f4 Rows.anchorChecksRow.domain false) (Rows.anchorChecksSpec.post enc Try.prog Try.f4 false true false false) := by
  refine law_lifted (C := Try.checked) (tb := 4) own started (by kernel_rfl) Try.func4 laidOut rfl rfl Try.underlying4 (by kernel_rfl) ?_
    (ChangeSpec.witness6 (enc := enc) (C := Try.checked) false ⟨#[], #[.agg #[.int .i64 0, .string ⟨#[]⟩, .string ⟨#[]⟩, .slice none 0 0, .string ⟨#[]⟩], .agg #[.int .i64 0, .int .i64 0, .int .i64 0, .int .i64 0, .int .i64 0]], []⟩ 8 (by kernel_rfl) (by kernel_rfl) (by kernel_rfl) (by kernel_rfl)) ?_
  · intro ds hl
    match ds, hl with
    | [_, _], _ => rfl
  · intro W base args ds ps hval0 hA0 hlt
    have hval : ∀ (j : Nat) t v, Try.f4.params[j]? = some t → args[j]? = some v → Value.okWide Try.prog W .any base t v := hval0
    have hA : DataW.TrodAll enc Try.prog W 0 (fun _ => true) true Try.f4.params.toList args.toList ds ps := hA0
    rw [Try.params4] at hA hval
    obtain ⟨v0, v1, d0, d1, p0, p1, rfl, rfl, rfl, h0, h1⟩ := trodAll_two hA
    obtain ⟨ev0, tv0, mv0, rfl, hrv0⟩ := open_node (hval 0 24 v0 rfl rfl) h0
    obtain ⟨d, n, b, a, x, rfl, wL⟩ := open_int5 Try.underlying35 Try.underlying3 (by kernel_rfl) (hval 1 35 v1 rfl rfl) h1
    exact anchorChecks_any mv0 ev0 tv0 ⟨d, n, b, a, x⟩ W hrv0

theorem proved : Rows.AnchorChecksSaid :=
  OpenClaim.holds_of_wide 4 Try.f4 rfl rfl rfl rfl rfl rfl rfl ⟨rfl, rfl, rfl, rfl, rfl⟩ rfl rfl rfl rfl rfl (by kernel_rfl) Try.func4 (by kernel_rfl)
    (of_decide_eq_true (by kernel_rfl)) (by unfold Func.isWrapper; first | (rw [if_pos (by decide +kernel)]; kernel_rfl) | (rw [if_neg (by decide +kernel)]; exact ⟨rfl, rfl⟩))
    (fun os started H enc _ => lifted os started H enc)
end AnchorChecks
end Go.Proofs.Ytbfnmgiccbdglaa
