/- AnchorBounded returns true for every input. No condition. -/
import Derived.Test.YtbfnmgiccbdglaaAnAwake
import Derived.Test.YtbfnmgiccbdglaaAnXLight
import Derived.Test.YtbfnmgiccbdglaaAnXPd
import Derived.Test.YtbfnmgiccbdglaaAnSame
import Derived.Test.YtbfnmgiccbdglaaAnKinds
namespace Go.Proofs.Ytbfnmgiccbdglaa
open Go.ChangeShapes Go.WideShapes Go.ChangeAt Go.RowKit

theorem sameB_any (t : NT) (d d' : ND) (W : World) (h : NR anyB W d t) (h' : NR anyB W d' t) : Calls Try.prog 24 #[.agg #[.int .i64 d.k, .string (bs d.l), .string (bs d.x), .slice d.A d.n d.c, .string (bs d.e)], .agg #[.int .i64 d'.k, .string (bs d'.l), .string (bs d'.x), .slice d'.A d'.n d'.c, .string (bs d'.e)]] W (RB true W) := by
  obtain ⟨m1, h1⟩ := h
  obtain ⟨m2, h2⟩ := h'
  exact sameRP_any (m1 + m2) d t d' t true W (h1.ups _ (by omega)) (h2.ups _ (by omega)) (sameF_refl t)
set_option maxRecDepth 100000 in
set_option maxHeartbeats 4000000 in
theorem bounded_out (v : ND) (L : U5) (w : World) (HS : Hid (∀ W, Gr w W → Calls Try.prog 21 #[.agg #[.int .i64 v.k, .string (bs v.l), .string (bs v.x), .slice v.A v.n v.c, .string (bs v.e)]] W (RB false W))) : Calls Try.prog 8 #[.agg #[.int .i64 v.k, .string (bs v.l), .string (bs v.x), .slice v.A v.n v.c, .string (bs v.e)], .agg #[.int .i64 L.d, .int .i64 L.n, .int .i64 L.b, .int .i64 L.a, .int .i64 L.x]] w (RB true w) := by
  go_enter Try.func8, Try.ntmps8
  go_wp2_with fail
  obtain ⟨nb, hnb⟩ : ∃ nb, nb = w.heap.size := ⟨_, rfl⟩
  obtain ⟨W1, hW1⟩ : ∃ W1, W1 = (w.alloc (.cells #[.int .i64 v.k, .string (bs v.l), .string (bs v.x), .slice v.A v.n v.c, .string (bs v.e)] 24)).alloc (.cells #[.int .i64 L.d, .int .i64 L.n, .int .i64 L.b, .int .i64 L.a, .int .i64 L.x] 35) := ⟨_, rfl⟩
  have hg1 : Gr w W1 := by rw [hW1]; exact ((Gr.refl w).alloc _).alloc _
  have hn1 : NBox W1 nb v := by
    rw [hW1, hnb]
    exact NBox.gr (heap_alloc_new w (.cells #[.int .i64 v.k, .string (bs v.l), .string (bs v.x), .slice v.A v.n v.c, .string (bs v.e)] 24)) ((Gr.refl _).alloc _)
  have hl1 : L5Box W1 (nb + 1) L := by
    have h := heap_alloc_new (w.alloc (.cells #[.int .i64 v.k, .string (bs v.l), .string (bs v.x), .slice v.A v.n v.c, .string (bs v.e)] 24)) (.cells #[.int .i64 L.d, .int .i64 L.n, .int .i64 L.b, .int .i64 L.a, .int .i64 L.x] 35)
    rw [show (w.alloc (.cells #[.int .i64 v.k, .string (bs v.l), .string (bs v.x), .slice v.A v.n v.c, .string (bs v.e)] 24)).heap.size = nb + 1 by simp [hnb]] at h
    rw [hW1]
    exact h
  try rw [← hnb]
  try rw [← hW1]
  have HG1 := Lib.hid hg1
  have HN1 := Lib.hid hn1
  have HL1 := Lib.hid hl1
  clear hW1 hnb hg1 hn1 hl1
  go_wp2_with (first | (go_at_call 21; refine (HS.out _ HG1.out).mono ?_; rintro e w2 ⟨rfl, hb2⟩; (have hn2 := HN1.out.gr hb2); (have hl2 := HL1.out.gr hb2); (have k0 := cell_of_cells hn2 0); (have k1 := cell_of_cells hn2 1); (have k2 := cell_of_cells hn2 2); (have k3 := cell_of_cells hn2 3); (have k4 := cell_of_cells hn2 4); (have kl := lt_of_block hn2); (have l0 := cell_of_cells hl2 0); (have l1 := cell_of_cells hl2 1); (have l2 := cell_of_cells hl2 2); (have l3 := cell_of_cells hl2 3); (have l4 := cell_of_cells hl2 4); (have ll := lt_of_block hl2); (have HG2 := Lib.hid (HG1.out.trans hb2)); (have HN2 := Lib.hid hn2); (have HL2 := Lib.hid hl2); clear hb2 hn2 hl2) | (go_at_call 10; refine (awake_any _).mono ?_; rintro e w9 ⟨rfl, hbw9⟩))
  go_ret
  exact ⟨rfl, HG2.out.trans hbw9⟩
set_option maxRecDepth 100000 in
set_option maxHeartbeats 4000000 in
theorem bounded_er (v : ND) (L : U5) (ec : Int) (q : NT) (hec : ec ≠ 0) (w : World) (HS : Hid (∀ W, Gr w W → Calls Try.prog 21 #[.agg #[.int .i64 v.k, .string (bs v.l), .string (bs v.x), .slice v.A v.n v.c, .string (bs v.e)]] W (RB true W))) (HC : Hid (∀ W, Gr w W → Calls Try.prog 15 #[.agg #[.int .i64 v.k, .string (bs v.l), .string (bs v.x), .slice v.A v.n v.c, .string (bs v.e)], .agg #[.int .i64 L.d, .int .i64 L.n, .int .i64 L.b, .int .i64 L.a, .int .i64 L.x]] W (fun e w' => e = .returned (.tuple #[.agg #[.int .i64 0, .int .i64 0, .int .i64 0, .int .i64 0, .int .i64 0], .int .i64 ec]) ∧ Gr W w'))) (HX : Hid (∀ W, Gr w W → Calls Try.prog 22 #[.agg #[.int .i64 v.k, .string (bs v.l), .string (bs v.x), .slice v.A v.n v.c, .string (bs v.e)], .agg #[.int .i64 L.d, .int .i64 L.n, .int .i64 L.b, .int .i64 L.a, .int .i64 L.x]] W (RNI (q, ec) W))) : Calls Try.prog 8 #[.agg #[.int .i64 v.k, .string (bs v.l), .string (bs v.x), .slice v.A v.n v.c, .string (bs v.e)], .agg #[.int .i64 L.d, .int .i64 L.n, .int .i64 L.b, .int .i64 L.a, .int .i64 L.x]] w (RB true w) := by
  have e1 : (ec != 0) = true := by simp [hec]
  have e2 : (ec == ec) = true := by simp
  go_enter Try.func8, Try.ntmps8
  go_wp2_with fail
  obtain ⟨nb, hnb⟩ : ∃ nb, nb = w.heap.size := ⟨_, rfl⟩
  obtain ⟨W1, hW1⟩ : ∃ W1, W1 = (w.alloc (.cells #[.int .i64 v.k, .string (bs v.l), .string (bs v.x), .slice v.A v.n v.c, .string (bs v.e)] 24)).alloc (.cells #[.int .i64 L.d, .int .i64 L.n, .int .i64 L.b, .int .i64 L.a, .int .i64 L.x] 35) := ⟨_, rfl⟩
  have hg1 : Gr w W1 := by rw [hW1]; exact ((Gr.refl w).alloc _).alloc _
  have hn1 : NBox W1 nb v := by
    rw [hW1, hnb]
    exact NBox.gr (heap_alloc_new w (.cells #[.int .i64 v.k, .string (bs v.l), .string (bs v.x), .slice v.A v.n v.c, .string (bs v.e)] 24)) ((Gr.refl _).alloc _)
  have hl1 : L5Box W1 (nb + 1) L := by
    have h := heap_alloc_new (w.alloc (.cells #[.int .i64 v.k, .string (bs v.l), .string (bs v.x), .slice v.A v.n v.c, .string (bs v.e)] 24)) (.cells #[.int .i64 L.d, .int .i64 L.n, .int .i64 L.b, .int .i64 L.a, .int .i64 L.x] 35)
    rw [show (w.alloc (.cells #[.int .i64 v.k, .string (bs v.l), .string (bs v.x), .slice v.A v.n v.c, .string (bs v.e)] 24)).heap.size = nb + 1 by simp [hnb]] at h
    rw [hW1]
    exact h
  try rw [← hnb]
  try rw [← hW1]
  have HG1 := Lib.hid hg1
  have HN1 := Lib.hid hn1
  have HL1 := Lib.hid hl1
  clear hW1 hnb hg1 hn1 hl1
  go_wp2_with (first | (go_at_call 21; refine (HS.out _ HG1.out).mono ?_; rintro e w2 ⟨rfl, hb2⟩; (have hn2 := HN1.out.gr hb2); (have hl2 := HL1.out.gr hb2); (have k0 := cell_of_cells hn2 0); (have k1 := cell_of_cells hn2 1); (have k2 := cell_of_cells hn2 2); (have k3 := cell_of_cells hn2 3); (have k4 := cell_of_cells hn2 4); (have kl := lt_of_block hn2); (have l0 := cell_of_cells hl2 0); (have l1 := cell_of_cells hl2 1); (have l2 := cell_of_cells hl2 2); (have l3 := cell_of_cells hl2 3); (have l4 := cell_of_cells hl2 4); (have ll := lt_of_block hl2); (have HG2 := Lib.hid (HG1.out.trans hb2)); (have HN2 := Lib.hid hn2); (have HL2 := Lib.hid hl2); clear hb2 hn2 hl2) | (go_at_call 15; refine (HC.out _ HG2.out).mono ?_; rintro e w3 ⟨rfl, hb3⟩; (have hga : Gr w3 (w3.alloc (.cells #[.int .i64 0, .int .i64 0, .int .i64 0, .int .i64 0, .int .i64 0] 36)) := (Gr.refl _).alloc _); (have hn3 := (HN2.out.gr hb3).gr hga); (have hl3 := (HL2.out.gr hb3).gr hga); (have HU3 : Hid (UBox (w3.alloc (.cells #[.int .i64 0, .int .i64 0, .int .i64 0, .int .i64 0, .int .i64 0] 36)) w3.heap.size U5.zero) := Lib.hid (heap_alloc_new w3 _)); (have m0 := cell_of_cells hn3 0); (have m1 := cell_of_cells hn3 1); (have m2 := cell_of_cells hn3 2); (have m3 := cell_of_cells hn3 3); (have m4 := cell_of_cells hn3 4); (have ml := lt_of_block hn3); (have n0 := cell_of_cells hl3 0); (have n1 := cell_of_cells hl3 1); (have n2 := cell_of_cells hl3 2); (have n3 := cell_of_cells hl3 3); (have n4 := cell_of_cells hl3 4); (have nl := lt_of_block hl3); (have HG3 := Lib.hid ((HG2.out.trans hb3).trans hga)); (have HN3 := Lib.hid hn3); (have HL3 := Lib.hid hl3); clear hb3 hn3 hl3 hga) | (go_at_call 22; refine (HX.out _ HG3.out).mono ?_; rintro e w4 ⟨d1, rfl, hr4, hb4⟩; (have hga : Gr w4 (w4.alloc (.cells #[.int .i64 d1.k, .string (bs d1.l), .string (bs d1.x), .slice d1.A d1.n d1.c, .string (bs d1.e)] 24)) := (Gr.refl _).alloc _); (have HR4 := Lib.hid (hr4.gr hga)); (have hn4 := (HN3.out.gr hb4).gr hga); (have hl4 := (HL3.out.gr hb4).gr hga); (have hu4 := (HU3.out.gr hb4).gr hga); (have HB4 : Hid (NBox (w4.alloc (.cells #[.int .i64 d1.k, .string (bs d1.l), .string (bs d1.x), .slice d1.A d1.n d1.c, .string (bs d1.e)] 24)) w4.heap.size d1) := Lib.hid (heap_alloc_new w4 _)); (have p0 := cell_of_cells hn4 0); (have p1 := cell_of_cells hn4 1); (have p2 := cell_of_cells hn4 2); (have p3 := cell_of_cells hn4 3); (have p4 := cell_of_cells hn4 4); (have pl := lt_of_block hn4); (have q0 := cell_of_cells hl4 0); (have q1 := cell_of_cells hl4 1); (have q2 := cell_of_cells hl4 2); (have q3 := cell_of_cells hl4 3); (have q4 := cell_of_cells hl4 4); (have ql := lt_of_block hl4); (have u0 := cell_of_cells hu4 0); (have u1 := cell_of_cells hu4 1); (have u2 := cell_of_cells hu4 2); (have u3 := cell_of_cells hu4 3); (have u4 := cell_of_cells hu4 4); (have ul := lt_of_block hu4); (have HG4 := Lib.hid ((HG3.out.trans hb4).trans hga)); (have HN4 := Lib.hid hn4); (have HL4 := Lib.hid hl4); (have HU4 := Lib.hid hu4); clear hb4 hn4 hl4 hu4 hr4 hga k0 k1 k2 k3 k4 kl l0 l1 l2 l3 l4 ll m0 m1 m2 m3 m4 ml n0 n1 n2 n3 n4 nl) | (go_at_call 10; refine (awake_any _).mono ?_; rintro e w9 ⟨rfl, hbw9⟩))
  go_ret
  exact ⟨rfl, HG4.out.trans hbw9⟩
set_option maxRecDepth 100000 in
set_option maxHeartbeats 4000000 in
theorem bounded_nine (v : ND) (L : U5) (q : NT) (ua ux va cc mm : Int) (ha : ua ≤ L.a) (hx : ux ≤ L.x) (hx0 : 0 ≤ ux ∧ ux ≤ 65536) (hva : 0 ≤ va ∧ va ≤ 1000000) (hcc : va + ux = cc) (w : World) (HS : Hid (∀ W, Gr w W → Calls Try.prog 21 #[.agg #[.int .i64 v.k, .string (bs v.l), .string (bs v.x), .slice v.A v.n v.c, .string (bs v.e)]] W (RB true W))) (HC : Hid (∀ W, Gr w W → Calls Try.prog 15 #[.agg #[.int .i64 v.k, .string (bs v.l), .string (bs v.x), .slice v.A v.n v.c, .string (bs v.e)], .agg #[.int .i64 L.d, .int .i64 L.n, .int .i64 L.b, .int .i64 L.a, .int .i64 L.x]] W (fun e w' => e = .returned (.tuple #[.agg #[.int .i64 0, .int .i64 0, .int .i64 0, .int .i64 ua, .int .i64 ux], .int .i64 0]) ∧ Gr W w'))) (HAL : Hid (∀ W, Gr w W → Calls Try.prog 13 #[.agg #[.int .i64 v.k, .string (bs v.l), .string (bs v.x), .slice v.A v.n v.c, .string (bs v.e)]] W (fun e w' => e = .returned (.int .i64 ua) ∧ Gr W w'))) (HCO : Hid (∀ W, Gr w W → Calls Try.prog 17 #[.agg #[.int .i64 v.k, .string (bs v.l), .string (bs v.x), .slice v.A v.n v.c, .string (bs v.e)]] W (fun e w' => e = .returned (.tuple #[.int .i64 cc, .int .i64 0]) ∧ Gr W w'))) (HKI : Hid (∀ W, Gr w W → Calls Try.prog 25 #[.agg #[.int .i64 v.k, .string (bs v.l), .string (bs v.x), .slice v.A v.n v.c, .string (bs v.e)]] W (fun e w' => e = .returned (.tuple #[.int .i64 mm, .int .i64 va]) ∧ Gr W w'))) (HX : Hid (∀ W, Gr w W → Calls Try.prog 22 #[.agg #[.int .i64 v.k, .string (bs v.l), .string (bs v.x), .slice v.A v.n v.c, .string (bs v.e)], .agg #[.int .i64 L.d, .int .i64 L.n, .int .i64 L.b, .int .i64 L.a, .int .i64 L.x]] W (RNI (q, 9) W))) : Calls Try.prog 8 #[.agg #[.int .i64 v.k, .string (bs v.l), .string (bs v.x), .slice v.A v.n v.c, .string (bs v.e)], .agg #[.int .i64 L.d, .int .i64 L.n, .int .i64 L.b, .int .i64 L.a, .int .i64 L.x]] w (RB true w) := by
  have d1 : decide (L.a < ua) = false := by simp; omega
  have d2 : decide (L.x < ux) = false := by simp; omega
  have d3 : (ua != ua) = false := by simp
  have d5 : wrap64 (va + ux) = cc := by rw [← hcc]; exact wrap64_inX _ ⟨by omega, by omega⟩
  have d6 : (cc != cc) = false := by simp
  go_enter Try.func8, Try.ntmps8
  go_wp2_with fail
  obtain ⟨nb, hnb⟩ : ∃ nb, nb = w.heap.size := ⟨_, rfl⟩
  obtain ⟨W1, hW1⟩ : ∃ W1, W1 = (w.alloc (.cells #[.int .i64 v.k, .string (bs v.l), .string (bs v.x), .slice v.A v.n v.c, .string (bs v.e)] 24)).alloc (.cells #[.int .i64 L.d, .int .i64 L.n, .int .i64 L.b, .int .i64 L.a, .int .i64 L.x] 35) := ⟨_, rfl⟩
  have hg1 : Gr w W1 := by rw [hW1]; exact ((Gr.refl w).alloc _).alloc _
  have hn1 : NBox W1 nb v := by
    rw [hW1, hnb]
    exact NBox.gr (heap_alloc_new w (.cells #[.int .i64 v.k, .string (bs v.l), .string (bs v.x), .slice v.A v.n v.c, .string (bs v.e)] 24)) ((Gr.refl _).alloc _)
  have hl1 : L5Box W1 (nb + 1) L := by
    have h := heap_alloc_new (w.alloc (.cells #[.int .i64 v.k, .string (bs v.l), .string (bs v.x), .slice v.A v.n v.c, .string (bs v.e)] 24)) (.cells #[.int .i64 L.d, .int .i64 L.n, .int .i64 L.b, .int .i64 L.a, .int .i64 L.x] 35)
    rw [show (w.alloc (.cells #[.int .i64 v.k, .string (bs v.l), .string (bs v.x), .slice v.A v.n v.c, .string (bs v.e)] 24)).heap.size = nb + 1 by simp [hnb]] at h
    rw [hW1]
    exact h
  try rw [← hnb]
  try rw [← hW1]
  have HG1 := Lib.hid hg1
  have HN1 := Lib.hid hn1
  have HL1 := Lib.hid hl1
  clear hW1 hnb hg1 hn1 hl1
  go_wp2_with (first | (go_at_call 21; refine (HS.out _ HG1.out).mono ?_; rintro e w2 ⟨rfl, hb2⟩; (have hn2 := HN1.out.gr hb2); (have hl2 := HL1.out.gr hb2); (have k0 := cell_of_cells hn2 0); (have k1 := cell_of_cells hn2 1); (have k2 := cell_of_cells hn2 2); (have k3 := cell_of_cells hn2 3); (have k4 := cell_of_cells hn2 4); (have kl := lt_of_block hn2); (have l0 := cell_of_cells hl2 0); (have l1 := cell_of_cells hl2 1); (have l2 := cell_of_cells hl2 2); (have l3 := cell_of_cells hl2 3); (have l4 := cell_of_cells hl2 4); (have ll := lt_of_block hl2); (have HG2 := Lib.hid (HG1.out.trans hb2)); (have HN2 := Lib.hid hn2); (have HL2 := Lib.hid hl2); clear hb2 hn2 hl2) | (go_at_call 15; refine (HC.out _ HG2.out).mono ?_; rintro e w3 ⟨rfl, hb3⟩; (have hga : Gr w3 (w3.alloc (.cells #[.int .i64 0, .int .i64 0, .int .i64 0, .int .i64 ua, .int .i64 ux] 36)) := (Gr.refl _).alloc _); (have hn3 := (HN2.out.gr hb3).gr hga); (have hl3 := (HL2.out.gr hb3).gr hga); (have HU3 : Hid (UBox (w3.alloc (.cells #[.int .i64 0, .int .i64 0, .int .i64 0, .int .i64 ua, .int .i64 ux] 36)) w3.heap.size ⟨0, 0, 0, ua, ux⟩) := Lib.hid (heap_alloc_new w3 _)); (have m0 := cell_of_cells hn3 0); (have m1 := cell_of_cells hn3 1); (have m2 := cell_of_cells hn3 2); (have m3 := cell_of_cells hn3 3); (have m4 := cell_of_cells hn3 4); (have ml := lt_of_block hn3); (have n0 := cell_of_cells hl3 0); (have n1 := cell_of_cells hl3 1); (have n2 := cell_of_cells hl3 2); (have n3 := cell_of_cells hl3 3); (have n4 := cell_of_cells hl3 4); (have nl := lt_of_block hl3); (have HG3 := Lib.hid ((HG2.out.trans hb3).trans hga)); (have HN3 := Lib.hid hn3); (have HL3 := Lib.hid hl3); clear hb3 hn3 hl3 hga) | (go_at_call 22; refine (HX.out _ HG3.out).mono ?_; rintro e w4 ⟨d1, rfl, hr4, hb4⟩; (have hga : Gr w4 (w4.alloc (.cells #[.int .i64 d1.k, .string (bs d1.l), .string (bs d1.x), .slice d1.A d1.n d1.c, .string (bs d1.e)] 24)) := (Gr.refl _).alloc _); (have HR4 := Lib.hid (hr4.gr hga)); (have hn4 := (HN3.out.gr hb4).gr hga); (have hl4 := (HL3.out.gr hb4).gr hga); (have hu4 := (HU3.out.gr hb4).gr hga); (have HB4 : Hid (NBox (w4.alloc (.cells #[.int .i64 d1.k, .string (bs d1.l), .string (bs d1.x), .slice d1.A d1.n d1.c, .string (bs d1.e)] 24)) w4.heap.size d1) := Lib.hid (heap_alloc_new w4 _)); (have p0 := cell_of_cells hn4 0); (have p1 := cell_of_cells hn4 1); (have p2 := cell_of_cells hn4 2); (have p3 := cell_of_cells hn4 3); (have p4 := cell_of_cells hn4 4); (have pl := lt_of_block hn4); (have q0 := cell_of_cells hl4 0); (have q1 := cell_of_cells hl4 1); (have q2 := cell_of_cells hl4 2); (have q3 := cell_of_cells hl4 3); (have q4 := cell_of_cells hl4 4); (have ql := lt_of_block hl4); (have u0 := cell_of_cells hu4 0); (have u1 := cell_of_cells hu4 1); (have u2 := cell_of_cells hu4 2); (have u3 := cell_of_cells hu4 3); (have u4 := cell_of_cells hu4 4); (have ul := lt_of_block hu4); (have HG4 := Lib.hid ((HG3.out.trans hb4).trans hga)); (have HN4 := Lib.hid hn4); (have HL4 := Lib.hid hl4); (have HU4 := Lib.hid hu4); clear hb4 hn4 hl4 hu4 hr4 hga k0 k1 k2 k3 k4 kl l0 l1 l2 l3 l4 ll m0 m1 m2 m3 m4 ml n0 n1 n2 n3 n4 nl))
  have kq9_0 := cell_regrown p0
  have kq9_1 := cell_regrown p1
  have kq9_2 := cell_regrown p2
  have kq9_3 := cell_regrown p3
  have kq9_4 := cell_regrown p4
  have kq9_5 := cell_regrown q0
  have kq9_6 := cell_regrown q1
  have kq9_7 := cell_regrown q2
  have kq9_8 := cell_regrown q3
  have kq9_9 := cell_regrown q4
  have kq9_10 := cell_regrown u0
  have kq9_11 := cell_regrown u1
  have kq9_12 := cell_regrown u2
  have kq9_13 := cell_regrown u3
  have kq9_14 := cell_regrown u4
  refine wp_region_quiet_below (by kernel_rfl) (by kernel_rfl) ?_
  repeat (go_big_quiet_step ((go_at_call 13; exact Calls.regrown_of (HAL.out _ (HG4.out.trans (below_regrown _ _ _))))))
  refine wpQuiet_nil ?_
  intro wq9 hwq9
  have hbq9 := gr_regrown hwq9
  clear hwq9
  replace kq9_0 := hbq9.cell p0
  replace kq9_1 := hbq9.cell p1
  replace kq9_2 := hbq9.cell p2
  replace kq9_3 := hbq9.cell p3
  replace kq9_4 := hbq9.cell p4
  replace kq9_5 := hbq9.cell q0
  replace kq9_6 := hbq9.cell q1
  replace kq9_7 := hbq9.cell q2
  replace kq9_8 := hbq9.cell q3
  replace kq9_9 := hbq9.cell q4
  replace kq9_10 := hbq9.cell u0
  replace kq9_11 := hbq9.cell u1
  replace kq9_12 := hbq9.cell u2
  replace kq9_13 := hbq9.cell u3
  replace kq9_14 := hbq9.cell u4
  have HG5 := Lib.hid (HG4.out.trans hbq9)
  have HN5 := Lib.hid (HN4.out.gr hbq9)
  have HL5 := Lib.hid (HL4.out.gr hbq9)
  have HU5 := Lib.hid (HU4.out.gr hbq9)
  have HB5 := Lib.hid (HB4.out.gr hbq9)
  have HR5 := Lib.hid (HR4.out.gr hbq9)
  have g1 := lt_of_block HN5.out
  have g2 := lt_of_block HL5.out
  have g3 := lt_of_block HU5.out
  clear hbq9 p0 p1 p2 p3 p4 q0 q1 q2 q3 q4 u0 u1 u2 u3 u4
  go_wp2_with (first | (go_at_call 17; refine (HCO.out _ HG5.out).mono ?_; rintro e w6 ⟨rfl, hb6⟩; (have hn6 := HN5.out.gr hb6); (have hu6 := HU5.out.gr hb6); (have a0 := cell_of_cells hn6 0); (have a1 := cell_of_cells hn6 1); (have a2 := cell_of_cells hn6 2); (have a3 := cell_of_cells hn6 3); (have a4 := cell_of_cells hn6 4); (have al := lt_of_block hn6); (have b0 := cell_of_cells hu6 0); (have b1 := cell_of_cells hu6 1); (have b2 := cell_of_cells hu6 2); (have b3 := cell_of_cells hu6 3); (have b4 := cell_of_cells hu6 4); (have bl := lt_of_block hu6); (have HG6 := Lib.hid (HG5.out.trans hb6)); (have HN6 := Lib.hid hn6); (have HU6 := Lib.hid hu6); (have HW6 := Lib.hid hb6); clear hb6 hn6 hu6) | (go_at_call 25; refine (HKI.out _ HG6.out).mono ?_; rintro e w7 ⟨rfl, hb7⟩; (have hu7 := HU6.out.gr hb7); (have hx7 := HB5.out.gr (HW6.out.trans hb7)); (have hl7 := HL5.out.gr (HW6.out.trans hb7)); (have c0 := cell_of_cells hu7 0); (have c1 := cell_of_cells hu7 1); (have c2 := cell_of_cells hu7 2); (have c3 := cell_of_cells hu7 3); (have c4 := cell_of_cells hu7 4); (have cl := lt_of_block hu7); (have x0 := cell_of_cells hx7 0); (have x1 := cell_of_cells hx7 1); (have x2 := cell_of_cells hx7 2); (have x3 := cell_of_cells hx7 3); (have x4 := cell_of_cells hx7 4); (have xl := lt_of_block hx7); (have y0 := cell_of_cells hl7 0); (have y1 := cell_of_cells hl7 1); (have y2 := cell_of_cells hl7 2); (have y3 := cell_of_cells hl7 3); (have y4 := cell_of_cells hl7 4); (have yl := lt_of_block hl7); (have HG7 := Lib.hid (HG6.out.trans hb7)); (have HX7 := Lib.hid hx7); (have HL7 := Lib.hid hl7); (have HW7 := Lib.hid (HW6.out.trans hb7)); clear hb7 hu7 hx7 hl7) | (go_at_call 10; refine (awake_any _).mono ?_; rintro e w9 ⟨rfl, hbw9⟩))
  go_ret
  exact ⟨rfl, HG7.out.trans hbw9⟩
set_option maxRecDepth 100000 in
set_option maxHeartbeats 4000000 in
theorem bounded_ten (v : ND) (L : U5) (q : NT) (ua ux va cc mm : Int) (ha : ua ≤ L.a) (hx : ux ≤ L.x) (hx0 : 0 ≤ ux ∧ ux ≤ 65536) (hva : 0 ≤ va ∧ va ≤ 1000000) (hcc : va + ux = cc) (w : World) (HS : Hid (∀ W, Gr w W → Calls Try.prog 21 #[.agg #[.int .i64 v.k, .string (bs v.l), .string (bs v.x), .slice v.A v.n v.c, .string (bs v.e)]] W (RB true W))) (HC : Hid (∀ W, Gr w W → Calls Try.prog 15 #[.agg #[.int .i64 v.k, .string (bs v.l), .string (bs v.x), .slice v.A v.n v.c, .string (bs v.e)], .agg #[.int .i64 L.d, .int .i64 L.n, .int .i64 L.b, .int .i64 L.a, .int .i64 L.x]] W (fun e w' => e = .returned (.tuple #[.agg #[.int .i64 0, .int .i64 0, .int .i64 0, .int .i64 ua, .int .i64 ux], .int .i64 0]) ∧ Gr W w'))) (HAL : Hid (∀ W, Gr w W → Calls Try.prog 13 #[.agg #[.int .i64 v.k, .string (bs v.l), .string (bs v.x), .slice v.A v.n v.c, .string (bs v.e)]] W (fun e w' => e = .returned (.int .i64 ua) ∧ Gr W w'))) (HCO : Hid (∀ W, Gr w W → Calls Try.prog 17 #[.agg #[.int .i64 v.k, .string (bs v.l), .string (bs v.x), .slice v.A v.n v.c, .string (bs v.e)]] W (fun e w' => e = .returned (.tuple #[.int .i64 cc, .int .i64 0]) ∧ Gr W w'))) (HKI : Hid (∀ W, Gr w W → Calls Try.prog 25 #[.agg #[.int .i64 v.k, .string (bs v.l), .string (bs v.x), .slice v.A v.n v.c, .string (bs v.e)]] W (fun e w' => e = .returned (.tuple #[.int .i64 mm, .int .i64 va]) ∧ Gr W w'))) (HX : Hid (∀ W, Gr w W → Calls Try.prog 22 #[.agg #[.int .i64 v.k, .string (bs v.l), .string (bs v.x), .slice v.A v.n v.c, .string (bs v.e)], .agg #[.int .i64 L.d, .int .i64 L.n, .int .i64 L.b, .int .i64 L.a, .int .i64 L.x]] W (RNI (q, 10) W))) : Calls Try.prog 8 #[.agg #[.int .i64 v.k, .string (bs v.l), .string (bs v.x), .slice v.A v.n v.c, .string (bs v.e)], .agg #[.int .i64 L.d, .int .i64 L.n, .int .i64 L.b, .int .i64 L.a, .int .i64 L.x]] w (RB true w) := by
  have d1 : decide (L.a < ua) = false := by simp; omega
  have d2 : decide (L.x < ux) = false := by simp; omega
  have d3 : (ua != ua) = false := by simp
  have d5 : wrap64 (va + ux) = cc := by rw [← hcc]; exact wrap64_inX _ ⟨by omega, by omega⟩
  have d6 : (cc != cc) = false := by simp
  go_enter Try.func8, Try.ntmps8
  go_wp2_with fail
  obtain ⟨nb, hnb⟩ : ∃ nb, nb = w.heap.size := ⟨_, rfl⟩
  obtain ⟨W1, hW1⟩ : ∃ W1, W1 = (w.alloc (.cells #[.int .i64 v.k, .string (bs v.l), .string (bs v.x), .slice v.A v.n v.c, .string (bs v.e)] 24)).alloc (.cells #[.int .i64 L.d, .int .i64 L.n, .int .i64 L.b, .int .i64 L.a, .int .i64 L.x] 35) := ⟨_, rfl⟩
  have hg1 : Gr w W1 := by rw [hW1]; exact ((Gr.refl w).alloc _).alloc _
  have hn1 : NBox W1 nb v := by
    rw [hW1, hnb]
    exact NBox.gr (heap_alloc_new w (.cells #[.int .i64 v.k, .string (bs v.l), .string (bs v.x), .slice v.A v.n v.c, .string (bs v.e)] 24)) ((Gr.refl _).alloc _)
  have hl1 : L5Box W1 (nb + 1) L := by
    have h := heap_alloc_new (w.alloc (.cells #[.int .i64 v.k, .string (bs v.l), .string (bs v.x), .slice v.A v.n v.c, .string (bs v.e)] 24)) (.cells #[.int .i64 L.d, .int .i64 L.n, .int .i64 L.b, .int .i64 L.a, .int .i64 L.x] 35)
    rw [show (w.alloc (.cells #[.int .i64 v.k, .string (bs v.l), .string (bs v.x), .slice v.A v.n v.c, .string (bs v.e)] 24)).heap.size = nb + 1 by simp [hnb]] at h
    rw [hW1]
    exact h
  try rw [← hnb]
  try rw [← hW1]
  have HG1 := Lib.hid hg1
  have HN1 := Lib.hid hn1
  have HL1 := Lib.hid hl1
  clear hW1 hnb hg1 hn1 hl1
  go_wp2_with (first | (go_at_call 21; refine (HS.out _ HG1.out).mono ?_; rintro e w2 ⟨rfl, hb2⟩; (have hn2 := HN1.out.gr hb2); (have hl2 := HL1.out.gr hb2); (have k0 := cell_of_cells hn2 0); (have k1 := cell_of_cells hn2 1); (have k2 := cell_of_cells hn2 2); (have k3 := cell_of_cells hn2 3); (have k4 := cell_of_cells hn2 4); (have kl := lt_of_block hn2); (have l0 := cell_of_cells hl2 0); (have l1 := cell_of_cells hl2 1); (have l2 := cell_of_cells hl2 2); (have l3 := cell_of_cells hl2 3); (have l4 := cell_of_cells hl2 4); (have ll := lt_of_block hl2); (have HG2 := Lib.hid (HG1.out.trans hb2)); (have HN2 := Lib.hid hn2); (have HL2 := Lib.hid hl2); clear hb2 hn2 hl2) | (go_at_call 15; refine (HC.out _ HG2.out).mono ?_; rintro e w3 ⟨rfl, hb3⟩; (have hga : Gr w3 (w3.alloc (.cells #[.int .i64 0, .int .i64 0, .int .i64 0, .int .i64 ua, .int .i64 ux] 36)) := (Gr.refl _).alloc _); (have hn3 := (HN2.out.gr hb3).gr hga); (have hl3 := (HL2.out.gr hb3).gr hga); (have HU3 : Hid (UBox (w3.alloc (.cells #[.int .i64 0, .int .i64 0, .int .i64 0, .int .i64 ua, .int .i64 ux] 36)) w3.heap.size ⟨0, 0, 0, ua, ux⟩) := Lib.hid (heap_alloc_new w3 _)); (have m0 := cell_of_cells hn3 0); (have m1 := cell_of_cells hn3 1); (have m2 := cell_of_cells hn3 2); (have m3 := cell_of_cells hn3 3); (have m4 := cell_of_cells hn3 4); (have ml := lt_of_block hn3); (have n0 := cell_of_cells hl3 0); (have n1 := cell_of_cells hl3 1); (have n2 := cell_of_cells hl3 2); (have n3 := cell_of_cells hl3 3); (have n4 := cell_of_cells hl3 4); (have nl := lt_of_block hl3); (have HG3 := Lib.hid ((HG2.out.trans hb3).trans hga)); (have HN3 := Lib.hid hn3); (have HL3 := Lib.hid hl3); clear hb3 hn3 hl3 hga) | (go_at_call 22; refine (HX.out _ HG3.out).mono ?_; rintro e w4 ⟨d1, rfl, hr4, hb4⟩; (have hga : Gr w4 (w4.alloc (.cells #[.int .i64 d1.k, .string (bs d1.l), .string (bs d1.x), .slice d1.A d1.n d1.c, .string (bs d1.e)] 24)) := (Gr.refl _).alloc _); (have HR4 := Lib.hid (hr4.gr hga)); (have hn4 := (HN3.out.gr hb4).gr hga); (have hl4 := (HL3.out.gr hb4).gr hga); (have hu4 := (HU3.out.gr hb4).gr hga); (have HB4 : Hid (NBox (w4.alloc (.cells #[.int .i64 d1.k, .string (bs d1.l), .string (bs d1.x), .slice d1.A d1.n d1.c, .string (bs d1.e)] 24)) w4.heap.size d1) := Lib.hid (heap_alloc_new w4 _)); (have p0 := cell_of_cells hn4 0); (have p1 := cell_of_cells hn4 1); (have p2 := cell_of_cells hn4 2); (have p3 := cell_of_cells hn4 3); (have p4 := cell_of_cells hn4 4); (have pl := lt_of_block hn4); (have q0 := cell_of_cells hl4 0); (have q1 := cell_of_cells hl4 1); (have q2 := cell_of_cells hl4 2); (have q3 := cell_of_cells hl4 3); (have q4 := cell_of_cells hl4 4); (have ql := lt_of_block hl4); (have u0 := cell_of_cells hu4 0); (have u1 := cell_of_cells hu4 1); (have u2 := cell_of_cells hu4 2); (have u3 := cell_of_cells hu4 3); (have u4 := cell_of_cells hu4 4); (have ul := lt_of_block hu4); (have HG4 := Lib.hid ((HG3.out.trans hb4).trans hga)); (have HN4 := Lib.hid hn4); (have HL4 := Lib.hid hl4); (have HU4 := Lib.hid hu4); clear hb4 hn4 hl4 hu4 hr4 hga k0 k1 k2 k3 k4 kl l0 l1 l2 l3 l4 ll m0 m1 m2 m3 m4 ml n0 n1 n2 n3 n4 nl))
  have kq9_0 := cell_regrown p0
  have kq9_1 := cell_regrown p1
  have kq9_2 := cell_regrown p2
  have kq9_3 := cell_regrown p3
  have kq9_4 := cell_regrown p4
  have kq9_5 := cell_regrown q0
  have kq9_6 := cell_regrown q1
  have kq9_7 := cell_regrown q2
  have kq9_8 := cell_regrown q3
  have kq9_9 := cell_regrown q4
  have kq9_10 := cell_regrown u0
  have kq9_11 := cell_regrown u1
  have kq9_12 := cell_regrown u2
  have kq9_13 := cell_regrown u3
  have kq9_14 := cell_regrown u4
  refine wp_region_quiet_below (by kernel_rfl) (by kernel_rfl) ?_
  repeat (go_big_quiet_step ((go_at_call 13; exact Calls.regrown_of (HAL.out _ (HG4.out.trans (below_regrown _ _ _))))))
  refine wpQuiet_nil ?_
  intro wq9 hwq9
  have hbq9 := gr_regrown hwq9
  clear hwq9
  replace kq9_0 := hbq9.cell p0
  replace kq9_1 := hbq9.cell p1
  replace kq9_2 := hbq9.cell p2
  replace kq9_3 := hbq9.cell p3
  replace kq9_4 := hbq9.cell p4
  replace kq9_5 := hbq9.cell q0
  replace kq9_6 := hbq9.cell q1
  replace kq9_7 := hbq9.cell q2
  replace kq9_8 := hbq9.cell q3
  replace kq9_9 := hbq9.cell q4
  replace kq9_10 := hbq9.cell u0
  replace kq9_11 := hbq9.cell u1
  replace kq9_12 := hbq9.cell u2
  replace kq9_13 := hbq9.cell u3
  replace kq9_14 := hbq9.cell u4
  have HG5 := Lib.hid (HG4.out.trans hbq9)
  have HN5 := Lib.hid (HN4.out.gr hbq9)
  have HL5 := Lib.hid (HL4.out.gr hbq9)
  have HU5 := Lib.hid (HU4.out.gr hbq9)
  have HB5 := Lib.hid (HB4.out.gr hbq9)
  have HR5 := Lib.hid (HR4.out.gr hbq9)
  have g1 := lt_of_block HN5.out
  have g2 := lt_of_block HL5.out
  have g3 := lt_of_block HU5.out
  clear hbq9 p0 p1 p2 p3 p4 q0 q1 q2 q3 q4 u0 u1 u2 u3 u4
  go_wp2_with (first | (go_at_call 17; refine (HCO.out _ HG5.out).mono ?_; rintro e w6 ⟨rfl, hb6⟩; (have hn6 := HN5.out.gr hb6); (have hu6 := HU5.out.gr hb6); (have a0 := cell_of_cells hn6 0); (have a1 := cell_of_cells hn6 1); (have a2 := cell_of_cells hn6 2); (have a3 := cell_of_cells hn6 3); (have a4 := cell_of_cells hn6 4); (have al := lt_of_block hn6); (have b0 := cell_of_cells hu6 0); (have b1 := cell_of_cells hu6 1); (have b2 := cell_of_cells hu6 2); (have b3 := cell_of_cells hu6 3); (have b4 := cell_of_cells hu6 4); (have bl := lt_of_block hu6); (have HG6 := Lib.hid (HG5.out.trans hb6)); (have HN6 := Lib.hid hn6); (have HU6 := Lib.hid hu6); (have HW6 := Lib.hid hb6); clear hb6 hn6 hu6) | (go_at_call 25; refine (HKI.out _ HG6.out).mono ?_; rintro e w7 ⟨rfl, hb7⟩; (have hu7 := HU6.out.gr hb7); (have hx7 := HB5.out.gr (HW6.out.trans hb7)); (have hl7 := HL5.out.gr (HW6.out.trans hb7)); (have c0 := cell_of_cells hu7 0); (have c1 := cell_of_cells hu7 1); (have c2 := cell_of_cells hu7 2); (have c3 := cell_of_cells hu7 3); (have c4 := cell_of_cells hu7 4); (have cl := lt_of_block hu7); (have x0 := cell_of_cells hx7 0); (have x1 := cell_of_cells hx7 1); (have x2 := cell_of_cells hx7 2); (have x3 := cell_of_cells hx7 3); (have x4 := cell_of_cells hx7 4); (have xl := lt_of_block hx7); (have y0 := cell_of_cells hl7 0); (have y1 := cell_of_cells hl7 1); (have y2 := cell_of_cells hl7 2); (have y3 := cell_of_cells hl7 3); (have y4 := cell_of_cells hl7 4); (have yl := lt_of_block hl7); (have HG7 := Lib.hid (HG6.out.trans hb7)); (have HX7 := Lib.hid hx7); (have HL7 := Lib.hid hl7); (have HW7 := Lib.hid (HW6.out.trans hb7)); clear hb7 hu7 hx7 hl7) | (go_at_call 10; refine (awake_any _).mono ?_; rintro e w9 ⟨rfl, hbw9⟩))
  go_ret
  exact ⟨rfl, HG7.out.trans hbw9⟩
set_option maxRecDepth 100000 in
set_option maxHeartbeats 4000000 in
theorem bounded_ok (v : ND) (L : U5) (x : NT) (ua ux va cc mm : Int) (ha : ua ≤ L.a) (hx : ux ≤ L.x) (hx0 : 0 ≤ ux ∧ ux ≤ 65536) (hva : 0 ≤ va ∧ va ≤ 1000000) (hcc : va + ux = cc) (w : World) (HS : Hid (∀ W, Gr w W → Calls Try.prog 21 #[.agg #[.int .i64 v.k, .string (bs v.l), .string (bs v.x), .slice v.A v.n v.c, .string (bs v.e)]] W (RB true W))) (HC : Hid (∀ W, Gr w W → Calls Try.prog 15 #[.agg #[.int .i64 v.k, .string (bs v.l), .string (bs v.x), .slice v.A v.n v.c, .string (bs v.e)], .agg #[.int .i64 L.d, .int .i64 L.n, .int .i64 L.b, .int .i64 L.a, .int .i64 L.x]] W (fun e w' => e = .returned (.tuple #[.agg #[.int .i64 0, .int .i64 0, .int .i64 0, .int .i64 ua, .int .i64 ux], .int .i64 0]) ∧ Gr W w'))) (HAL : Hid (∀ W, Gr w W → Calls Try.prog 13 #[.agg #[.int .i64 v.k, .string (bs v.l), .string (bs v.x), .slice v.A v.n v.c, .string (bs v.e)]] W (fun e w' => e = .returned (.int .i64 ua) ∧ Gr W w'))) (HCO : Hid (∀ W, Gr w W → Calls Try.prog 17 #[.agg #[.int .i64 v.k, .string (bs v.l), .string (bs v.x), .slice v.A v.n v.c, .string (bs v.e)]] W (fun e w' => e = .returned (.tuple #[.int .i64 cc, .int .i64 0]) ∧ Gr W w'))) (HKI : Hid (∀ W, Gr w W → Calls Try.prog 25 #[.agg #[.int .i64 v.k, .string (bs v.l), .string (bs v.x), .slice v.A v.n v.c, .string (bs v.e)]] W (fun e w' => e = .returned (.tuple #[.int .i64 mm, .int .i64 va]) ∧ Gr W w'))) (HX : Hid (∀ W, Gr w W → Calls Try.prog 22 #[.agg #[.int .i64 v.k, .string (bs v.l), .string (bs v.x), .slice v.A v.n v.c, .string (bs v.e)], .agg #[.int .i64 L.d, .int .i64 L.n, .int .i64 L.b, .int .i64 L.a, .int .i64 L.x]] W (RNI (x, 0) W))) (HK2 : Hid (∀ (d1 : ND) W, NR anyB W d1 x → Calls Try.prog 25 #[.agg #[.int .i64 d1.k, .string (bs d1.l), .string (bs d1.x), .slice d1.A d1.n d1.c, .string (bs d1.e)]] W (fun e w' => e = .returned (.tuple #[.int .i64 0, .int .i64 cc]) ∧ Gr W w'))) (HX2 : Hid (∀ (d1 : ND) W, NR anyB W d1 x → Calls Try.prog 22 #[.agg #[.int .i64 d1.k, .string (bs d1.l), .string (bs d1.x), .slice d1.A d1.n d1.c, .string (bs d1.e)], .agg #[.int .i64 L.d, .int .i64 L.n, .int .i64 L.b, .int .i64 L.a, .int .i64 L.x]] W (RNI (x, 0) W))) : Calls Try.prog 8 #[.agg #[.int .i64 v.k, .string (bs v.l), .string (bs v.x), .slice v.A v.n v.c, .string (bs v.e)], .agg #[.int .i64 L.d, .int .i64 L.n, .int .i64 L.b, .int .i64 L.a, .int .i64 L.x]] w (RB true w) := by
  have e7 : (cc == cc) = true := by simp
  have d1 : decide (L.a < ua) = false := by simp; omega
  have d2 : decide (L.x < ux) = false := by simp; omega
  have d3 : (ua != ua) = false := by simp
  have d5 : wrap64 (va + ux) = cc := by rw [← hcc]; exact wrap64_inX _ ⟨by omega, by omega⟩
  have d6 : (cc != cc) = false := by simp
  go_enter Try.func8, Try.ntmps8
  go_wp2_with fail
  obtain ⟨nb, hnb⟩ : ∃ nb, nb = w.heap.size := ⟨_, rfl⟩
  obtain ⟨W1, hW1⟩ : ∃ W1, W1 = (w.alloc (.cells #[.int .i64 v.k, .string (bs v.l), .string (bs v.x), .slice v.A v.n v.c, .string (bs v.e)] 24)).alloc (.cells #[.int .i64 L.d, .int .i64 L.n, .int .i64 L.b, .int .i64 L.a, .int .i64 L.x] 35) := ⟨_, rfl⟩
  have hg1 : Gr w W1 := by rw [hW1]; exact ((Gr.refl w).alloc _).alloc _
  have hn1 : NBox W1 nb v := by
    rw [hW1, hnb]
    exact NBox.gr (heap_alloc_new w (.cells #[.int .i64 v.k, .string (bs v.l), .string (bs v.x), .slice v.A v.n v.c, .string (bs v.e)] 24)) ((Gr.refl _).alloc _)
  have hl1 : L5Box W1 (nb + 1) L := by
    have h := heap_alloc_new (w.alloc (.cells #[.int .i64 v.k, .string (bs v.l), .string (bs v.x), .slice v.A v.n v.c, .string (bs v.e)] 24)) (.cells #[.int .i64 L.d, .int .i64 L.n, .int .i64 L.b, .int .i64 L.a, .int .i64 L.x] 35)
    rw [show (w.alloc (.cells #[.int .i64 v.k, .string (bs v.l), .string (bs v.x), .slice v.A v.n v.c, .string (bs v.e)] 24)).heap.size = nb + 1 by simp [hnb]] at h
    rw [hW1]
    exact h
  try rw [← hnb]
  try rw [← hW1]
  have HG1 := Lib.hid hg1
  have HN1 := Lib.hid hn1
  have HL1 := Lib.hid hl1
  clear hW1 hnb hg1 hn1 hl1
  go_wp2_with (first | (go_at_call 21; refine (HS.out _ HG1.out).mono ?_; rintro e w2 ⟨rfl, hb2⟩; (have hn2 := HN1.out.gr hb2); (have hl2 := HL1.out.gr hb2); (have k0 := cell_of_cells hn2 0); (have k1 := cell_of_cells hn2 1); (have k2 := cell_of_cells hn2 2); (have k3 := cell_of_cells hn2 3); (have k4 := cell_of_cells hn2 4); (have kl := lt_of_block hn2); (have l0 := cell_of_cells hl2 0); (have l1 := cell_of_cells hl2 1); (have l2 := cell_of_cells hl2 2); (have l3 := cell_of_cells hl2 3); (have l4 := cell_of_cells hl2 4); (have ll := lt_of_block hl2); (have HG2 := Lib.hid (HG1.out.trans hb2)); (have HN2 := Lib.hid hn2); (have HL2 := Lib.hid hl2); clear hb2 hn2 hl2) | (go_at_call 15; refine (HC.out _ HG2.out).mono ?_; rintro e w3 ⟨rfl, hb3⟩; (have hga : Gr w3 (w3.alloc (.cells #[.int .i64 0, .int .i64 0, .int .i64 0, .int .i64 ua, .int .i64 ux] 36)) := (Gr.refl _).alloc _); (have hn3 := (HN2.out.gr hb3).gr hga); (have hl3 := (HL2.out.gr hb3).gr hga); (have HU3 : Hid (UBox (w3.alloc (.cells #[.int .i64 0, .int .i64 0, .int .i64 0, .int .i64 ua, .int .i64 ux] 36)) w3.heap.size ⟨0, 0, 0, ua, ux⟩) := Lib.hid (heap_alloc_new w3 _)); (have m0 := cell_of_cells hn3 0); (have m1 := cell_of_cells hn3 1); (have m2 := cell_of_cells hn3 2); (have m3 := cell_of_cells hn3 3); (have m4 := cell_of_cells hn3 4); (have ml := lt_of_block hn3); (have n0 := cell_of_cells hl3 0); (have n1 := cell_of_cells hl3 1); (have n2 := cell_of_cells hl3 2); (have n3 := cell_of_cells hl3 3); (have n4 := cell_of_cells hl3 4); (have nl := lt_of_block hl3); (have HG3 := Lib.hid ((HG2.out.trans hb3).trans hga)); (have HN3 := Lib.hid hn3); (have HL3 := Lib.hid hl3); clear hb3 hn3 hl3 hga) | (go_at_call 22; refine (HX.out _ HG3.out).mono ?_; rintro e w4 ⟨d1, rfl, hr4, hb4⟩; (have hga : Gr w4 (w4.alloc (.cells #[.int .i64 d1.k, .string (bs d1.l), .string (bs d1.x), .slice d1.A d1.n d1.c, .string (bs d1.e)] 24)) := (Gr.refl _).alloc _); (have HR4 := Lib.hid (hr4.gr hga)); (have hn4 := (HN3.out.gr hb4).gr hga); (have hl4 := (HL3.out.gr hb4).gr hga); (have hu4 := (HU3.out.gr hb4).gr hga); (have HB4 : Hid (NBox (w4.alloc (.cells #[.int .i64 d1.k, .string (bs d1.l), .string (bs d1.x), .slice d1.A d1.n d1.c, .string (bs d1.e)] 24)) w4.heap.size d1) := Lib.hid (heap_alloc_new w4 _)); (have p0 := cell_of_cells hn4 0); (have p1 := cell_of_cells hn4 1); (have p2 := cell_of_cells hn4 2); (have p3 := cell_of_cells hn4 3); (have p4 := cell_of_cells hn4 4); (have pl := lt_of_block hn4); (have q0 := cell_of_cells hl4 0); (have q1 := cell_of_cells hl4 1); (have q2 := cell_of_cells hl4 2); (have q3 := cell_of_cells hl4 3); (have q4 := cell_of_cells hl4 4); (have ql := lt_of_block hl4); (have u0 := cell_of_cells hu4 0); (have u1 := cell_of_cells hu4 1); (have u2 := cell_of_cells hu4 2); (have u3 := cell_of_cells hu4 3); (have u4 := cell_of_cells hu4 4); (have ul := lt_of_block hu4); (have HG4 := Lib.hid ((HG3.out.trans hb4).trans hga)); (have HN4 := Lib.hid hn4); (have HL4 := Lib.hid hl4); (have HU4 := Lib.hid hu4); clear hb4 hn4 hl4 hu4 hr4 hga k0 k1 k2 k3 k4 kl l0 l1 l2 l3 l4 ll m0 m1 m2 m3 m4 ml n0 n1 n2 n3 n4 nl))
  have kq9_0 := cell_regrown p0
  have kq9_1 := cell_regrown p1
  have kq9_2 := cell_regrown p2
  have kq9_3 := cell_regrown p3
  have kq9_4 := cell_regrown p4
  have kq9_5 := cell_regrown q0
  have kq9_6 := cell_regrown q1
  have kq9_7 := cell_regrown q2
  have kq9_8 := cell_regrown q3
  have kq9_9 := cell_regrown q4
  have kq9_10 := cell_regrown u0
  have kq9_11 := cell_regrown u1
  have kq9_12 := cell_regrown u2
  have kq9_13 := cell_regrown u3
  have kq9_14 := cell_regrown u4
  refine wp_region_quiet_below (by kernel_rfl) (by kernel_rfl) ?_
  repeat (go_big_quiet_step ((go_at_call 13; exact Calls.regrown_of (HAL.out _ (HG4.out.trans (below_regrown _ _ _))))))
  refine wpQuiet_nil ?_
  intro wq9 hwq9
  have hbq9 := gr_regrown hwq9
  clear hwq9
  replace kq9_0 := hbq9.cell p0
  replace kq9_1 := hbq9.cell p1
  replace kq9_2 := hbq9.cell p2
  replace kq9_3 := hbq9.cell p3
  replace kq9_4 := hbq9.cell p4
  replace kq9_5 := hbq9.cell q0
  replace kq9_6 := hbq9.cell q1
  replace kq9_7 := hbq9.cell q2
  replace kq9_8 := hbq9.cell q3
  replace kq9_9 := hbq9.cell q4
  replace kq9_10 := hbq9.cell u0
  replace kq9_11 := hbq9.cell u1
  replace kq9_12 := hbq9.cell u2
  replace kq9_13 := hbq9.cell u3
  replace kq9_14 := hbq9.cell u4
  have HG5 := Lib.hid (HG4.out.trans hbq9)
  have HN5 := Lib.hid (HN4.out.gr hbq9)
  have HL5 := Lib.hid (HL4.out.gr hbq9)
  have HU5 := Lib.hid (HU4.out.gr hbq9)
  have HB5 := Lib.hid (HB4.out.gr hbq9)
  have HR5 := Lib.hid (HR4.out.gr hbq9)
  have g1 := lt_of_block HN5.out
  have g2 := lt_of_block HL5.out
  have g3 := lt_of_block HU5.out
  clear hbq9 p0 p1 p2 p3 p4 q0 q1 q2 q3 q4 u0 u1 u2 u3 u4
  go_upto_region 15 with (first | (go_at_call 17; refine (HCO.out _ HG5.out).mono ?_; rintro e w6 ⟨rfl, hb6⟩; (have hn6 := HN5.out.gr hb6); (have hu6 := HU5.out.gr hb6); (have a0 := cell_of_cells hn6 0); (have a1 := cell_of_cells hn6 1); (have a2 := cell_of_cells hn6 2); (have a3 := cell_of_cells hn6 3); (have a4 := cell_of_cells hn6 4); (have al := lt_of_block hn6); (have b0 := cell_of_cells hu6 0); (have b1 := cell_of_cells hu6 1); (have b2 := cell_of_cells hu6 2); (have b3 := cell_of_cells hu6 3); (have b4 := cell_of_cells hu6 4); (have bl := lt_of_block hu6); (have HG6 := Lib.hid (HG5.out.trans hb6)); (have HN6 := Lib.hid hn6); (have HU6 := Lib.hid hu6); (have HW6 := Lib.hid hb6); clear hb6 hn6 hu6) | (go_at_call 25; refine (HKI.out _ HG6.out).mono ?_; rintro e w7 ⟨rfl, hb7⟩; (have hu7 := HU6.out.gr hb7); (have hx7 := HB5.out.gr (HW6.out.trans hb7)); (have hl7 := HL5.out.gr (HW6.out.trans hb7)); (have c0 := cell_of_cells hu7 0); (have c1 := cell_of_cells hu7 1); (have c2 := cell_of_cells hu7 2); (have c3 := cell_of_cells hu7 3); (have c4 := cell_of_cells hu7 4); (have cl := lt_of_block hu7); (have x0 := cell_of_cells hx7 0); (have x1 := cell_of_cells hx7 1); (have x2 := cell_of_cells hx7 2); (have x3 := cell_of_cells hx7 3); (have x4 := cell_of_cells hx7 4); (have xl := lt_of_block hx7); (have y0 := cell_of_cells hl7 0); (have y1 := cell_of_cells hl7 1); (have y2 := cell_of_cells hl7 2); (have y3 := cell_of_cells hl7 3); (have y4 := cell_of_cells hl7 4); (have yl := lt_of_block hl7); (have HG7 := Lib.hid (HG6.out.trans hb7)); (have HX7 := Lib.hid hx7); (have HL7 := Lib.hid hl7); (have HW7 := Lib.hid (HW6.out.trans hb7)); clear hb7 hu7 hx7 hl7))
  go_wp2_with (first | (go_at_call 25; refine (HK2.out d1 _ (HR5.out.gr HW7.out)).mono ?_; rintro e w8 ⟨rfl, hb8⟩; (have hx8 := HX7.out.gr hb8); (have hl8 := HL7.out.gr hb8); (have i0 := cell_of_cells hx8 0); (have i1 := cell_of_cells hx8 1); (have i2 := cell_of_cells hx8 2); (have i3 := cell_of_cells hx8 3); (have i4 := cell_of_cells hx8 4); (have il := lt_of_block hx8); (have j0 := cell_of_cells hl8 0); (have j1 := cell_of_cells hl8 1); (have j2 := cell_of_cells hl8 2); (have j3 := cell_of_cells hl8 3); (have j4 := cell_of_cells hl8 4); (have jl := lt_of_block hl8); (have HG8 := Lib.hid (HG7.out.trans hb8)); (have HX8 := Lib.hid hx8); (have HR8 := Lib.hid (HR5.out.gr (HW7.out.trans hb8))); clear hb8 hx8 hl8) | (go_at_call 22; refine (HX2.out d1 _ HR8.out).mono ?_; rintro e w10 ⟨d2, rfl, hr10, hb10⟩; (have hga : Gr w10 (w10.alloc (.cells #[.int .i64 d2.k, .string (bs d2.l), .string (bs d2.x), .slice d2.A d2.n d2.c, .string (bs d2.e)] 24)) := (Gr.refl _).alloc _); (have hx10 := (HX8.out.gr hb10).gr hga); (have z0 := cell_of_cells hx10 0); (have z1 := cell_of_cells hx10 1); (have z2 := cell_of_cells hx10 2); (have z3 := cell_of_cells hx10 3); (have z4 := cell_of_cells hx10 4); (have zl := lt_of_block hx10); (have HRA := Lib.hid ((HR8.out.gr hb10).gr hga)); (have HRB := Lib.hid (hr10.gr hga)); (have HG10 := Lib.hid ((HG8.out.trans hb10).trans hga)); clear hb10 hx10 hr10 hga) | (go_at_call 24; refine (sameB_any x d1 d2 _ HRA.out HRB.out).mono ?_; rintro e w11 ⟨rfl, hb11⟩; (have HG11 := Lib.hid (HG10.out.trans hb11)); clear hb11) | (go_at_call 10; refine (awake_any _).mono ?_; rintro e w9 ⟨rfl, hbw9⟩))
  go_ret
  exact ⟨rfl, HG11.out.trans hbw9⟩
set_option maxRecDepth 100000 in
set_option maxHeartbeats 4000000 in
theorem anchorBounded_any (m : Nat) (v : ND) (t : NT) (L : U5) (w : World) (hr : NRep anyB m w v t) : Calls Try.prog 8 #[.agg #[.int .i64 v.k, .string (bs v.l), .string (bs v.x), .slice v.A v.n v.c, .string (bs v.e)], .agg #[.int .i64 L.d, .int .i64 L.n, .int .i64 L.b, .int .i64 L.a, .int .i64 L.x]] w (RB true w) := by
  have hs := fun W (hg : Gr w W) => light_any m v t W (hr.gr hg)
  cases hlt : lightB t with
  | false =>
    rw [hlt] at hs
    exact bounded_out v L w (Lib.hid hs)
  | true =>
    rw [hlt] at hs
    obtain ⟨f1, _, f3⟩ := smallX_facts (light_small hlt)
    have hl : lenF t ≤ 1152921504606846976 := Nat.le_trans f3 (by decide)
    have hc : countF t ≤ 1000000 := Nat.le_trans f1 (by decide)
    have hx : XOk L t := XOk.small f1 (Nat.le_trans f3 (by decide))
    have hX := fun W (hg : Gr w W) => ExpandP_any m v t L W (hr.gr hg) hx
    have hCK := fun W (hg : Gr w W) => CheckA_any m v t L W (hr.gr hg) hl hc
    by_cases he : (chkF L t).2 = 0
    · have hb := bounded_law hx he
      obtain ⟨⟨⟨ud, un, ub, ua, ux⟩, ec⟩, hq⟩ : ∃ q, chkF L t = q := ⟨_, rfl⟩
      rw [hq] at hb he hCK
      simp only at hb he
      subst he
      obtain ⟨z1, z2, z3⟩ := hb.z
      simp only at z1 z2 z3
      subst z1 z2 z3
      have hAL := fun W (hg : Gr w W) => aliasesP_any m v t W (hr.gr hg) hl hc
      rw [if_pos hb.pr, ← hb.al] at hAL
      have hCO := fun W (hg : Gr w W) => costP_any m v t W (hr.gr hg) hl hc
      rw [hb.cost] at hCO
      have hKI := fun W (hg : Gr w W) => kinds_any m v t W (hr.gr hg) hc
      have hv := va_le t
      have hva : 0 ≤ vaF t ∧ vaF t ≤ 1000000 := by omega
      rcases hb.er with hf | hf | hf
      · obtain ⟨o1, o2, o3, o4⟩ := hb.ok hf
        obtain ⟨⟨x, ec⟩, hqx⟩ : ∃ q, xpE L t = q := ⟨_, rfl⟩
        rw [hqx] at hX o1 o2 o3 o4 hf
        simp only at hf o1 o2 o3 o4
        subst hf
        have hK2 : ∀ (d1 : ND) W, NR anyB W d1 x → Calls Try.prog 25 #[.agg #[.int .i64 d1.k, .string (bs d1.l), .string (bs d1.x), .slice d1.A d1.n d1.c, .string (bs d1.e)]] W (R2II (0, vaF t + ux) W) := fun d1 W ⟨m1, h1⟩ => by
          rw [← o2, ← o1]
          exact kinds_any m1 d1 x W h1 o4.c
        have hX2 : ∀ (d1 : ND) W, NR anyB W d1 x → Calls Try.prog 22 #[.agg #[.int .i64 d1.k, .string (bs d1.l), .string (bs d1.x), .slice d1.A d1.n d1.c, .string (bs d1.e)], .agg #[.int .i64 L.d, .int .i64 L.n, .int .i64 L.b, .int .i64 L.a, .int .i64 L.x]] W (RNI (x, 0) W) := fun d1 W ⟨m1, h1⟩ => by
          rw [← o3]
          exact ExpandP_any m1 d1 x L W h1 o4
        exact bounded_ok v L x ua ux (vaF t) (vaF t + ux) (mkF t) hb.a hb.x hb.x0 hva rfl w (Lib.hid hs) (Lib.hid hCK) (Lib.hid hAL) (Lib.hid hCO) (Lib.hid hKI) (Lib.hid hX) (Lib.hid hK2) (Lib.hid hX2)
      · obtain ⟨⟨x, ec⟩, hqx⟩ : ∃ q, xpE L t = q := ⟨_, rfl⟩
        rw [hqx] at hX hf
        simp only at hf
        subst hf
        exact bounded_nine v L x ua ux (vaF t) (vaF t + ux) (mkF t) hb.a hb.x hb.x0 hva rfl w (Lib.hid hs) (Lib.hid hCK) (Lib.hid hAL) (Lib.hid hCO) (Lib.hid hKI) (Lib.hid hX)
      · obtain ⟨⟨x, ec⟩, hqx⟩ : ∃ q, xpE L t = q := ⟨_, rfl⟩
        rw [hqx] at hX hf
        simp only at hf
        subst hf
        exact bounded_ten v L x ua ux (vaF t) (vaF t + ux) (mkF t) hb.a hb.x hb.x0 hva rfl w (Lib.hid hs) (Lib.hid hCK) (Lib.hid hAL) (Lib.hid hCO) (Lib.hid hKI) (Lib.hid hX)
    · obtain ⟨h1, h2⟩ := bounded_bad he
      rw [h2] at hX
      obtain ⟨⟨u, ec⟩, hq⟩ : ∃ q, chkF L t = q := ⟨_, rfl⟩
      rw [hq] at hX hCK h1 he
      simp only at h1 he
      subst h1
      exact bounded_er v L ec zT he w (Lib.hid hs) (Lib.hid hCK) (Lib.hid hX)
namespace AnchorBounded
set_option maxRecDepth 100000 in
theorem lifted (os : Os) (started : os.Started) (H : Type) (enc : TypeId × Value → H) :
    ReturnsInHanded {} Try.checked os 8 .any (Rows.anchorBoundedSpec.pre6 enc Try.prog Try.f8 Rows.anchorBoundedRow.domain false) (Rows.anchorBoundedSpec.post enc Try.prog Try.f8 false true false false) := by
  refine law_lifted (C := Try.checked) (tb := 4) own started (by kernel_rfl) Try.func8 laidOut rfl rfl Try.underlying4 (by kernel_rfl) ?_
    (ChangeSpec.witness6 (enc := enc) (C := Try.checked) false ⟨#[], #[.agg #[.int .i64 0, .string ⟨#[]⟩, .string ⟨#[]⟩, .slice none 0 0, .string ⟨#[]⟩], .agg #[.int .i64 0, .int .i64 0, .int .i64 0, .int .i64 0, .int .i64 0]], []⟩ 8 (by kernel_rfl) (by kernel_rfl) (by kernel_rfl) (by kernel_rfl)) ?_
  · intro ds hl
    match ds, hl with
    | [_, _], _ => rfl
  · intro W base args ds ps hval0 hA0 hlt
    have hval : ∀ (j : Nat) t v, Try.f8.params[j]? = some t → args[j]? = some v → Value.okWide Try.prog W .any base t v := hval0
    have hA : DataW.TrodAll enc Try.prog W 0 (fun _ => true) true Try.f8.params.toList args.toList ds ps := hA0
    rw [Try.params8] at hA hval
    obtain ⟨v0, v1, d0, d1, p0, p1, rfl, rfl, rfl, h0, h1⟩ := trodAll_two hA
    obtain ⟨ev0, tv0, mv0, rfl, hrv0⟩ := open_node (hval 0 24 v0 rfl rfl) h0
    obtain ⟨d, n, b, a, x, rfl, wL⟩ := open_int5 Try.underlying35 Try.underlying3 (by kernel_rfl) (hval 1 35 v1 rfl rfl) h1
    exact anchorBounded_any mv0 ev0 tv0 ⟨d, n, b, a, x⟩ W hrv0

theorem proved : Rows.AnchorBoundedSaid :=
  OpenClaim.holds_of_wide 8 Try.f8 rfl rfl rfl rfl rfl rfl rfl ⟨rfl, rfl, rfl, rfl, rfl⟩ rfl rfl rfl rfl rfl (by kernel_rfl) Try.func8 (by kernel_rfl)
    (of_decide_eq_true (by kernel_rfl)) (by unfold Func.isWrapper; first | (rw [if_pos (by decide +kernel)]; kernel_rfl) | (rw [if_neg (by decide +kernel)]; exact ⟨rfl, rfl⟩))
    (fun os started H enc _ => lifted os started H enc)
end AnchorBounded
end Go.Proofs.Ytbfnmgiccbdglaa
