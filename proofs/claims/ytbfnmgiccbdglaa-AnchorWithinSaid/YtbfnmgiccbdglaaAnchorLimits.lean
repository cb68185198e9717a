/- AnchorLimits returns true for every input: with limits that the aliases just use a tree is accepted, with less it is refused. No condition. -/
import Derived.Test.YtbfnmgiccbdglaaAnAwake
import Derived.Test.YtbfnmgiccbdglaaAnLaw
namespace Go.Proofs.Ytbfnmgiccbdglaa
open Go.ChangeShapes Go.WideShapes Go.ChangeAt Go.RowKit

set_option maxRecDepth 100000 in
set_option maxHeartbeats 4000000 in
theorem smallA_any (m : Nat) (v : ND) (t : NT) (w : World) (hr : NRep anyB m w v t) : Calls Try.prog 9 #[.agg #[.int .i64 v.k, .string (bs v.l), .string (bs v.x), .slice v.A v.n v.c, .string (bs v.e)]] w (RB (smallB t 60 140 2000) w) := by
  have hcall := smallP_any m v t 60 140 2000 (w.alloc (.cells #[.int .i64 v.k, .string (bs v.l), .string (bs v.x), .slice v.A v.n v.c, .string (bs v.e)] 24)) (hr.gr ((Gr.refl w).alloc _)) (by omega) (by omega) (by omega) (by omega) (by omega) (by omega)
  have HC := Lib.hid hcall
  clear hcall hr
  go_enter Try.func9, Try.ntmps9
  go_wp2_with fail
  refine HC.out.mono ?_
  rintro e w1 ⟨rfl, hb1⟩
  have hg1 : Gr w w1 := ((Gr.refl w).alloc _).trans hb1
  go_wp2_with fail
  go_ret
  exact ⟨rfl, hg1⟩
theorem small_facts {t : NT} (h : smallB t 60 140 2000 = true) : countF t ≤ 60 ∧ depthF t ≤ 140 ∧ lenF t ≤ 360000 := by
  unfold smallB at h
  simp only [decide_eq_true_eq] at h
  obtain ⟨q1, q2, q3⟩ := roomF_ok t 60 140 2000 h
  have h2 : (countF t : Int) ≤ 60 := by omega
  have h3 : (countF t : Int) * (3 * 2000) ≤ 60 * (3 * 2000) := Int.mul_le_mul_of_nonneg_right h2 (by omega)
  omega
theorem L5Box.set {W : World} {b : Nat} {L : U5} (h : L5Box W b L) (a x : Int) : L5Box ((W.setCell ⟨b, 3, none⟩ (.int .i64 a)).setCell ⟨b, 4, none⟩ (.int .i64 x)) b ⟨L.d, L.n, L.b, a, x⟩ := by
  unfold L5Box at *
  simp [World.setCell, Array.getElem?_modify, h]
theorem L5Box.seta {W : World} {b : Nat} {L : U5} (h : L5Box W b L) (a : Int) : L5Box (W.setCell ⟨b, 3, none⟩ (.int .i64 a)) b ⟨L.d, L.n, L.b, a, L.x⟩ := by
  unfold L5Box at *
  simp [World.setCell, Array.getElem?_modify, h]
set_option maxRecDepth 100000 in
set_option maxHeartbeats 4000000 in
theorem limits_out (v : ND) (w : World) (HS : Hid (∀ W, Gr w W → Calls Try.prog 9 #[.agg #[.int .i64 v.k, .string (bs v.l), .string (bs v.x), .slice v.A v.n v.c, .string (bs v.e)]] W (RB false W))) : Calls Try.prog 5 #[.agg #[.int .i64 v.k, .string (bs v.l), .string (bs v.x), .slice v.A v.n v.c, .string (bs v.e)]] w (RB true w) := by
  go_enter Try.func5, Try.ntmps5
  go_wp2_with fail
  refine (HS.out _ ((Gr.refl w).alloc _)).mono ?_
  rintro e w1 ⟨rfl, hb1⟩
  have hg1 : Gr w w1 := ((Gr.refl w).alloc _).trans hb1
  go_wp2_with fail
  refine (awake_any _).mono ?_
  rintro e w2 ⟨rfl, hb2⟩
  go_wp2_with fail
  go_ret
  exact ⟨rfl, hg1.trans hb2⟩
set_option maxRecDepth 100000 in
set_option maxHeartbeats 4000000 in
theorem limits_bad (v : ND) (u : U5) (ec : Int) (hec : ec ≠ 0) (w : World) (HS : Hid (∀ W, Gr w W → Calls Try.prog 9 #[.agg #[.int .i64 v.k, .string (bs v.l), .string (bs v.x), .slice v.A v.n v.c, .string (bs v.e)]] W (RB true W))) (HC1 : Hid (∀ W, Gr w W → Calls Try.prog 15 #[.agg #[.int .i64 v.k, .string (bs v.l), .string (bs v.x), .slice v.A v.n v.c, .string (bs v.e)], .agg #[.int .i64 usual.d, .int .i64 usual.n, .int .i64 usual.b, .int .i64 usual.a, .int .i64 usual.x]] W (fun e w' => e = .returned (.tuple #[.agg #[.int .i64 u.d, .int .i64 u.n, .int .i64 u.b, .int .i64 u.a, .int .i64 u.x], .int .i64 ec]) ∧ Gr W w'))) : Calls Try.prog 5 #[.agg #[.int .i64 v.k, .string (bs v.l), .string (bs v.x), .slice v.A v.n v.c, .string (bs v.e)]] w (RB true w) := by
  go_enter Try.func5, Try.ntmps5
  go_wp2_with fail
  have hn0 : NBox (w.alloc (.cells #[.int .i64 v.k, .string (bs v.l), .string (bs v.x), .slice v.A v.n v.c, .string (bs v.e)] 24)) w.heap.size v := heap_alloc_new w (.cells #[.int .i64 v.k, .string (bs v.l), .string (bs v.x), .slice v.A v.n v.c, .string (bs v.e)] 24)
  refine (HS.out _ ((Gr.refl w).alloc _)).mono ?_
  rintro e w1 ⟨rfl, hb1⟩
  have hg1 : Gr w w1 := ((Gr.refl w).alloc _).trans hb1
  have HN1 := Lib.hid (hn0.gr hb1)
  clear hn0 hb1
  go_wp2_with fail
  refine (usualR_any _).mono ?_
  rintro e w2 ⟨rfl, hb2⟩
  have hg2 := hg1.trans hb2
  have HN2 := Lib.hid (HN1.out.gr hb2)
  obtain ⟨bl, hbl⟩ : ∃ bl, bl = w2.heap.size := ⟨_, rfl⟩
  have hl0 : L5Box (w2.alloc (.cells #[.int .i64 usual.d, .int .i64 usual.n, .int .i64 usual.b, .int .i64 usual.a, .int .i64 usual.x] 35)) bl usual := by rw [hbl]; exact heap_alloc_new w2 _
  have hlw : w.heap.size < bl := by rw [hbl]; exact lt_of_block HN2.out
  have hg3 : Gr w (w2.alloc (.cells #[.int .i64 usual.d, .int .i64 usual.n, .int .i64 usual.b, .int .i64 usual.a, .int .i64 usual.x] 35)) := hg2.trans ((Gr.refl _).alloc _)
  have hn3 := HN2.out.gr ((Gr.refl w2).alloc (.cells #[.int .i64 usual.d, .int .i64 usual.n, .int .i64 usual.b, .int .i64 usual.a, .int .i64 usual.x] 35))
  obtain ⟨k0, k1, k2, k3, k4⟩ := hn3.cells
  have kl := lt_of_block hn3
  have y0 := cell_of_cells hl0 0
  have y1 := cell_of_cells hl0 1
  have y2 := cell_of_cells hl0 2
  have y3 := cell_of_cells hl0 3
  have y4 := cell_of_cells hl0 4
  have yl := lt_of_block hl0
  have HN3 := Lib.hid hn3
  have HL3 := Lib.hid hl0
  go_wp2_with fail
  rw [← hbl]
  refine (HC1.out _ hg3).mono ?_
  rintro e w4 ⟨rfl, hb4⟩
  have hg4 := hg3.trans hb4
  have HN4 := Lib.hid (HN3.out.gr hb4)
  have HL4 := Lib.hid (HL3.out.gr hb4)
  clear hg3 hn3 hl0 hb4 k0 k1 k2 k3 k4 kl y0 y1 y2 y3 y4 yl hg2 hg1 hb2 HN1 HN2 HN3 HL3 hbl
  have hz : (ec != 0) = true := by simp [hec]
  clear hec
  go_wp2_with fail
  refine (awake_any _).mono ?_
  rintro e w5 ⟨rfl, hb5⟩
  go_wp2_with fail
  go_ret
  exact ⟨rfl, (hg4.trans ((Gr.refl _).alloc _)).trans hb5⟩
set_option maxRecDepth 100000 in
set_option maxHeartbeats 4000000 in
theorem limits_good (v : ND) (u : U5) (hu : 0 ≤ u.a ∧ u.a ≤ 1024 ∧ 0 ≤ u.x ∧ u.x ≤ 65536) (w : World) (HS : Hid (∀ W, Gr w W → Calls Try.prog 9 #[.agg #[.int .i64 v.k, .string (bs v.l), .string (bs v.x), .slice v.A v.n v.c, .string (bs v.e)]] W (RB true W))) (HC1 : Hid (∀ W, Gr w W → Calls Try.prog 15 #[.agg #[.int .i64 v.k, .string (bs v.l), .string (bs v.x), .slice v.A v.n v.c, .string (bs v.e)], .agg #[.int .i64 usual.d, .int .i64 usual.n, .int .i64 usual.b, .int .i64 usual.a, .int .i64 usual.x]] W (fun e w' => e = .returned (.tuple #[.agg #[.int .i64 u.d, .int .i64 u.n, .int .i64 u.b, .int .i64 u.a, .int .i64 u.x], .int .i64 0]) ∧ Gr W w'))) (HC2 : Hid (∀ W, Gr w W → Calls Try.prog 15 #[.agg #[.int .i64 v.k, .string (bs v.l), .string (bs v.x), .slice v.A v.n v.c, .string (bs v.e)], .agg #[.int .i64 (usual.d), .int .i64 (usual.n), .int .i64 (usual.b), .int .i64 (u.a), .int .i64 (u.x)]] W (fun e w' => e = .returned (.tuple #[.agg #[.int .i64 u.d, .int .i64 u.n, .int .i64 u.b, .int .i64 u.a, .int .i64 u.x], .int .i64 0]) ∧ Gr W w')))
    (hz : u.a = 0 → u.x = 0) (u3 : U5) (HC3 : Hid (u.a ≠ 0 → ∀ W, Gr w W → Calls Try.prog 15 #[.agg #[.int .i64 v.k, .string (bs v.l), .string (bs v.x), .slice v.A v.n v.c, .string (bs v.e)], .agg #[.int .i64 (usual.d), .int .i64 (usual.n), .int .i64 (usual.b), .int .i64 (u.a - 1), .int .i64 (u.x)]] W (fun e w' => e = .returned (.tuple #[.agg #[.int .i64 u3.d, .int .i64 u3.n, .int .i64 u3.b, .int .i64 u3.a, .int .i64 u3.x], .int .i64 11]) ∧ Gr W w'))) (u4 : U5) (e4 : Int) (HC4 : Hid (u.a ≠ 0 → ∀ W, Gr w W → Calls Try.prog 15 #[.agg #[.int .i64 v.k, .string (bs v.l), .string (bs v.x), .slice v.A v.n v.c, .string (bs v.e)], .agg #[.int .i64 (usual.d), .int .i64 (usual.n), .int .i64 (usual.b), .int .i64 (u.a), .int .i64 (u.x - 1)]] W (fun e w' => e = .returned (.tuple #[.agg #[.int .i64 u4.d, .int .i64 u4.n, .int .i64 u4.b, .int .i64 u4.a, .int .i64 u4.x], .int .i64 e4]) ∧ Gr W w'))) (he4 : u.a ≠ 0 → e4 = 12 ∨ (u.x = 0 ∧ e4 = 1)) : Calls Try.prog 5 #[.agg #[.int .i64 v.k, .string (bs v.l), .string (bs v.x), .slice v.A v.n v.c, .string (bs v.e)]] w (RB true w) := by
  have HZ := Lib.hid hz
  have HE := Lib.hid he4
  clear hz he4
  go_enter Try.func5, Try.ntmps5
  go_wp2_with fail
  have hn0 : NBox (w.alloc (.cells #[.int .i64 v.k, .string (bs v.l), .string (bs v.x), .slice v.A v.n v.c, .string (bs v.e)] 24)) w.heap.size v := heap_alloc_new w (.cells #[.int .i64 v.k, .string (bs v.l), .string (bs v.x), .slice v.A v.n v.c, .string (bs v.e)] 24)
  refine (HS.out _ ((Gr.refl w).alloc _)).mono ?_
  rintro e w1 ⟨rfl, hb1⟩
  have hg1 : Gr w w1 := ((Gr.refl w).alloc _).trans hb1
  have HN1 := Lib.hid (hn0.gr hb1)
  clear hn0 hb1
  go_wp2_with fail
  refine (usualR_any _).mono ?_
  rintro e w2 ⟨rfl, hb2⟩
  have hg2 := hg1.trans hb2
  have HN2 := Lib.hid (HN1.out.gr hb2)
  obtain ⟨bl, hbl⟩ : ∃ bl, bl = w2.heap.size := ⟨_, rfl⟩
  have hl0 : L5Box (w2.alloc (.cells #[.int .i64 usual.d, .int .i64 usual.n, .int .i64 usual.b, .int .i64 usual.a, .int .i64 usual.x] 35)) bl usual := by rw [hbl]; exact heap_alloc_new w2 _
  have hlw : w.heap.size < bl := by rw [hbl]; exact lt_of_block HN2.out
  have hg3 : Gr w (w2.alloc (.cells #[.int .i64 usual.d, .int .i64 usual.n, .int .i64 usual.b, .int .i64 usual.a, .int .i64 usual.x] 35)) := hg2.trans ((Gr.refl _).alloc _)
  have hn3 := HN2.out.gr ((Gr.refl w2).alloc (.cells #[.int .i64 usual.d, .int .i64 usual.n, .int .i64 usual.b, .int .i64 usual.a, .int .i64 usual.x] 35))
  obtain ⟨k0, k1, k2, k3, k4⟩ := hn3.cells
  have kl := lt_of_block hn3
  have y0 := cell_of_cells hl0 0
  have y1 := cell_of_cells hl0 1
  have y2 := cell_of_cells hl0 2
  have y3 := cell_of_cells hl0 3
  have y4 := cell_of_cells hl0 4
  have yl := lt_of_block hl0
  have HN3 := Lib.hid hn3
  have HL3 := Lib.hid hl0
  go_wp2_with fail
  rw [← hbl]
  refine (HC1.out _ hg3).mono ?_
  rintro e w4 ⟨rfl, hb4⟩
  have hg4 := hg3.trans hb4
  have HN4 := Lib.hid (HN3.out.gr hb4)
  have HL4 := Lib.hid (HL3.out.gr hb4)
  clear hg3 hn3 hl0 hb4 k0 k1 k2 k3 k4 kl y0 y1 y2 y3 y4 yl hg2 hg1 hb2 HN1 HN2 HN3 HL3 hbl
  have y0 := cell_of_cells HL4.out 0
  have y1 := cell_of_cells HL4.out 1
  have y2 := cell_of_cells HL4.out 2
  have y3 := cell_of_cells HL4.out 3
  have y4 := cell_of_cells HL4.out 4
  have yf0 := free_of_cells HL4.out 0
  have yf1 := free_of_cells HL4.out 1
  have yf2 := free_of_cells HL4.out 2
  have yf3 := free_of_cells HL4.out 3
  have yf4 := free_of_cells HL4.out 4
  have yl := lt_of_block HL4.out
  obtain ⟨k0, k1, k2, k3, k4⟩ := HN4.out.cells
  have kl := lt_of_block HN4.out
  go_wp2_with fail
  obtain ⟨b4, hb4⟩ : ∃ b4, b4 = w4.heap.size := ⟨_, rfl⟩
  have hlb : bl < b4 := by rw [hb4]; exact lt_of_block HL4.out
  have hsx : ((w4.setCell ⟨bl, 3, none⟩ (.int .i64 (u.a))).setCell ⟨bl, 4, none⟩ (.int .i64 (u.x))).heap.size = b4 := by simp [World.setCell, hb4]
  have hlx : L5Box (((w4.setCell ⟨bl, 3, none⟩ (.int .i64 u.a)).setCell ⟨bl, 4, none⟩ (.int .i64 u.x)).alloc (.cells #[.int .i64 u.d, .int .i64 u.n, .int .i64 u.b, .int .i64 u.a, .int .i64 u.x] 36)) bl ⟨usual.d, usual.n, usual.b, u.a, u.x⟩ := (HL4.out.set (u.a) (u.x)).gr ((Gr.refl _).alloc _)
  have hux : UBox (((w4.setCell ⟨bl, 3, none⟩ (.int .i64 u.a)).setCell ⟨bl, 4, none⟩ (.int .i64 u.x)).alloc (.cells #[.int .i64 u.d, .int .i64 u.n, .int .i64 u.b, .int .i64 u.a, .int .i64 u.x] 36)) b4 u := by
    have h := heap_alloc_new ((w4.setCell ⟨bl, 3, none⟩ (.int .i64 (u.a))).setCell ⟨bl, 4, none⟩ (.int .i64 (u.x))) (.cells #[.int .i64 u.d, .int .i64 u.n, .int .i64 u.b, .int .i64 u.a, .int .i64 u.x] 36)
    rw [hsx] at h
    exact h
  have hnx : NBox (((w4.setCell ⟨bl, 3, none⟩ (.int .i64 u.a)).setCell ⟨bl, 4, none⟩ (.int .i64 u.x)).alloc (.cells #[.int .i64 u.d, .int .i64 u.n, .int .i64 u.b, .int .i64 u.a, .int .i64 u.x] 36)) w.heap.size v := NBox.gr ((heap_set_other (by simp; omega)).trans ((heap_set_other (by simp; omega)).trans HN4.out)) ((Gr.refl _).alloc _)
  have hgx : Gr w (((w4.setCell ⟨bl, 3, none⟩ (.int .i64 u.a)).setCell ⟨bl, 4, none⟩ (.int .i64 u.x)).alloc (.cells #[.int .i64 u.d, .int .i64 u.n, .int .i64 u.b, .int .i64 u.a, .int .i64 u.x] 36)) := ((hg4.setCell (by simp; omega) _).setCell (by simp; omega) _).alloc _
  rw [← hb4]
  generalize (((w4.setCell ⟨bl, 3, none⟩ (.int .i64 u.a)).setCell ⟨bl, 4, none⟩ (.int .i64 u.x)).alloc (.cells #[.int .i64 u.d, .int .i64 u.n, .int .i64 u.b, .int .i64 u.a, .int .i64 u.x] 36)) = W5 at *
  have HLX := Lib.hid hlx
  have HUX := Lib.hid hux
  have HNX := Lib.hid hnx
  have HGX := Lib.hid hgx
  clear hsx hlx hux hnx hgx hb4 HL4 HN4 hg4 k0 k1 k2 k3 k4 kl y0 y1 y2 y3 y4 yl yf0 yf1 yf2 yf3 yf4
  refine (HC2.out _ HGX.out).mono ?_
  rintro e w6 ⟨rfl, hb6⟩
  have HL6 := Lib.hid (HLX.out.gr hb6)
  have HU6 := Lib.hid (HUX.out.gr hb6)
  have HN6 := Lib.hid (HNX.out.gr hb6)
  have HG6 := Lib.hid (HGX.out.trans hb6)
  have y0 := cell_of_cells HL6.out 0
  have y1 := cell_of_cells HL6.out 1
  have y2 := cell_of_cells HL6.out 2
  have y3 := cell_of_cells HL6.out 3
  have y4 := cell_of_cells HL6.out 4
  have yf0 := free_of_cells HL6.out 0
  have yf1 := free_of_cells HL6.out 1
  have yf2 := free_of_cells HL6.out 2
  have yf3 := free_of_cells HL6.out 3
  have yf4 := free_of_cells HL6.out 4
  have yl := lt_of_block HL6.out
  have x0 := cell_of_cells HU6.out 0
  have x1 := cell_of_cells HU6.out 1
  have x2 := cell_of_cells HU6.out 2
  have x3 := cell_of_cells HU6.out 3
  have x4 := cell_of_cells HU6.out 4
  have xl := lt_of_block HU6.out
  obtain ⟨k0, k1, k2, k3, k4⟩ := HN6.out.cells
  have kl := lt_of_block HN6.out
  clear hb6 HLX HUX HNX HGX
  by_cases hz : u.a = 0
  · have hx := HZ.out hz
    have z1 : (u.a == 0) = true := by simp [hz]
    have z2 : (u.x == 0) = true := by simp [hx]
    clear hz hx
    go_wp2_with fail
    refine (awake_any _).mono ?_
    rintro e w8 ⟨rfl, hb8⟩
    go_wp2_with fail
    go_ret
    exact ⟨rfl, (HG6.out.trans ((Gr.refl _).alloc _)).trans hb8⟩
  · have z1 : (u.a == 0) = false := by simp [hz]
    have HC3b := Lib.hid (HC3.out hz)
    have HC4b := Lib.hid (HC4.out hz)
    have HEb := Lib.hid (HE.out hz)
    have HZZ := Lib.hid hz
    clear hz
    go_wp2_with fail
    have hlb2 : bl < b4 := hlb
    have hl6 := lt_of_block HU6.out
    have hly : L5Box ((w6.setCell ⟨bl, 3, none⟩ (.int .i64 (u.a - 1))).alloc (.cells #[.int .i64 u.d, .int .i64 u.n, .int .i64 u.b, .int .i64 u.a, .int .i64 u.x] 36)) bl ⟨usual.d, usual.n, usual.b, u.a - 1, u.x⟩ := (HL6.out.seta (u.a - 1)).gr ((Gr.refl _).alloc _)
    have huy : UBox ((w6.setCell ⟨bl, 3, none⟩ (.int .i64 (u.a - 1))).alloc (.cells #[.int .i64 u.d, .int .i64 u.n, .int .i64 u.b, .int .i64 u.a, .int .i64 u.x] 36)) b4 u := UBox.gr ((heap_set_other (by simp; omega)).trans HU6.out) ((Gr.refl _).alloc _)
    have hny : NBox ((w6.setCell ⟨bl, 3, none⟩ (.int .i64 (u.a - 1))).alloc (.cells #[.int .i64 u.d, .int .i64 u.n, .int .i64 u.b, .int .i64 u.a, .int .i64 u.x] 36)) w.heap.size v := NBox.gr ((heap_set_other (by simp; omega)).trans HN6.out) ((Gr.refl _).alloc _)
    have hgy : Gr w ((w6.setCell ⟨bl, 3, none⟩ (.int .i64 (u.a - 1))).alloc (.cells #[.int .i64 u.d, .int .i64 u.n, .int .i64 u.b, .int .i64 u.a, .int .i64 u.x] 36)) := (HG6.out.setCell (by simp; omega) _).alloc _
    generalize ((w6.setCell ⟨bl, 3, none⟩ (.int .i64 (u.a - 1))).alloc (.cells #[.int .i64 u.d, .int .i64 u.n, .int .i64 u.b, .int .i64 u.a, .int .i64 u.x] 36)) = W7 at *
    generalize w6.heap.size = b6 at *
    refine (HC3b.out _ hgy).mono ?_
    rintro e w8 ⟨rfl, hb8⟩
    have HL8 := Lib.hid (hly.gr hb8)
    have HU8 := Lib.hid (huy.gr hb8)
    have HN8 := Lib.hid (hny.gr hb8)
    have HG8 := Lib.hid (hgy.trans hb8)
    clear hly huy hny hgy hb8 y0 y1 y2 y3 y4 yl yf0 yf1 yf2 yf3 yf4 x0 x1 x2 x3 x4 xl k0 k1 k2 k3 k4 kl hl6 HC3b
    have y0 := cell_of_cells HL8.out 0
    have y1 := cell_of_cells HL8.out 1
    have y2 := cell_of_cells HL8.out 2
    have y3 := cell_of_cells HL8.out 3
    have y4 := cell_of_cells HL8.out 4
    have yf0 := free_of_cells HL8.out 0
    have yf1 := free_of_cells HL8.out 1
    have yf2 := free_of_cells HL8.out 2
    have yf3 := free_of_cells HL8.out 3
    have yf4 := free_of_cells HL8.out 4
    have yl := lt_of_block HL8.out
    have x0 := cell_of_cells HU8.out 0
    have x1 := cell_of_cells HU8.out 1
    have x2 := cell_of_cells HU8.out 2
    have x3 := cell_of_cells HU8.out 3
    have x4 := cell_of_cells HU8.out 4
    have xl := lt_of_block HU8.out
    obtain ⟨k0, k1, k2, k3, k4⟩ := HN8.out.cells
    have kl := lt_of_block HN8.out
    go_wp2_with fail
    have hl8 := lt_of_block HU8.out
    have hlz : L5Box (((w8.setCell ⟨bl, 3, none⟩ (.int .i64 u.a)).setCell ⟨bl, 4, none⟩ (.int .i64 (u.x - 1))).alloc (.cells #[.int .i64 u3.d, .int .i64 u3.n, .int .i64 u3.b, .int .i64 u3.a, .int .i64 u3.x] 36)) bl ⟨usual.d, usual.n, usual.b, u.a, u.x - 1⟩ := (HL8.out.set u.a (u.x - 1)).gr ((Gr.refl _).alloc _)
    have huz : UBox (((w8.setCell ⟨bl, 3, none⟩ (.int .i64 u.a)).setCell ⟨bl, 4, none⟩ (.int .i64 (u.x - 1))).alloc (.cells #[.int .i64 u3.d, .int .i64 u3.n, .int .i64 u3.b, .int .i64 u3.a, .int .i64 u3.x] 36)) b4 u := UBox.gr ((heap_set_other (by simp; omega)).trans ((heap_set_other (by simp; omega)).trans HU8.out)) ((Gr.refl _).alloc _)
    have hgz : Gr w (((w8.setCell ⟨bl, 3, none⟩ (.int .i64 u.a)).setCell ⟨bl, 4, none⟩ (.int .i64 (u.x - 1))).alloc (.cells #[.int .i64 u3.d, .int .i64 u3.n, .int .i64 u3.b, .int .i64 u3.a, .int .i64 u3.x] 36)) := ((HG8.out.setCell (by simp; omega) _).setCell (by simp; omega) _).alloc _
    generalize (((w8.setCell ⟨bl, 3, none⟩ (.int .i64 u.a)).setCell ⟨bl, 4, none⟩ (.int .i64 (u.x - 1))).alloc (.cells #[.int .i64 u3.d, .int .i64 u3.n, .int .i64 u3.b, .int .i64 u3.a, .int .i64 u3.x] 36)) = W9 at *
    generalize w8.heap.size = b8 at *
    refine (HC4b.out _ hgz).mono ?_
    rintro e w10 ⟨rfl, hb10⟩
    have HU10 := Lib.hid (huz.gr hb10)
    have HG10 := Lib.hid (hgz.trans hb10)
    clear hlz huz hgz hb10 y0 y1 y2 y3 y4 yl yf0 yf1 yf2 yf3 yf4 x0 x1 x2 x3 x4 xl k0 k1 k2 k3 k4 kl hl8 HC4b
    have x0 := cell_of_cells HU10.out 0
    have x1 := cell_of_cells HU10.out 1
    have x2 := cell_of_cells HU10.out 2
    have x3 := cell_of_cells HU10.out 3
    have x4 := cell_of_cells HU10.out 4
    have xl := lt_of_block HU10.out
    by_cases h12 : e4 = 12
    · have q1 : (e4 == 12) = true := by simp [h12]
      clear h12
      go_wp2_with fail
      refine (awake_any _).mono ?_
      rintro e w12 ⟨rfl, hb12⟩
      go_wp2_with fail
      go_ret
      exact ⟨rfl, (HG10.out.trans ((Gr.refl _).alloc _)).trans hb12⟩
    · have q1 : (e4 == 12) = false := by simp [h12]
      have h0 : u.x = 0 ∧ e4 = 1 := by
        rcases HEb.out with h | h
        · exact absurd h h12
        · exact h
      have q2 : (u.x == 0) = true := by simp [h0.1]
      have q3 : (e4 == 1) = true := by simp [h0.2]
      clear h12 h0
      go_wp2_with fail
      refine (awake_any _).mono ?_
      rintro e w12 ⟨rfl, hb12⟩
      go_wp2_with fail
      go_ret
      exact ⟨rfl, (HG10.out.trans ((Gr.refl _).alloc _)).trans hb12⟩
set_option maxRecDepth 100000 in
set_option maxHeartbeats 4000000 in
theorem anchorLimits_any (m : Nat) (v : ND) (t : NT) (w : World) (hr : NRep anyB m w v t) : Calls Try.prog 5 #[.agg #[.int .i64 v.k, .string (bs v.l), .string (bs v.x), .slice v.A v.n v.c, .string (bs v.e)]] w (RB true w) := by
  have hs := fun W (hg : Gr w W) => smallA_any m v t W (hr.gr hg)
  cases hsm : smallB t 60 140 2000 with
  | false =>
    rw [hsm] at hs
    exact limits_out v w (Lib.hid hs)
  | true =>
    rw [hsm] at hs
    obtain ⟨f1, _, f3⟩ := small_facts hsm
    have hck : ∀ (L : U5) W (_ : Gr w W), Calls Try.prog 15 #[.agg #[.int .i64 v.k, .string (bs v.l), .string (bs v.x), .slice v.A v.n v.c, .string (bs v.e)], .agg #[.int .i64 L.d, .int .i64 L.n, .int .i64 L.b, .int .i64 L.a, .int .i64 L.x]] W (RUE (chkF L t) W) := fun L W hg => CheckA_any m v t L W (hr.gr hg) (Nat.le_trans f3 (by decide)) (Nat.le_trans f1 (by decide))
    obtain ⟨q, hq⟩ : ∃ q, chkF usual t = q := ⟨_, rfl⟩
    obtain ⟨u, ec⟩ := q
    have h1 := hck usual
    rw [hq] at h1
    by_cases hec : ec = 0
    · subst hec
      obtain ⟨_, _, _, b1, b2, b3, b4, l1, l2, l3, l4, l5⟩ := limits_law hq
      have h2 := hck ⟨48, 65536, 1048576, u.a, u.x⟩
      have h3 := hck ⟨48, 65536, 1048576, u.a - 1, u.x⟩
      have h4 := hck ⟨48, 65536, 1048576, u.a, u.x - 1⟩
      rw [l1] at h2
      obtain ⟨u3, e3, h3q⟩ : ∃ u3 e3, chkF ⟨48, 65536, 1048576, u.a - 1, u.x⟩ t = (u3, e3) := ⟨_, _, rfl⟩
      obtain ⟨u4, e4, h4q⟩ : ∃ u4 e4, chkF ⟨48, 65536, 1048576, u.a, u.x - 1⟩ t = (u4, e4) := ⟨_, _, rfl⟩
      rw [h3q] at h3 l3
      rw [h4q] at h4 l4 l5
      refine limits_good v u ⟨b1, b2, b3, b4⟩ w (Lib.hid hs) (Lib.hid h1) (Lib.hid h2) l2 u3 (Lib.hid (fun ha => ?_)) u4 e4 (Lib.hid (fun _ => h4)) (fun ha => ?_)
      · have h5 : e3 = 11 := l3 ha
        rw [h5] at h3
        exact h3
      · by_cases hx : u.x = 0
        · exact .inr ⟨hx, l5 hx⟩
        · exact .inl (l4 ha hx)
    · exact limits_bad v u ec hec w (Lib.hid hs) (Lib.hid h1)
namespace AnchorLimits
set_option maxRecDepth 100000 in
theorem lifted (os : Os) (started : os.Started) (H : Type) (enc : TypeId × Value → H) :
    ReturnsInHanded {} Try.checked os 5 .any (Rows.anchorLimitsSpec.pre6 enc Try.prog Try.f5 Rows.anchorLimitsRow.domain false) (Rows.anchorLimitsSpec.post enc Try.prog Try.f5 false true false false) := by
  refine law_lifted (C := Try.checked) (tb := 4) own started (by kernel_rfl) Try.func5 laidOut rfl rfl Try.underlying4 (by kernel_rfl) ?_
    (ChangeSpec.witness6 (enc := enc) (C := Try.checked) false ⟨#[], #[.agg #[.int .i64 0, .string ⟨#[]⟩, .string ⟨#[]⟩, .slice none 0 0, .string ⟨#[]⟩]], []⟩ 8 (by kernel_rfl) (by kernel_rfl) (by kernel_rfl) (by kernel_rfl)) ?_
  · intro ds hl
    match ds, hl with
    | [_], _ => rfl
  · intro W base args ds ps hval0 hA0 hlt
    have hval : ∀ (j : Nat) t v, Try.f5.params[j]? = some t → args[j]? = some v → Value.okWide Try.prog W .any base t v := hval0
    have hA : DataW.TrodAll enc Try.prog W 0 (fun _ => true) true Try.f5.params.toList args.toList ds ps := hA0
    rw [Try.params5] at hA hval
    obtain ⟨v0, d0, rfl, rfl, h0⟩ := trodAll_one hA
    obtain ⟨ev0, tv0, mv0, rfl, hrv0⟩ := open_node (hval 0 24 v0 rfl rfl) h0
    exact anchorLimits_any mv0 ev0 tv0 W hrv0

theorem proved : Rows.AnchorLimitsSaid :=
  OpenClaim.holds_of_wide 5 Try.f5 rfl rfl rfl rfl rfl rfl rfl ⟨rfl, rfl, rfl, rfl, rfl⟩ rfl rfl rfl rfl rfl (by kernel_rfl) Try.func5 (by kernel_rfl)
    (of_decide_eq_true (by kernel_rfl)) (by unfold Func.isWrapper; first | (rw [if_pos (by decide +kernel)]; kernel_rfl) | (rw [if_neg (by decide +kernel)]; exact ⟨rfl, rfl⟩))
    (fun os started H enc _ => lifted os started H enc)
end AnchorLimits
end Go.Proofs.Ytbfnmgiccbdglaa
