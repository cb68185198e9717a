/- Check and Cost of the reference, walked. -/
import Derived.Test.YtbfnmgiccbdglaaAnRChk
import Derived.Test.YtbfnmgiccbdglaaAnCheck
import Derived.Deep.CutRange
namespace Go.Proofs.Ytbfnmgiccbdglaa
open Go.ChangeShapes Go.WideShapes Go.ChangeAt Go.RowKit

theorem visit0 (L : U5) (m : Nat) (v : ND) (t : NT) (W : World) (hr : NRep anyB m W v t) (hm : markedB t = true) (hc : countF t ≤ 1000000) (q : RSt × NT × Int) (hq : visR false L t r0 = q) : Calls Try.prog 35 #[.agg #[.int .i64 L.d, .int .i64 L.n, .int .i64 L.b, .int .i64 L.a, .int .i64 L.x, .slice none 0 0, .slice none 0 0, .int .i64 0, .int .i64 0, .int .i64 0, .int .i64 0, .int .i64 0, .int .i64 0], .agg #[.int .i64 v.k, .string (bs v.l), .string (bs v.x), .slice v.A v.n v.c, .string (bs v.e)], .bool false] W (fun e w' => ∃ (x' : SV) (y' : ND), e = .returned (.tuple #[.agg #[.int .i64 L.d, .int .i64 L.n, .int .i64 L.b, .int .i64 L.a, .int .i64 L.x, .slice x'.A1 x'.n1 x'.c1, .slice x'.A2 x'.n2 x'.c2, .int .i64 q.1.u.d, .int .i64 q.1.u.n, .int .i64 q.1.u.b, .int .i64 q.1.u.a, .int .i64 q.1.u.x, .int .i64 q.1.err], .agg #[.int .i64 y'.k, .string (bs y'.l), .string (bs y'.x), .slice y'.A y'.n y'.c, .string (bs y'.e)], .int .i64 q.2.2]) ∧ Gr W w') := by
  have h := visitRP_any L m v t r0 ⟨none, 0, 0, none, 0, 0⟩ 0 W anyB (fun _ _ => trivial) hr (r0_rep W) hm (Nat.le_refl _) (Nat.le_refl _) (by omega)
  rw [hq] at h
  refine h.mono ?_
  rintro e w' ⟨x', y', he, _, _, hg⟩
  exact ⟨x', y', he, hg⟩
set_option maxRecDepth 100000 in
set_option maxHeartbeats 4000000 in
theorem CheckRR_any (m : Nat) (v : ND) (t : NT) (L : U5) (w : World) (hr : NRep anyB m w v t) (hl : lenF t ≤ 1152921504606846976) (hc : countF t ≤ 1000000) : Calls Try.prog 16 #[.agg #[.int .i64 v.k, .string (bs v.l), .string (bs v.x), .slice v.A v.n v.c, .string (bs v.e)], .agg #[.int .i64 L.d, .int .i64 L.n, .int .i64 L.b, .int .i64 L.a, .int .i64 L.x]] w (RUE (chkR L t) w) := by
  have HR := Lib.hid hr
  obtain ⟨b1, hb1⟩ : ∃ b, validB L.d L.n L.b L.a L.x = b := ⟨_, rfl⟩
  obtain ⟨b2, hb2⟩ : ∃ b, properB t = b := ⟨_, rfl⟩
  obtain ⟨q, hq⟩ : ∃ q, visR false L t r0 = q := ⟨_, rfl⟩
  have h1 := fun W => validR_any L.d L.n L.b L.a L.x W
  have h2 := fun W (hg : Gr w W) => properR_any m v t W (hr.gr hg) hl
  have h3 := fun W (hg : Gr w W) (hm : markedB t = true) => visit0 L m v t W (hr.gr hg) hm hc q hq
  have hck : chkR L t = if (b1 && b2) = false then (U5.zero, 1) else if q.1.err = 0 then (q.1.u, 0) else (U5.zero, q.1.err) := by
    unfold chkR
    rw [hb1, hb2, hq]
  generalize hcq : chkR L t = cq
  rw [hcq] at hck
  have HCK := Lib.hid hck
  have HM : Hid (b2 = true → markedB t = true) := Lib.hid (fun h => proper_marked (hb2.trans h))
  rw [hb1] at h1
  rw [hb2] at h2
  have H1 := Lib.hid h1
  have H2 := Lib.hid h2
  have H3 := Lib.hid h3
  clear hr hl hc hb1 hb2 hq h1 h2 h3 hck hcq
  go_enter Try.func16, Try.ntmps16
  go_wp2_with fail
  obtain ⟨nb, hnb⟩ : ∃ nb, nb = w.heap.size := ⟨_, rfl⟩
  obtain ⟨ub, hub⟩ : ∃ ub, ub = w.heap.size + 1 + 1 := ⟨_, rfl⟩
  obtain ⟨W1, hW1⟩ : ∃ W1, W1 = ((w.alloc (.cells #[.int .i64 v.k, .string (bs v.l), .string (bs v.x), .slice v.A v.n v.c, .string (bs v.e)] 24)).alloc (.cells #[.int .i64 L.d, .int .i64 L.n, .int .i64 L.b, .int .i64 L.a, .int .i64 L.x] 35)).alloc (.cells #[.int .i64 0, .int .i64 0, .int .i64 0, .int .i64 0, .int .i64 0] 36) := ⟨_, rfl⟩
  have hgw : Gr w W1 := by rw [hW1]; exact (((Gr.refl w).alloc _).alloc _).alloc _
  have hn0 : NBox W1 nb v := by
    rw [hW1, hnb]
    exact NBox.gr (heap_alloc_new w (.cells #[.int .i64 v.k, .string (bs v.l), .string (bs v.x), .slice v.A v.n v.c, .string (bs v.e)] 24)) (((Gr.refl _).alloc _).alloc _)
  have hl0 : L5Box W1 (nb + 1) L := by
    have h := heap_alloc_new (w.alloc (.cells #[.int .i64 v.k, .string (bs v.l), .string (bs v.x), .slice v.A v.n v.c, .string (bs v.e)] 24)) (.cells #[.int .i64 L.d, .int .i64 L.n, .int .i64 L.b, .int .i64 L.a, .int .i64 L.x] 35)
    rw [show (w.alloc (.cells #[.int .i64 v.k, .string (bs v.l), .string (bs v.x), .slice v.A v.n v.c, .string (bs v.e)] 24)).heap.size = nb + 1 by simp [hnb]] at h
    rw [hW1]
    exact L5Box.gr h ((Gr.refl _).alloc _)
  have hu0 : UBox W1 ub U5.zero := by
    have h := heap_alloc_new ((w.alloc (.cells #[.int .i64 v.k, .string (bs v.l), .string (bs v.x), .slice v.A v.n v.c, .string (bs v.e)] 24)).alloc (.cells #[.int .i64 L.d, .int .i64 L.n, .int .i64 L.b, .int .i64 L.a, .int .i64 L.x] 35)) (.cells #[.int .i64 0, .int .i64 0, .int .i64 0, .int .i64 0, .int .i64 0] 36)
    rw [show ((w.alloc (.cells #[.int .i64 v.k, .string (bs v.l), .string (bs v.x), .slice v.A v.n v.c, .string (bs v.e)] 24)).alloc (.cells #[.int .i64 L.d, .int .i64 L.n, .int .i64 L.b, .int .i64 L.a, .int .i64 L.x] 35)).heap.size = ub by simp [hub]] at h
    rw [hW1]
    exact h
  try rw [← hub]
  try rw [← hnb]
  try rw [← hW1]
  have HUB : Hid (w.heap.size ≤ ub ∧ nb + 1 < ub) := Lib.hid ⟨by omega, by omega⟩
  clear hW1 hub hnb
  refine (H1.out _).mono ?_
  rintro e w1 ⟨rfl, hg1⟩
  have HG1 := Lib.hid (hgw.trans hg1)
  have HN := Lib.hid (hn0.gr hg1)
  have HL := Lib.hid (hl0.gr hg1)
  have HU := Lib.hid (hu0.gr hg1)
  clear hgw hn0 hl0 hu0 hg1
  cases b1 with
  | false =>
    have y0 := cell_of_cells HU.out 0
    have z0 := free_of_cells HU.out 0
    have y1 := cell_of_cells HU.out 1
    have z1 := free_of_cells HU.out 1
    have y2 := cell_of_cells HU.out 2
    have z2 := free_of_cells HU.out 2
    have y3 := cell_of_cells HU.out 3
    have z3 := free_of_cells HU.out 3
    have y4 := cell_of_cells HU.out 4
    have z4 := free_of_cells HU.out 4
    have yl := lt_of_block HU.out
    have HC2 : Hid (cq = (U5.zero, 1)) := Lib.hid HCK.out
    go_wp2_with fail
    have h5 := five_setR HU.out (.int .i64 0) (.int .i64 0) (.int .i64 0) (.int .i64 0) (.int .i64 0)
    have hub := HUB.out
    refine bodyPost_ret (results_usage rfl _ _ _ U5.zero rfl h5) rfl ⟨by rw [HC2.out]; rfl, (Gr.setCell (Gr.setCell (Gr.setCell (Gr.setCell (Gr.setCell HG1.out (by simp; omega) _) (by simp; omega) _) (by simp; omega) _) (by simp; omega) _) (by simp; omega) _)⟩
  | true =>
    obtain ⟨k0, k1, k2, k3, k4⟩ := HN.out.cells
    have kl := lt_of_block HN.out
    go_wp2_with fail
    refine (H2.out _ HG1.out).mono ?_
    rintro e w2 ⟨rfl, hg2⟩
    have HG2 := Lib.hid (HG1.out.trans hg2)
    replace HN := Lib.hid (HN.out.gr hg2)
    replace HL := Lib.hid (HL.out.gr hg2)
    replace HU := Lib.hid (HU.out.gr hg2)
    clear k0 k1 k2 k3 k4 kl hg2 HG1
    cases b2 with
    | false =>
      have y0 := cell_of_cells HU.out 0
      have z0 := free_of_cells HU.out 0
      have y1 := cell_of_cells HU.out 1
      have z1 := free_of_cells HU.out 1
      have y2 := cell_of_cells HU.out 2
      have z2 := free_of_cells HU.out 2
      have y3 := cell_of_cells HU.out 3
      have z3 := free_of_cells HU.out 3
      have y4 := cell_of_cells HU.out 4
      have z4 := free_of_cells HU.out 4
      have yl := lt_of_block HU.out
      have HC2 : Hid (cq = (U5.zero, 1)) := Lib.hid HCK.out
      go_wp2_with fail
      have h5 := five_setR HU.out (.int .i64 0) (.int .i64 0) (.int .i64 0) (.int .i64 0) (.int .i64 0)
      have hub := HUB.out
      refine bodyPost_ret (results_usage rfl _ _ _ U5.zero rfl h5) rfl ⟨by rw [HC2.out]; rfl, (Gr.setCell (Gr.setCell (Gr.setCell (Gr.setCell (Gr.setCell HG2.out (by simp; omega) _) (by simp; omega) _) (by simp; omega) _) (by simp; omega) _) (by simp; omega) _)⟩
    | true =>
      have HC2 : Hid (cq = if q.1.err = 0 then (q.1.u, 0) else (U5.zero, q.1.err)) := Lib.hid HCK.out
      obtain ⟨k0, k1, k2, k3, k4⟩ := HN.out.cells
      have kl := lt_of_block HN.out
      have l0 := cell_of_cells HL.out 0
      have l1 := cell_of_cells HL.out 1
      have l2 := cell_of_cells HL.out 2
      have l3 := cell_of_cells HL.out 3
      have l4 := cell_of_cells HL.out 4
      have ll := lt_of_block HL.out
      go_upto_region 3 with fail
      go_cut [6] from 18 to 25 (fun p6 wx => ∃ (k6 : Nat) (x' : SV), p6 = .pointer (some ⟨k6, 0, none⟩) ∧ ub < k6 ∧ Gr w wx ∧ UBox wx ub U5.zero ∧ wx.heap[k6]? = some (.cells #[.int .i64 L.d, .int .i64 L.n, .int .i64 L.b, .int .i64 L.a, .int .i64 L.x, .slice x'.A1 x'.n1 x'.c1, .slice x'.A2 x'.n2 x'.c2, .int .i64 q.1.u.d, .int .i64 q.1.u.n, .int .i64 q.1.u.b, .int .i64 q.1.u.a, .int .i64 q.1.u.x, .int .i64 q.1.err] 68 (0, 0)))
      case first =>
        go_wp2_with fail
        refine (H3.out _ HG2.out (HM.out (by simp))).mono ?_
        rintro e w3 ⟨x', y', rfl, hg3⟩
        have HG3 := Lib.hid hg3
        clear hg3 k0 k1 k2 k3 k4 kl l0 l1 l2 l3 l4 ll
        go_wp2_with fail
        go_meet
        have hub := HUB.out
        have hu3 := HU.out.gr HG3.out
        have hl3 := lt_of_block hu3
        have hg3 := HG2.out.trans HG3.out
        have hsz := Below.size hg3
        refine ⟨w3.heap.size, x', rfl, by omega, ?_, ?_, ?_⟩
        · exact (by with_reducible (repeat (first | exact Gr.refl _ | assumption | apply Gr.alloc | apply Gr.drew | apply Gr.drewN | refine Gr.setCell ?_ (by first | (simp; done) | (simp; omega)) _ | refine Gr.trans ?_ (by assumption))))
        · exact hu3.gr (by with_reducible (repeat (first | exact Gr.refl _ | assumption | apply Gr.alloc | apply Gr.drew | apply Gr.drewN | refine Gr.setCell ?_ (by first | (simp; done) | (simp; omega)) _ | refine Gr.trans ?_ (by assumption))))
        · first | (rw [heapOldR (by simp)]; exact heap_alloc_new _ _) | skip
      case rest =>
      obtain ⟨k6, x', rfl, hub6, hgx, hux, hkx⟩ := hcut
      have HGR := Lib.hid hgx
      have HUX := Lib.hid hux
      have HKX := Lib.hid hkx
      have HUB2 := Lib.hid hub6
      have kc12 := cell_of_cells hkx 12
      have kl6 := lt_of_block hkx
      clear hgx hux hkx
      by_cases hz : q.1.err = 0
      · have hz2 : (q.1.err != 0) = false := by simp [hz]
        have HC3 : Hid (cq = (q.1.u, 0)) := Lib.hid (by rw [HC2.out, if_pos hz])
        have kc7 := cell_of_cells HKX.out 7
        have kc8 := cell_of_cells HKX.out 8
        have kc9 := cell_of_cells HKX.out 9
        have kc10 := cell_of_cells HKX.out 10
        have kc11 := cell_of_cells HKX.out 11
        have y0 := cell_of_cells HUX.out 0
        have z0 := free_of_cells HUX.out 0
        have y1 := cell_of_cells HUX.out 1
        have z1 := free_of_cells HUX.out 1
        have y2 := cell_of_cells HUX.out 2
        have z2 := free_of_cells HUX.out 2
        have y3 := cell_of_cells HUX.out 3
        have z3 := free_of_cells HUX.out 3
        have y4 := cell_of_cells HUX.out 4
        have z4 := free_of_cells HUX.out 4
        have yl := lt_of_block HUX.out
        clear hz
        go_wp2_with fail
        have h5 := five_setR HUX.out (.int .i64 q.1.u.d) (.int .i64 q.1.u.n) (.int .i64 q.1.u.b) (.int .i64 q.1.u.a) (.int .i64 q.1.u.x)
        have hub := HUB.out
        refine bodyPost_ret (results_usage rfl _ _ _ q.1.u rfl h5) rfl ⟨by rw [HC3.out]; rfl, (Gr.setCell (Gr.setCell (Gr.setCell (Gr.setCell (Gr.setCell HGR.out (by simp; omega) _) (by simp; omega) _) (by simp; omega) _) (by simp; omega) _) (by simp; omega) _)⟩
      · have hz2 : (q.1.err != 0) = true := by simp [hz]
        have HC3 : Hid (cq = (U5.zero, q.1.err)) := Lib.hid (by rw [HC2.out, if_neg hz])
        clear hz
        go_wp2_with fail
        clear kc12 kl6
        obtain ⟨VS, hVS⟩ : ∃ VS : List (Nat × Nat × Value), VS = [(0, 29, .agg #[.int .i64 0, .int .i64 0, .int .i64 0, .int .i64 0, .int .i64 0]), (1, 30, .pointer (some ⟨k6, 12, none⟩)), (2, 31, .int .i64 q.1.err), (4, 5, .int .i64 q.1.err)] := ⟨_, rfl⟩
        obtain ⟨US, hUS⟩ : ∃ US : List (Nat × Value), US = [(4, .pointer (some ⟨ub, 0, none⟩)), (6, .pointer (some ⟨k6, 0, none⟩))] := ⟨_, rfl⟩
        refine wp_region_frame (by kernel_rfl) (by kernel_rfl) [29, 30, 31, 5] (by simp) (Det VS US (fun _ _ w' => Gr w w' ∧ UBox w' ub U5.zero ∧ w'.heap[k6]? = some (.cells #[.int .i64 L.d, .int .i64 L.n, .int .i64 L.b, .int .i64 L.a, .int .i64 L.x, .slice x'.A1 x'.n1 x'.c1, .slice x'.A2 x'.n2 x'.c2, .int .i64 q.1.u.d, .int .i64 q.1.u.n, .int .i64 q.1.u.b, .int .i64 q.1.u.a, .int .i64 q.1.u.x, .int .i64 q.1.err] 68 (0, 0)))) ?_ ?_ ?_
        · exact Det.start (by rw [hUS]; simp [slot]) (⟨HGR.out.drew, HUX.out, HKX.out⟩)
        · intro B a' w' i o hfr hF ho hBi hdp
          have hi8 := (Array.getElem?_eq_some_iff.1 ho).1
          simp only [List.size_toArray, List.length_cons, List.length_nil] at hi8
          have hor : i = 0 ∨ i = 1 ∨ i = 2 ∨ i = 3 ∨ i = 4 := by omega
          clear hi8
          rcases hor with rfl | rfl | rfl | rfl | rfl
          all_goals (
            simp only [List.getElem?_toArray, List.getElem?_cons_zero, List.getElem?_cons_succ, Option.some.injEq] at ho
            subst ho
            rw [if_pos (show Region.wanted _ _ = true from rfl)]
            refine wp_hideK ?_
            intro K hK)
          · have hFW := hF.wd
            go_simp
            exact hK.out _ _ (close_put hfr (d := 29) (by decide) (by simp) _ (F := fun u => Det VS US (fun _ _ w' => Gr w w' ∧ UBox w' ub U5.zero ∧ w'.heap[k6]? = some (.cells #[.int .i64 L.d, .int .i64 L.n, .int .i64 L.b, .int .i64 L.a, .int .i64 L.x, .slice x'.A1 x'.n1 x'.c1, .slice x'.A2 x'.n2 x'.c2, .int .i64 q.1.u.d, .int .i64 q.1.u.n, .int .i64 q.1.u.b, .int .i64 q.1.u.a, .int .i64 q.1.u.x, .int .i64 q.1.err] 68 (0, 0))) (upB B 0) u _) (hF.step (by rw [hVS]; simp) (by rw [hUS]; simp) (hFW)))
          · have hFW := hF.wd
            have o6 := slot_spell (hF.had (d := 6) (v := .pointer (some ⟨k6, 0, none⟩)) (by rw [hUS]; simp))
            have kl6 := lt_of_block hFW.2.2
            go_simp
            exact hK.out _ _ (close_put hfr (d := 30) (by decide) (by simp) _ (F := fun u => Det VS US (fun _ _ w' => Gr w w' ∧ UBox w' ub U5.zero ∧ w'.heap[k6]? = some (.cells #[.int .i64 L.d, .int .i64 L.n, .int .i64 L.b, .int .i64 L.a, .int .i64 L.x, .slice x'.A1 x'.n1 x'.c1, .slice x'.A2 x'.n2 x'.c2, .int .i64 q.1.u.d, .int .i64 q.1.u.n, .int .i64 q.1.u.b, .int .i64 q.1.u.a, .int .i64 q.1.u.x, .int .i64 q.1.err] 68 (0, 0))) (upB B 1) u _) (hF.step (by rw [hVS]; simp) (by rw [hUS]; simp) (hFW)))
          · have hFW := hF.wd
            have hB1 : B 1 = true := hdp ⟨1, .data⟩ (by simp) (by rfl)
            have e1 := slot_spell (hF.get (i := 1) (d := 30) (v := .pointer (some ⟨k6, 12, none⟩)) (by rw [hVS]; simp) hB1)
            have kl6 := lt_of_block hFW.2.2
            have kc12 := cell_of_cells hFW.2.2 12
            go_simp
            exact hK.out _ _ (close_put hfr (d := 31) (by decide) (by simp) _ (F := fun u => Det VS US (fun _ _ w' => Gr w w' ∧ UBox w' ub U5.zero ∧ w'.heap[k6]? = some (.cells #[.int .i64 L.d, .int .i64 L.n, .int .i64 L.b, .int .i64 L.a, .int .i64 L.x, .slice x'.A1 x'.n1 x'.c1, .slice x'.A2 x'.n2 x'.c2, .int .i64 q.1.u.d, .int .i64 q.1.u.n, .int .i64 q.1.u.b, .int .i64 q.1.u.a, .int .i64 q.1.u.x, .int .i64 q.1.err] 68 (0, 0))) (upB B 2) u _) (hF.step (by rw [hVS]; simp) (by rw [hUS]; simp) (hFW)))
          · have hFW := hF.wd
            have hB0 : B 0 = true := hdp ⟨0, .data⟩ (by simp) (by rfl)
            have e0 := slot_spell (hF.get (i := 0) (d := 29) (v := .agg #[.int .i64 0, .int .i64 0, .int .i64 0, .int .i64 0, .int .i64 0]) (by rw [hVS]; simp) hB0)
            have o4 := slot_spell (hF.had (d := 4) (v := .pointer (some ⟨ub, 0, none⟩)) (by rw [hUS]; simp))
            have y0 := cell_of_cells hFW.2.1 0
            have z0 := free_of_cells hFW.2.1 0
            have y1 := cell_of_cells hFW.2.1 1
            have z1 := free_of_cells hFW.2.1 1
            have y2 := cell_of_cells hFW.2.1 2
            have z2 := free_of_cells hFW.2.1 2
            have y3 := cell_of_cells hFW.2.1 3
            have z3 := free_of_cells hFW.2.1 3
            have y4 := cell_of_cells hFW.2.1 4
            have z4 := free_of_cells hFW.2.1 4
            have yl := lt_of_block hFW.2.1
            have hub := HUB.out
            go_simp
            exact hK.out _ _ (close_none hfr undef (F := fun u => Det VS US (fun _ _ w' => Gr w w' ∧ UBox w' ub U5.zero ∧ w'.heap[k6]? = some (.cells #[.int .i64 L.d, .int .i64 L.n, .int .i64 L.b, .int .i64 L.a, .int .i64 L.x, .slice x'.A1 x'.n1 x'.c1, .slice x'.A2 x'.n2 x'.c2, .int .i64 q.1.u.d, .int .i64 q.1.u.n, .int .i64 q.1.u.b, .int .i64 q.1.u.a, .int .i64 q.1.u.x, .int .i64 q.1.err] 68 (0, 0))) (upB B 3) u _) (hF.none (by rw [hVS]; simp) (⟨(Gr.setCell (Gr.setCell (Gr.setCell (Gr.setCell (Gr.setCell hFW.1 (by simp; omega) _) (by simp; omega) _) (by simp; omega) _) (by simp; omega) _) (by simp; omega) _), five_setR hFW.2.1 _ _ _ _ _, by rw [heap_set_other (by simp; omega), heap_set_other (by simp; omega), heap_set_other (by simp; omega), heap_set_other (by simp; omega), heap_set_other (by simp; omega)]; exact hFW.2.2⟩)))
          · have hFW := hF.wd
            have hB2 : B 2 = true := hdp ⟨2, .data⟩ (by simp) (by rfl)
            have e2 := slot_spell (hF.get (i := 2) (d := 31) (v := .int .i64 q.1.err) (by rw [hVS]; simp) hB2)
            go_simp
            exact hK.out _ _ (close_put hfr (d := 5) (by decide) (by simp) _ (F := fun u => Det VS US (fun _ _ w' => Gr w w' ∧ UBox w' ub U5.zero ∧ w'.heap[k6]? = some (.cells #[.int .i64 L.d, .int .i64 L.n, .int .i64 L.b, .int .i64 L.a, .int .i64 L.x, .slice x'.A1 x'.n1 x'.c1, .slice x'.A2 x'.n2 x'.c2, .int .i64 q.1.u.d, .int .i64 q.1.u.n, .int .i64 q.1.u.b, .int .i64 q.1.u.a, .int .i64 q.1.u.x, .int .i64 q.1.err] 68 (0, 0))) (upB B 4) u _) (hF.step (by rw [hVS]; simp) (by rw [hUS]; simp) (hFW)))
        · intro B u w' hall hF
          have z0 := hF.get (i := 0) (d := 29) (v := .agg #[.int .i64 0, .int .i64 0, .int .i64 0, .int .i64 0, .int .i64 0]) (by rw [hVS]; simp) (hall 0 (by simp))
          have z1 := hF.get (i := 1) (d := 30) (v := .pointer (some ⟨k6, 12, none⟩)) (by rw [hVS]; simp) (hall 1 (by simp))
          have z2 := hF.get (i := 2) (d := 31) (v := .int .i64 q.1.err) (by rw [hVS]; simp) (hall 2 (by simp))
          have z4 := hF.get (i := 4) (d := 5) (v := .int .i64 q.1.err) (by rw [hVS]; simp) (hall 4 (by simp))
          have hFW := hF.wd
          clear hF hVS hUS
          simp only [List.foldl_cons, List.foldl_nil, Act.put, List.setIfInBounds_toArray, List.set_cons_zero, List.set_cons_succ, z0, z1, z2, z4]
          clear z0 z1 z2 z4
          clear hall
          go_wp2_with fail
          refine bodyPost_ret (results_usage rfl _ _ _ U5.zero rfl hFW.2.1) rfl ⟨by rw [HC3.out]; rfl, hFW.1⟩
/-- What a region has made that stores a usage in a new place (op 6 makes it, op 7 stores): slot sl. -/
structure WC1 (sl : Nat) (cs : Array Value) (W1 : World) (B : Nat → Bool) (u : Nat → Value) (W : World) : Prop where
  gr : Gr W1 W
  l7 : B 7 = true → B 6 = true
  a6 : B 6 = true → ∃ k, u sl = .pointer (some ⟨k, 0, none⟩) ∧ W1.heap.size ≤ k ∧ k < W.heap.size ∧ (B 7 = false → W.heap[k]? = some (.cells #[.int .i64 0, .int .i64 0, .int .i64 0, .int .i64 0, .int .i64 0] 36 (0, 0))) ∧ (B 7 = true → W.heap[k]? = some (.cells cs 36 (0, 0)))
theorem WC1.start {sl : Nat} {cs : Array Value} {W1 W : World} {u : Nat → Value} (hg : Gr W1 W) : WC1 sl cs W1 (fun _ => false) u W := ⟨hg, (fun h => by cases h), (fun h => by cases h)⟩
theorem WC1.step {sl : Nat} {cs : Array Value} {W1 W W' : World} {B : Nat → Bool} {u : Nat → Value} (h : WC1 sl cs W1 B u W) (hg : Gr W W') {i d : Nat} {v : Value} (hi : i ≠ 6 ∧ i ≠ 7) (hd : d ≠ sl) : WC1 sl cs W1 (upB B i) (upV u d v) W' := by
  have e6 : upB B i 6 = B 6 := upB_ne (Ne.symm hi.1)
  have e7 : upB B i 7 = B 7 := upB_ne (Ne.symm hi.2)
  refine ⟨h.gr.trans hg, by rw [e6, e7]; exact h.l7, fun hx => ?_⟩
  rw [e6] at hx
  rw [e7, upV_else hd]
  obtain ⟨k, q1, q2, q3, q4, q5⟩ := h.a6 hx
  exact ⟨k, q1, q2, Gr.lt hg q3, fun hy => (hg.block k q3).trans (q4 hy), fun hy => (hg.block k q3).trans (q5 hy)⟩
theorem WC1.al6 {sl : Nat} {cs : Array Value} {W1 W : World} {B : Nat → Bool} {u : Nat → Value} (h : WC1 sl cs W1 B u W) (h6 : B 6 = false) : WC1 sl cs W1 (upB B 6) (upV u sl (.pointer (some ⟨W.heap.size, 0, none⟩))) (W.alloc (.cells #[.int .i64 0, .int .i64 0, .int .i64 0, .int .i64 0, .int .i64 0] 36)) := by
  have h7 : B 7 = false := by
    cases hx : B 7 with
    | false => rfl
    | true => have := h.l7 hx; rw [h6] at this; cases this
  refine ⟨h.gr.trans ((Gr.refl W).alloc _), fun _ => upB_at, fun _ => ⟨W.heap.size, upV_same rfl, Below.size h.gr, by simp, fun _ => heap_alloc_new _ _, fun hy => ?_⟩⟩
  rw [upB_ne (by decide), h7] at hy
  cases hy
theorem WC1.st7 {sl : Nat} {cs : Array Value} {W1 W : World} {B : Nat → Bool} {u : Nat → Value} (h : WC1 sl cs W1 B u W) (h6 : B 6 = true) {k : Nat} (hk : W1.heap.size ≤ k) (hu : u sl = .pointer (some ⟨k, 0, none⟩)) (hz : W.heap[k]? = some (.cells #[.int .i64 0, .int .i64 0, .int .i64 0, .int .i64 0, .int .i64 0] 36 (0, 0))) {a b c d e : Value} (hcs : cs = #[a, b, c, d, e]) : WC1 sl cs W1 (upB B 7) u (((((W.setCell ⟨k, 0, none⟩ a).setCell ⟨k, 1, none⟩ b).setCell ⟨k, 2, none⟩ c).setCell ⟨k, 3, none⟩ d).setCell ⟨k, 4, none⟩ e) :=
  ⟨(Gr.setCell (Gr.setCell (Gr.setCell (Gr.setCell (Gr.setCell h.gr hk _) hk _) hk _) hk _) hk _), fun _ => by rw [upB_ne (by decide)]; exact h6, fun _ => ⟨k, hu, hk, by simp; exact lt_of_block hz, fun hy => (by rw [upB_at] at hy; cases hy), fun _ => by rw [hcs]; exact five_setR hz _ _ _ _ _⟩⟩
/-- What region 4 of Cost has made: a state and a node. -/
structure WC4 (W1 : World) (L : U5) (q : RSt × NT × Int) (B : Nat → Bool) (u : Nat → Value) (W : World) : Prop where
  gr : Gr W1 W
  l10 : B 10 = true → B 8 = true
  l11 : B 11 = true → B 9 = true
  c3 : B 3 = true → ∃ (a' : SV) (v' : ND), u 22 = .tuple #[.agg #[.int .i64 L.d, .int .i64 L.n, .int .i64 L.b, .int .i64 L.a, .int .i64 L.x, .slice a'.A1 a'.n1 a'.c1, .slice a'.A2 a'.n2 a'.c2, .int .i64 q.1.u.d, .int .i64 q.1.u.n, .int .i64 q.1.u.b, .int .i64 q.1.u.a, .int .i64 q.1.u.x, .int .i64 q.1.err], .agg #[.int .i64 v'.k, .string (bs v'.l), .string (bs v'.x), .slice v'.A v'.n v'.c, .string (bs v'.e)], .int .i64 q.2.2]
  c4 : B 4 = true → ∃ (a' : SV) (v' : ND), u 18 = .tuple #[.agg #[.int .i64 L.d, .int .i64 L.n, .int .i64 L.b, .int .i64 L.a, .int .i64 L.x, .slice a'.A1 a'.n1 a'.c1, .slice a'.A2 a'.n2 a'.c2, .int .i64 q.1.u.d, .int .i64 q.1.u.n, .int .i64 q.1.u.b, .int .i64 q.1.u.a, .int .i64 q.1.u.x, .int .i64 q.1.err], .agg #[.int .i64 v'.k, .string (bs v'.l), .string (bs v'.x), .slice v'.A v'.n v'.c, .string (bs v'.e)], .int .i64 q.2.2]
  c5 : B 5 = true → ∃ a' : SV, u 23 = .agg #[.int .i64 L.d, .int .i64 L.n, .int .i64 L.b, .int .i64 L.a, .int .i64 L.x, .slice a'.A1 a'.n1 a'.c1, .slice a'.A2 a'.n2 a'.c2, .int .i64 q.1.u.d, .int .i64 q.1.u.n, .int .i64 q.1.u.b, .int .i64 q.1.u.a, .int .i64 q.1.u.x, .int .i64 q.1.err]
  c6 : B 6 = true → ∃ v' : ND, u 24 = .agg #[.int .i64 v'.k, .string (bs v'.l), .string (bs v'.x), .slice v'.A v'.n v'.c, .string (bs v'.e)]
  a8 : B 8 = true → ∃ k, u 6 = .pointer (some ⟨k, 0, none⟩) ∧ W1.heap.size ≤ k ∧ k < W.heap.size ∧ (B 10 = false → W.heap[k]? = some (.cells #[.int .i64 0, .int .i64 0, .int .i64 0, .int .i64 0, .int .i64 0, .slice none 0 0, .slice none 0 0, .int .i64 0, .int .i64 0, .int .i64 0, .int .i64 0, .int .i64 0, .int .i64 0] 68 (0, 0)))
  a9 : B 9 = true → ∃ k, u 7 = .pointer (some ⟨k, 0, none⟩) ∧ W1.heap.size ≤ k ∧ k < W.heap.size ∧ (B 11 = false → W.heap[k]? = some (.cells #[.int .i64 0, .string ⟨#[]⟩, .string ⟨#[]⟩, .slice none 0 0, .string ⟨#[]⟩] 24 (0, 0)))
  ne : B 8 = true → B 9 = true → u 6 ≠ u 7
theorem WC4.start {W1 W : World} {L : U5} {q : RSt × NT × Int} {u : Nat → Value} (hg : Gr W1 W) : WC4 W1 L q (fun _ => false) u W := ⟨hg, (fun h => by cases h), (fun h => by cases h), (fun h => by cases h), (fun h => by cases h), (fun h => by cases h), (fun h => by cases h), (fun h => by cases h), (fun h => by cases h), (fun h => by cases h)⟩
theorem WC4.step {W1 W W' : World} {L : U5} {q : RSt × NT × Int} {B : Nat → Bool} {u : Nat → Value} (h : WC4 W1 L q B u W) (hg : Gr W W') {i d : Nat} {v : Value} (hi : i ≠ 8 ∧ i ≠ 9 ∧ i ≠ 10 ∧ i ≠ 11) (hd : d ≠ 6 ∧ d ≠ 7) (n3 : (i = 3 ∧ d = 22 ∧ ∃ (a' : SV) (v' : ND), v = .tuple #[.agg #[.int .i64 L.d, .int .i64 L.n, .int .i64 L.b, .int .i64 L.a, .int .i64 L.x, .slice a'.A1 a'.n1 a'.c1, .slice a'.A2 a'.n2 a'.c2, .int .i64 q.1.u.d, .int .i64 q.1.u.n, .int .i64 q.1.u.b, .int .i64 q.1.u.a, .int .i64 q.1.u.x, .int .i64 q.1.err], .agg #[.int .i64 v'.k, .string (bs v'.l), .string (bs v'.x), .slice v'.A v'.n v'.c, .string (bs v'.e)], .int .i64 q.2.2]) ∨ (i ≠ 3 ∧ d ≠ 22)) (n4 : (i = 4 ∧ d = 18 ∧ ∃ (a' : SV) (v' : ND), v = .tuple #[.agg #[.int .i64 L.d, .int .i64 L.n, .int .i64 L.b, .int .i64 L.a, .int .i64 L.x, .slice a'.A1 a'.n1 a'.c1, .slice a'.A2 a'.n2 a'.c2, .int .i64 q.1.u.d, .int .i64 q.1.u.n, .int .i64 q.1.u.b, .int .i64 q.1.u.a, .int .i64 q.1.u.x, .int .i64 q.1.err], .agg #[.int .i64 v'.k, .string (bs v'.l), .string (bs v'.x), .slice v'.A v'.n v'.c, .string (bs v'.e)], .int .i64 q.2.2]) ∨ (i ≠ 4 ∧ d ≠ 18)) (n5 : (i = 5 ∧ d = 23 ∧ ∃ a' : SV, v = .agg #[.int .i64 L.d, .int .i64 L.n, .int .i64 L.b, .int .i64 L.a, .int .i64 L.x, .slice a'.A1 a'.n1 a'.c1, .slice a'.A2 a'.n2 a'.c2, .int .i64 q.1.u.d, .int .i64 q.1.u.n, .int .i64 q.1.u.b, .int .i64 q.1.u.a, .int .i64 q.1.u.x, .int .i64 q.1.err]) ∨ (i ≠ 5 ∧ d ≠ 23)) (n6 : (i = 6 ∧ d = 24 ∧ ∃ v' : ND, v = .agg #[.int .i64 v'.k, .string (bs v'.l), .string (bs v'.x), .slice v'.A v'.n v'.c, .string (bs v'.e)]) ∨ (i ≠ 6 ∧ d ≠ 24)) : WC4 W1 L q (upB B i) (upV u d v) W' := by
  have e8 : upB B i 8 = B 8 := upB_ne (Ne.symm hi.1)
  have e9 : upB B i 9 = B 9 := upB_ne (Ne.symm hi.2.1)
  have e10 : upB B i 10 = B 10 := upB_ne (Ne.symm hi.2.2.1)
  have e11 : upB B i 11 = B 11 := upB_ne (Ne.symm hi.2.2.2)
  have f6 : upV u d v 6 = u 6 := upV_else hd.1
  have f7 : upV u d v 7 = u 7 := upV_else hd.2
  refine ⟨h.gr.trans hg, by rw [e10, e8]; exact h.l10, by rw [e11, e9]; exact h.l11, fun hx => ?_, fun hx => ?_, fun hx => ?_, fun hx => ?_, fun hx => ?_, fun hx => ?_, by rw [e8, e9, f6, f7]; exact h.ne⟩
  · rcases n3 with ⟨_, hd, a', v', hv⟩ | ⟨hi, hd⟩
    · exact ⟨a', v', (upV_same hd).trans hv⟩
    · rw [upB_ne (Ne.symm hi)] at hx
      obtain ⟨a', v', hv⟩ := h.c3 hx
      exact ⟨a', v', (upV_else hd).trans hv⟩
  · rcases n4 with ⟨_, hd, a', v', hv⟩ | ⟨hi, hd⟩
    · exact ⟨a', v', (upV_same hd).trans hv⟩
    · rw [upB_ne (Ne.symm hi)] at hx
      obtain ⟨a', v', hv⟩ := h.c4 hx
      exact ⟨a', v', (upV_else hd).trans hv⟩
  · rcases n5 with ⟨_, hd, a', hv⟩ | ⟨hi, hd⟩
    · exact ⟨a', (upV_same hd).trans hv⟩
    · rw [upB_ne (Ne.symm hi)] at hx
      obtain ⟨a', hv⟩ := h.c5 hx
      exact ⟨a', (upV_else hd).trans hv⟩
  · rcases n6 with ⟨_, hd, a', hv⟩ | ⟨hi, hd⟩
    · exact ⟨a', (upV_same hd).trans hv⟩
    · rw [upB_ne (Ne.symm hi)] at hx
      obtain ⟨a', hv⟩ := h.c6 hx
      exact ⟨a', (upV_else hd).trans hv⟩
  · rw [e8] at hx
    rw [e10, f6]
    obtain ⟨k, q1, q2, q3, q4⟩ := h.a8 hx
    exact ⟨k, q1, q2, Gr.lt hg q3, fun hy => (hg.block k q3).trans (q4 hy)⟩
  · rw [e9] at hx
    rw [e11, f7]
    obtain ⟨k, q1, q2, q3, q4⟩ := h.a9 hx
    exact ⟨k, q1, q2, Gr.lt hg q3, fun hy => (hg.block k q3).trans (q4 hy)⟩
theorem WC4.other {W1 W W' : World} {L : U5} {q : RSt × NT × Int} {B : Nat → Bool} {u : Nat → Value} (h : WC4 W1 L q B u W) (hg : Gr W W') {i d : Nat} {v : Value} (hi : i ≠ 8 ∧ i ≠ 9 ∧ i ≠ 10 ∧ i ≠ 11) (hd : d ≠ 6 ∧ d ≠ 7) (hi2 : i ≠ 3 ∧ i ≠ 4 ∧ i ≠ 5 ∧ i ≠ 6) (hd2 : d ≠ 22 ∧ d ≠ 18 ∧ d ≠ 23 ∧ d ≠ 24) : WC4 W1 L q (upB B i) (upV u d v) W' :=
  h.step hg hi hd (.inr ⟨hi2.1, hd2.1⟩) (.inr ⟨hi2.2.1, hd2.2.1⟩) (.inr ⟨hi2.2.2.1, hd2.2.2.1⟩) (.inr ⟨hi2.2.2.2, hd2.2.2.2⟩)
theorem WC4.al8 {W1 W : World} {L : U5} {q : RSt × NT × Int} {B : Nat → Bool} {u : Nat → Value} (h : WC4 W1 L q B u W) (_h0 : B 8 = false) : WC4 W1 L q (upB B 8) (upV u 6 (.pointer (some ⟨W.heap.size, 0, none⟩))) (W.alloc (.cells #[.int .i64 0, .int .i64 0, .int .i64 0, .int .i64 0, .int .i64 0, .slice none 0 0, .slice none 0 0, .int .i64 0, .int .i64 0, .int .i64 0, .int .i64 0, .int .i64 0, .int .i64 0] 68)) := by
  have hg : Gr W (W.alloc (.cells #[.int .i64 0, .int .i64 0, .int .i64 0, .int .i64 0, .int .i64 0, .slice none 0 0, .slice none 0 0, .int .i64 0, .int .i64 0, .int .i64 0, .int .i64 0, .int .i64 0, .int .i64 0] 68)) := (Gr.refl W).alloc _
  have e : ∀ k, k ≠ 8 → upB B 8 k = B k := fun k hk => upB_ne hk
  have fo : ∀ d, d ≠ 6 → upV u 6 (.pointer (some ⟨W.heap.size, 0, none⟩)) d = u d := fun d hd => upV_else (Ne.symm hd)
  have fi : upV u 6 (.pointer (some ⟨W.heap.size, 0, none⟩)) 6 = .pointer (some ⟨W.heap.size, 0, none⟩) := upV_same rfl
  have hold : B 9 = true → u 7 ≠ .pointer (some ⟨W.heap.size, 0, none⟩) := fun hx he => by
    obtain ⟨k, q1, _, q3, _⟩ := h.a9 hx
    rw [q1] at he
    exact ptr_ne (show k < W.heap.size from q3) he.symm
  refine ⟨h.gr.trans hg, fun _ => upB_at, by rw [e 11 (by decide), e 9 (by decide)]; exact h.l11, fun hx => ?_, fun hx => ?_, fun hx => ?_, fun hx => ?_, fun hx => ?_, fun hx => ?_, fun hx hy => ?_⟩
  · rw [e _ (by decide)] at hx
    obtain ⟨a', v', hv⟩ := h.c3 hx
    exact ⟨a', v', (fo 22 (by decide)).trans hv⟩
  · rw [e _ (by decide)] at hx
    obtain ⟨a', v', hv⟩ := h.c4 hx
    exact ⟨a', v', (fo 18 (by decide)).trans hv⟩
  · rw [e _ (by decide)] at hx
    obtain ⟨a', hv⟩ := h.c5 hx
    exact ⟨a', (fo 23 (by decide)).trans hv⟩
  · rw [e _ (by decide)] at hx
    obtain ⟨a', hv⟩ := h.c6 hx
    exact ⟨a', (fo 24 (by decide)).trans hv⟩
  · exact ⟨W.heap.size, fi, Below.size h.gr, by simp, fun _ => heap_alloc_new _ _⟩
  · rw [e _ (by decide)] at hx
    obtain ⟨k, q1, q2, q3, q4⟩ := h.a9 hx
    exact ⟨k, (fo 7 (by decide)).trans q1, q2, Gr.lt hg q3, fun hy => by rw [e _ (by decide)] at hy; exact (hg.block k q3).trans (q4 hy)⟩
  · rw [fi, fo 7 (by decide)]
    rw [e _ (by decide)] at hy
    exact fun he => hold hy he.symm
theorem WC4.al9 {W1 W : World} {L : U5} {q : RSt × NT × Int} {B : Nat → Bool} {u : Nat → Value} (h : WC4 W1 L q B u W) (_h0 : B 9 = false) : WC4 W1 L q (upB B 9) (upV u 7 (.pointer (some ⟨W.heap.size, 0, none⟩))) (W.alloc (.cells #[.int .i64 0, .string ⟨#[]⟩, .string ⟨#[]⟩, .slice none 0 0, .string ⟨#[]⟩] 24)) := by
  have hg : Gr W (W.alloc (.cells #[.int .i64 0, .string ⟨#[]⟩, .string ⟨#[]⟩, .slice none 0 0, .string ⟨#[]⟩] 24)) := (Gr.refl W).alloc _
  have e : ∀ k, k ≠ 9 → upB B 9 k = B k := fun k hk => upB_ne hk
  have fo : ∀ d, d ≠ 7 → upV u 7 (.pointer (some ⟨W.heap.size, 0, none⟩)) d = u d := fun d hd => upV_else (Ne.symm hd)
  have fi : upV u 7 (.pointer (some ⟨W.heap.size, 0, none⟩)) 7 = .pointer (some ⟨W.heap.size, 0, none⟩) := upV_same rfl
  have hold : B 8 = true → u 6 ≠ .pointer (some ⟨W.heap.size, 0, none⟩) := fun hx he => by
    obtain ⟨k, q1, _, q3, _⟩ := h.a8 hx
    rw [q1] at he
    exact ptr_ne (show k < W.heap.size from q3) he.symm
  refine ⟨h.gr.trans hg, by rw [e 10 (by decide), e 8 (by decide)]; exact h.l10, fun _ => upB_at, fun hx => ?_, fun hx => ?_, fun hx => ?_, fun hx => ?_, fun hx => ?_, fun hx => ?_, fun hx hy => ?_⟩
  · rw [e _ (by decide)] at hx
    obtain ⟨a', v', hv⟩ := h.c3 hx
    exact ⟨a', v', (fo 22 (by decide)).trans hv⟩
  · rw [e _ (by decide)] at hx
    obtain ⟨a', v', hv⟩ := h.c4 hx
    exact ⟨a', v', (fo 18 (by decide)).trans hv⟩
  · rw [e _ (by decide)] at hx
    obtain ⟨a', hv⟩ := h.c5 hx
    exact ⟨a', (fo 23 (by decide)).trans hv⟩
  · rw [e _ (by decide)] at hx
    obtain ⟨a', hv⟩ := h.c6 hx
    exact ⟨a', (fo 24 (by decide)).trans hv⟩
  · rw [e _ (by decide)] at hx
    obtain ⟨k, q1, q2, q3, q4⟩ := h.a8 hx
    exact ⟨k, (fo 6 (by decide)).trans q1, q2, Gr.lt hg q3, fun hy => by rw [e _ (by decide)] at hy; exact (hg.block k q3).trans (q4 hy)⟩
  · exact ⟨W.heap.size, fi, Below.size h.gr, by simp, fun _ => heap_alloc_new _ _⟩
  · rw [fi, fo 6 (by decide)]
    rw [e _ (by decide)] at hx
    exact fun he => hold hx he
theorem WC4.st10 {W1 W : World} {L : U5} {q : RSt × NT × Int} {B : Nat → Bool} {u : Nat → Value} (h : WC4 W1 L q B u W) (h8 : B 8 = true) {k : Nat} (hk : W1.heap.size ≤ k) (hu : u 6 = .pointer (some ⟨k, 0, none⟩)) (hl : k < W.heap.size) (c0 c1 c2 c3 c4 c5 c6 c7 c8 c9 c10 c11 c12 : Value) : WC4 W1 L q (upB B 10) u (((((((((((((W.setCell ⟨k, 0, none⟩ (c0)).setCell ⟨k, 1, none⟩ (c1)).setCell ⟨k, 2, none⟩ (c2)).setCell ⟨k, 3, none⟩ (c3)).setCell ⟨k, 4, none⟩ (c4)).setCell ⟨k, 5, none⟩ (c5)).setCell ⟨k, 6, none⟩ (c6)).setCell ⟨k, 7, none⟩ (c7)).setCell ⟨k, 8, none⟩ (c8)).setCell ⟨k, 9, none⟩ (c9)).setCell ⟨k, 10, none⟩ (c10)).setCell ⟨k, 11, none⟩ (c11)).setCell ⟨k, 12, none⟩ (c12)) := by
  have e : ∀ j, j ≠ 10 → upB B 10 j = B j := fun j hj => upB_ne hj
  have ho : Off [k] W (((((((((((((W.setCell ⟨k, 0, none⟩ (c0)).setCell ⟨k, 1, none⟩ (c1)).setCell ⟨k, 2, none⟩ (c2)).setCell ⟨k, 3, none⟩ (c3)).setCell ⟨k, 4, none⟩ (c4)).setCell ⟨k, 5, none⟩ (c5)).setCell ⟨k, 6, none⟩ (c6)).setCell ⟨k, 7, none⟩ (c7)).setCell ⟨k, 8, none⟩ (c8)).setCell ⟨k, 9, none⟩ (c9)).setCell ⟨k, 10, none⟩ (c10)).setCell ⟨k, 11, none⟩ (c11)).setCell ⟨k, 12, none⟩ (c12)) := (Off.set (Off.set (Off.set (Off.set (Off.set (Off.set (Off.set (Off.set (Off.set (Off.set (Off.set (Off.set (Off.set (Off.refl _ _) (by simp) _) (by simp) _) (by simp) _) (by simp) _) (by simp) _) (by simp) _) (by simp) _) (by simp) _) (by simp) _) (by simp) _) (by simp) _) (by simp) _) (by simp) _)
  refine ⟨(Gr.setCell (Gr.setCell (Gr.setCell (Gr.setCell (Gr.setCell (Gr.setCell (Gr.setCell (Gr.setCell (Gr.setCell (Gr.setCell (Gr.setCell (Gr.setCell (Gr.setCell h.gr hk _) hk _) hk _) hk _) hk _) hk _) hk _) hk _) hk _) hk _) hk _) hk _) hk _), fun _ => by rw [e _ (by decide)]; exact h8, by rw [e 11 (by decide), e 9 (by decide)]; exact h.l11, by rw [e 3 (by decide)]; exact h.c3, by rw [e 4 (by decide)]; exact h.c4, by rw [e 5 (by decide)]; exact h.c5, by rw [e 6 (by decide)]; exact h.c6, fun hx => ?_, fun hx => ?_, by rw [e 8 (by decide), e 9 (by decide)]; exact h.ne⟩
  · exact ⟨k, hu, hk, Nat.lt_of_lt_of_le hl ho.1, fun hy => by rw [upB_at] at hy; cases hy⟩
  · rw [e _ (by decide)] at hx
    obtain ⟨j, q1, q2, q3, q4⟩ := h.a9 hx
    have hjk : j ≠ k := fun hj => by
      subst hj
      exact h.ne h8 hx (hu.trans q1.symm)
    exact ⟨j, q1, q2, Nat.lt_of_lt_of_le q3 ho.1, fun hy => by rw [e _ (by decide)] at hy; exact (ho.2 j q3 (by simpa using hjk)).trans (q4 hy)⟩
theorem WC4.st11 {W1 W : World} {L : U5} {q : RSt × NT × Int} {B : Nat → Bool} {u : Nat → Value} (h : WC4 W1 L q B u W) (h8 : B 9 = true) {k : Nat} (hk : W1.heap.size ≤ k) (hu : u 7 = .pointer (some ⟨k, 0, none⟩)) (hl : k < W.heap.size) (c0 c1 c2 c3 c4 : Value) : WC4 W1 L q (upB B 11) u (((((W.setCell ⟨k, 0, none⟩ (c0)).setCell ⟨k, 1, none⟩ (c1)).setCell ⟨k, 2, none⟩ (c2)).setCell ⟨k, 3, none⟩ (c3)).setCell ⟨k, 4, none⟩ (c4)) := by
  have e : ∀ j, j ≠ 11 → upB B 11 j = B j := fun j hj => upB_ne hj
  have ho : Off [k] W (((((W.setCell ⟨k, 0, none⟩ (c0)).setCell ⟨k, 1, none⟩ (c1)).setCell ⟨k, 2, none⟩ (c2)).setCell ⟨k, 3, none⟩ (c3)).setCell ⟨k, 4, none⟩ (c4)) := (Off.set (Off.set (Off.set (Off.set (Off.set (Off.refl _ _) (by simp) _) (by simp) _) (by simp) _) (by simp) _) (by simp) _)
  refine ⟨(Gr.setCell (Gr.setCell (Gr.setCell (Gr.setCell (Gr.setCell h.gr hk _) hk _) hk _) hk _) hk _), by rw [e 10 (by decide), e 8 (by decide)]; exact h.l10, fun _ => by rw [e _ (by decide)]; exact h8, by rw [e 3 (by decide)]; exact h.c3, by rw [e 4 (by decide)]; exact h.c4, by rw [e 5 (by decide)]; exact h.c5, by rw [e 6 (by decide)]; exact h.c6, fun hx => ?_, fun hx => ?_, by rw [e 8 (by decide), e 9 (by decide)]; exact h.ne⟩
  · rw [e _ (by decide)] at hx
    obtain ⟨j, q1, q2, q3, q4⟩ := h.a8 hx
    have hjk : j ≠ k := fun hj => by
      subst hj
      exact h.ne hx h8 (q1.trans hu.symm)
    exact ⟨j, q1, q2, Nat.lt_of_lt_of_le q3 ho.1, fun hy => by rw [e _ (by decide)] at hy; exact (ho.2 j q3 (by simpa using hjk)).trans (q4 hy)⟩
  · exact ⟨k, hu, hk, Nat.lt_of_lt_of_le hl ho.1, fun hy => by rw [upB_at] at hy; cases hy⟩
set_option maxRecDepth 100000 in
set_option maxHeartbeats 4000000 in
theorem costRR_any (m : Nat) (v : ND) (t : NT) (w : World) (hr : NRep anyB m w v t) (hl : lenF t ≤ 1152921504606846976) (hc : countF t ≤ 1000000) : Calls Try.prog 18 #[.agg #[.int .i64 v.k, .string (bs v.l), .string (bs v.x), .slice v.A v.n v.c, .string (bs v.e)]] w (R2II (costR t) w) := by
  obtain ⟨q, hq⟩ : ∃ q, visR false usual t r0 = q := ⟨_, rfl⟩
  obtain ⟨c1, hc1⟩ : ∃ c, chkR usual t = c := ⟨_, rfl⟩
  have hcr := fun W (hg : Gr w W) => CheckRR_any m v t usual W (hr.gr hg) hl hc
  rw [hc1] at hcr
  have hcr2 : ∀ W', Gr w W' → Calls Try.prog 16 #[.agg #[.int .i64 v.k, .string (bs v.l), .string (bs v.x), .slice v.A v.n v.c, .string (bs v.e)], .agg #[.int .i64 usual.d, .int .i64 usual.n, .int .i64 usual.b, .int .i64 usual.a, .int .i64 usual.x]] W' (fun e w' => e = .returned (.tuple #[.agg #[.int .i64 c1.1.d, .int .i64 c1.1.n, .int .i64 c1.1.b, .int .i64 c1.1.a, .int .i64 c1.1.x], .int .i64 c1.2]) ∧ Gr W' w') := hcr
  have HCR := Lib.hid hcr2
  have hm : c1.2 = 0 → markedB t = true := fun h => by
    cases hp : properB t with
    | true => exact proper_marked hp
    | false =>
      rw [← hc1] at h
      unfold chkR at h
      rw [hp, Bool.and_false, if_pos rfl] at h
      cases h
  have h3 : ∀ W, Gr w W → markedB t = true → _ := fun W (hg : Gr w W) (hm : markedB t = true) => visit0 usual m v t W (hr.gr hg) hm hc q hq
  have hqv : costR t = if c1.2 = 0 then (q.2.2, 0) else (0, c1.2) := by
    unfold costR
    rw [hc1, hq]
  generalize hcq : costR t = cq
  rw [hcq] at hqv
  have HQV := Lib.hid hqv
  by_cases hz : c1.2 = 0
  · have H3 := Lib.hid (fun W hg => h3 W hg (hm hz))
    have hz2 : (c1.2 != 0) = false := by simp [hz]
    have HC3 : Hid (cq = (q.2.2, 0)) := Lib.hid (by rw [hqv, if_pos hz])
    clear hr hl hc hq hc1 hcr hcr2 hm h3 hqv hcq hz
    go_enter Try.func18, Try.ntmps18
    go_wp2_with fail
    obtain ⟨nb, hnb⟩ : ∃ nb, nb = w.heap.size := ⟨_, rfl⟩
    obtain ⟨W1, hW1⟩ : ∃ W1, W1 = w.alloc (.cells #[.int .i64 v.k, .string (bs v.l), .string (bs v.x), .slice v.A v.n v.c, .string (bs v.e)] 24) := ⟨_, rfl⟩
    have HG0 : Hid (Gr w W1) := Lib.hid (by rw [hW1]; exact (Gr.refl w).alloc _)
    have HN : Hid (NBox W1 nb v) := Lib.hid (by rw [hW1, hnb]; exact heap_alloc_new w _)
    try rw [← hnb]
    try rw [← hW1]
    clear hW1 hnb
    obtain ⟨VS, hVS⟩ : ∃ VS : List (Nat × Nat × Value), VS = [(0, 10, .agg #[.int .i64 v.k, .string (bs v.l), .string (bs v.x), .slice v.A v.n v.c, .string (bs v.e)]), (1, 11, .agg #[.int .i64 usual.d, .int .i64 usual.n, .int .i64 usual.b, .int .i64 usual.a, .int .i64 usual.x]), (2, 12, .tuple #[.agg #[.int .i64 c1.1.d, .int .i64 c1.1.n, .int .i64 c1.1.b, .int .i64 c1.1.a, .int .i64 c1.1.x], .int .i64 c1.2]), (3, 9, .tuple #[.agg #[.int .i64 c1.1.d, .int .i64 c1.1.n, .int .i64 c1.1.b, .int .i64 c1.1.a, .int .i64 c1.1.x], .int .i64 c1.2]), (4, 13, .agg #[.int .i64 c1.1.d, .int .i64 c1.1.n, .int .i64 c1.1.b, .int .i64 c1.1.a, .int .i64 c1.1.x]), (5, 14, .int .i64 c1.2), (8, 5, .int .i64 c1.2)] := ⟨_, rfl⟩
    obtain ⟨US, hUS⟩ : ∃ US : List (Nat × Value), US = [(1, .pointer (some ⟨nb, 0, none⟩))] := ⟨_, rfl⟩
    refine wp_region_frame (by kernel_rfl) (by kernel_rfl) [10, 11, 12, 9, 13, 14, 4, 5] (by simp) (Det VS US (fun B u w' => WC1 4 #[.int .i64 c1.1.d, .int .i64 c1.1.n, .int .i64 c1.1.b, .int .i64 c1.1.a, .int .i64 c1.1.x] W1 B u w')) ?_ ?_ ?_
    · exact Det.start (by rw [hUS]; simp [slot]) (WC1.start ((Gr.refl _).drew))
    · intro B a' w' i o hfr hF ho hBi hdp
      have hi8 := (Array.getElem?_eq_some_iff.1 ho).1
      simp only [List.size_toArray, List.length_cons, List.length_nil] at hi8
      have hor : i = 0 ∨ i = 1 ∨ i = 2 ∨ i = 3 ∨ i = 4 ∨ i = 5 ∨ i = 6 ∨ i = 7 ∨ i = 8 := by omega
      clear hi8
      rcases hor with rfl | rfl | rfl | rfl | rfl | rfl | rfl | rfl | rfl
      all_goals (
        simp only [List.getElem?_toArray, List.getElem?_cons_zero, List.getElem?_cons_succ, Option.some.injEq] at ho
        subst ho
        rw [if_pos (show Region.wanted _ _ = true from rfl)]
        refine wp_hideK ?_
        intro K hK)
      · have hFW := hF.wd
        have o1 := slot_spell (hF.had (d := 1) (v := .pointer (some ⟨nb, 0, none⟩)) (by rw [hUS]; simp))
        have hN := HN.out.gr hFW.gr
        obtain ⟨k0, k1, k2, k3, k4⟩ := hN.cells
        have kl := lt_of_block hN
        go_simp
        exact hK.out _ _ (close_put hfr (d := 10) (by decide) (by simp) _ (F := fun u => Det VS US (fun B u w' => WC1 4 #[.int .i64 c1.1.d, .int .i64 c1.1.n, .int .i64 c1.1.b, .int .i64 c1.1.a, .int .i64 c1.1.x] W1 B u w') (upB B 0) u _) (hF.step (by rw [hVS]; simp) (by rw [hUS]; simp) (hFW.step (Gr.refl _) (by decide) (by decide))))
      · have hFW := hF.wd
        have HFF := Lib.hid hF
        have HFR := Lib.hid hfr
        have HFG := Lib.hid hFW
        have HBI := Lib.hid hBi
        clear hF hfr hFW hdp hBi
        go_simp
        refine (usualR_any _).mono ?_
        rintro e w2 ⟨rfl, hb2⟩
        have hF := HFF.out
        have hfr := HFR.out
        have hFW := HFG.out
        have hBi := HBI.out
        exact hK.out _ _ (close_put hfr (d := 11) (by decide) (by simp) _ (F := fun u => Det VS US (fun B u w' => WC1 4 #[.int .i64 c1.1.d, .int .i64 c1.1.n, .int .i64 c1.1.b, .int .i64 c1.1.a, .int .i64 c1.1.x] W1 B u w') (upB B 1) u _) (hF.step (by rw [hVS]; simp) (by rw [hUS]; simp) (hFW.step hb2 (by decide) (by decide))))
      · have hFW := hF.wd
        have hB0 : B 0 = true := hdp ⟨0, .data⟩ (by simp) (by rfl)
        have e0 := slot_spell (hF.get (i := 0) (d := 10) (v := .agg #[.int .i64 v.k, .string (bs v.l), .string (bs v.x), .slice v.A v.n v.c, .string (bs v.e)]) (by rw [hVS]; simp) hB0)
        have hB1 : B 1 = true := hdp ⟨1, .data⟩ (by simp) (by rfl)
        have e1 := slot_spell (hF.get (i := 1) (d := 11) (v := .agg #[.int .i64 usual.d, .int .i64 usual.n, .int .i64 usual.b, .int .i64 usual.a, .int .i64 usual.x]) (by rw [hVS]; simp) hB1)
        have HFF := Lib.hid hF
        have HFR := Lib.hid hfr
        have HFG := Lib.hid hFW
        have HBI := Lib.hid hBi
        clear hF hfr hFW hdp hBi
        go_simp
        refine (HCR.out _ (HG0.out.trans HFG.out.gr)).mono ?_
        rintro e w2 ⟨rfl, hb2⟩
        have hF := HFF.out
        have hfr := HFR.out
        have hFW := HFG.out
        have hBi := HBI.out
        exact hK.out _ _ (close_put hfr (d := 12) (by decide) (by simp) _ (F := fun u => Det VS US (fun B u w' => WC1 4 #[.int .i64 c1.1.d, .int .i64 c1.1.n, .int .i64 c1.1.b, .int .i64 c1.1.a, .int .i64 c1.1.x] W1 B u w') (upB B 2) u _) (hF.step (by rw [hVS]; simp) (by rw [hUS]; simp) (hFW.step hb2 (by decide) (by decide))))
      · have hFW := hF.wd
        have hB2 : B 2 = true := hdp ⟨2, .data⟩ (by simp) (by rfl)
        have e2 := slot_spell (hF.get (i := 2) (d := 12) (v := .tuple #[.agg #[.int .i64 c1.1.d, .int .i64 c1.1.n, .int .i64 c1.1.b, .int .i64 c1.1.a, .int .i64 c1.1.x], .int .i64 c1.2]) (by rw [hVS]; simp) hB2)
        go_simp
        exact hK.out _ _ (close_put hfr (d := 9) (by decide) (by simp) _ (F := fun u => Det VS US (fun B u w' => WC1 4 #[.int .i64 c1.1.d, .int .i64 c1.1.n, .int .i64 c1.1.b, .int .i64 c1.1.a, .int .i64 c1.1.x] W1 B u w') (upB B 3) u _) (hF.step (by rw [hVS]; simp) (by rw [hUS]; simp) (hFW.step (Gr.refl _) (by decide) (by decide))))
      · have hFW := hF.wd
        have hB3 : B 3 = true := hdp ⟨3, .data⟩ (by simp) (by rfl)
        have e3 := slot_spell (hF.get (i := 3) (d := 9) (v := .tuple #[.agg #[.int .i64 c1.1.d, .int .i64 c1.1.n, .int .i64 c1.1.b, .int .i64 c1.1.a, .int .i64 c1.1.x], .int .i64 c1.2]) (by rw [hVS]; simp) hB3)
        go_simp
        exact hK.out _ _ (close_put hfr (d := 13) (by decide) (by simp) _ (F := fun u => Det VS US (fun B u w' => WC1 4 #[.int .i64 c1.1.d, .int .i64 c1.1.n, .int .i64 c1.1.b, .int .i64 c1.1.a, .int .i64 c1.1.x] W1 B u w') (upB B 4) u _) (hF.step (by rw [hVS]; simp) (by rw [hUS]; simp) (hFW.step (Gr.refl _) (by decide) (by decide))))
      · have hFW := hF.wd
        have hB3 : B 3 = true := hdp ⟨3, .data⟩ (by simp) (by rfl)
        have e3 := slot_spell (hF.get (i := 3) (d := 9) (v := .tuple #[.agg #[.int .i64 c1.1.d, .int .i64 c1.1.n, .int .i64 c1.1.b, .int .i64 c1.1.a, .int .i64 c1.1.x], .int .i64 c1.2]) (by rw [hVS]; simp) hB3)
        go_simp
        exact hK.out _ _ (close_put hfr (d := 14) (by decide) (by simp) _ (F := fun u => Det VS US (fun B u w' => WC1 4 #[.int .i64 c1.1.d, .int .i64 c1.1.n, .int .i64 c1.1.b, .int .i64 c1.1.a, .int .i64 c1.1.x] W1 B u w') (upB B 5) u _) (hF.step (by rw [hVS]; simp) (by rw [hUS]; simp) (hFW.step (Gr.refl _) (by decide) (by decide))))
      · have hFW := hF.wd
        go_simp
        exact hK.out _ _ (close_put hfr (d := 4) (by decide) (by simp) _ (F := fun u => Det VS US (fun B u w' => WC1 4 #[.int .i64 c1.1.d, .int .i64 c1.1.n, .int .i64 c1.1.b, .int .i64 c1.1.a, .int .i64 c1.1.x] W1 B u w') (upB B 6) u _) (hF.step (by rw [hVS]; simp) (by rw [hUS]; simp) (hFW.al6 hBi)))
      · have hFW := hF.wd
        have hB6 : B 6 = true := hdp ⟨6, .data⟩ (by simp) (by rfl)
        have hB4 : B 4 = true := hdp ⟨4, .data⟩ (by simp) (by rfl)
        have e4 := slot_spell (hF.get (i := 4) (d := 13) (v := .agg #[.int .i64 c1.1.d, .int .i64 c1.1.n, .int .i64 c1.1.b, .int .i64 c1.1.a, .int .i64 c1.1.x]) (by rw [hVS]; simp) hB4)
        obtain ⟨k, q1, q2, q3, q4, _⟩ := hFW.a6 hB6
        have hz := q4 hBi
        have t2 := slot_spell q1
        have y0 := cell_of_cells hz 0
        have yf0 := free_of_cells hz 0
        have y1 := cell_of_cells hz 1
        have yf1 := free_of_cells hz 1
        have y2 := cell_of_cells hz 2
        have yf2 := free_of_cells hz 2
        have y3 := cell_of_cells hz 3
        have yf3 := free_of_cells hz 3
        have y4 := cell_of_cells hz 4
        have yf4 := free_of_cells hz 4
        have yl := lt_of_block hz
        go_simp
        exact hK.out _ _ (close_none hfr undef (F := fun u => Det VS US (fun B u w' => WC1 4 #[.int .i64 c1.1.d, .int .i64 c1.1.n, .int .i64 c1.1.b, .int .i64 c1.1.a, .int .i64 c1.1.x] W1 B u w') (upB B 7) u _) (hF.none (by rw [hVS]; simp) (hFW.st7 hB6 q2 q1 hz rfl)))
      · have hFW := hF.wd
        have hB5 : B 5 = true := hdp ⟨5, .data⟩ (by simp) (by rfl)
        have e5 := slot_spell (hF.get (i := 5) (d := 14) (v := .int .i64 c1.2) (by rw [hVS]; simp) hB5)
        go_simp
        exact hK.out _ _ (close_put hfr (d := 5) (by decide) (by simp) _ (F := fun u => Det VS US (fun B u w' => WC1 4 #[.int .i64 c1.1.d, .int .i64 c1.1.n, .int .i64 c1.1.b, .int .i64 c1.1.a, .int .i64 c1.1.x] W1 B u w') (upB B 8) u _) (hF.step (by rw [hVS]; simp) (by rw [hUS]; simp) (hFW.step (Gr.refl _) (by decide) (by decide))))
    · intro B u w' hall hF
      have z0 := hF.get (i := 0) (d := 10) (v := .agg #[.int .i64 v.k, .string (bs v.l), .string (bs v.x), .slice v.A v.n v.c, .string (bs v.e)]) (by rw [hVS]; simp) (hall 0 (by simp))
      have z1 := hF.get (i := 1) (d := 11) (v := .agg #[.int .i64 usual.d, .int .i64 usual.n, .int .i64 usual.b, .int .i64 usual.a, .int .i64 usual.x]) (by rw [hVS]; simp) (hall 1 (by simp))
      have z2 := hF.get (i := 2) (d := 12) (v := .tuple #[.agg #[.int .i64 c1.1.d, .int .i64 c1.1.n, .int .i64 c1.1.b, .int .i64 c1.1.a, .int .i64 c1.1.x], .int .i64 c1.2]) (by rw [hVS]; simp) (hall 2 (by simp))
      have z3 := hF.get (i := 3) (d := 9) (v := .tuple #[.agg #[.int .i64 c1.1.d, .int .i64 c1.1.n, .int .i64 c1.1.b, .int .i64 c1.1.a, .int .i64 c1.1.x], .int .i64 c1.2]) (by rw [hVS]; simp) (hall 3 (by simp))
      have z4 := hF.get (i := 4) (d := 13) (v := .agg #[.int .i64 c1.1.d, .int .i64 c1.1.n, .int .i64 c1.1.b, .int .i64 c1.1.a, .int .i64 c1.1.x]) (by rw [hVS]; simp) (hall 4 (by simp))
      have z5 := hF.get (i := 5) (d := 14) (v := .int .i64 c1.2) (by rw [hVS]; simp) (hall 5 (by simp))
      have z8 := hF.get (i := 8) (d := 5) (v := .int .i64 c1.2) (by rw [hVS]; simp) (hall 8 (by simp))
      have hFW := hF.wd
      clear hF hVS hUS
      simp only [List.foldl_cons, List.foldl_nil, Act.put, List.setIfInBounds_toArray, List.set_cons_zero, List.set_cons_succ, z0, z1, z2, z3, z4, z5, z8]
      clear z0 z1 z2 z3 z4 z5 z8
      have HG1 := Lib.hid (HG0.out.trans hFW.gr)
      replace HN := Lib.hid (HN.out.gr hFW.gr)
      obtain ⟨WA, hWA⟩ : ∃ W, W = w' := ⟨_, rfl⟩
      subst hWA
      clear hFW hall
      go_wp2_with fail
      obtain ⟨VS, hVS⟩ : ∃ VS : List (Nat × Nat × Value), VS = [(0, 19, .agg #[.int .i64 usual.d, .int .i64 usual.n, .int .i64 usual.b, .int .i64 usual.a, .int .i64 usual.x]), (1, 20, .agg #[.int .i64 usual.d, .int .i64 usual.n, .int .i64 usual.b, .int .i64 usual.a, .int .i64 usual.x, .slice none 0 0, .slice none 0 0, .int .i64 0, .int .i64 0, .int .i64 0, .int .i64 0, .int .i64 0, .int .i64 0]), (2, 21, .agg #[.int .i64 v.k, .string (bs v.l), .string (bs v.x), .slice v.A v.n v.c, .string (bs v.e)]), (7, 25, .int .i64 q.2.2), (12, 8, .int .i64 q.2.2)] := ⟨_, rfl⟩
      obtain ⟨US, hUS⟩ : ∃ US : List (Nat × Value), US = [(1, .pointer (some ⟨nb, 0, none⟩))] := ⟨_, rfl⟩
      refine wp_region_frame (by kernel_rfl) (by kernel_rfl) [19, 20, 21, 22, 18, 23, 24, 25, 6, 7, 8] (by simp) (Det VS US (fun B u w' => WC4 WA usual q B u w')) ?_ ?_ ?_
      · exact Det.start (by rw [hUS]; simp [slot]) (WC4.start ((Gr.refl _).drew))
      · intro B a' w' i o hfr hF ho hBi hdp
        have hi8 := (Array.getElem?_eq_some_iff.1 ho).1
        simp only [List.size_toArray, List.length_cons, List.length_nil] at hi8
        have hor : i = 0 ∨ i = 1 ∨ i = 2 ∨ i = 3 ∨ i = 4 ∨ i = 5 ∨ i = 6 ∨ i = 7 ∨ i = 8 ∨ i = 9 ∨ i = 10 ∨ i = 11 ∨ i = 12 := by omega
        clear hi8
        rcases hor with rfl | rfl | rfl | rfl | rfl | rfl | rfl | rfl | rfl | rfl | rfl | rfl | rfl
        all_goals (
          simp only [List.getElem?_toArray, List.getElem?_cons_zero, List.getElem?_cons_succ, Option.some.injEq] at ho
          subst ho
          rw [if_pos (show Region.wanted _ _ = true from rfl)]
          refine wp_hideK ?_
          intro K hK)
        · have hFW := hF.wd
          have HFF := Lib.hid hF
          have HFR := Lib.hid hfr
          have HFG := Lib.hid hFW
          have HBI := Lib.hid hBi
          clear hF hfr hFW hdp hBi
          go_simp
          refine (usualR_any _).mono ?_
          rintro e w2 ⟨rfl, hb2⟩
          have hF := HFF.out
          have hfr := HFR.out
          have hFW := HFG.out
          have hBi := HBI.out
          exact hK.out _ _ (close_put hfr (d := 19) (by decide) (by simp) _ (F := fun u => Det VS US (fun B u w' => WC4 WA usual q B u w') (upB B 0) u _) (hF.step (by rw [hVS]; simp) (by rw [hUS]; simp) (hFW.other hb2 (by decide) (by decide) (by decide) (by decide))))
        · have hFW := hF.wd
          have hB0 : B 0 = true := hdp ⟨0, .data⟩ (by simp) (by rfl)
          have e0 := slot_spell (hF.get (i := 0) (d := 19) (v := .agg #[.int .i64 usual.d, .int .i64 usual.n, .int .i64 usual.b, .int .i64 usual.a, .int .i64 usual.x]) (by rw [hVS]; simp) hB0)
          go_simp
          exact hK.out _ _ (close_put hfr (d := 20) (by decide) (by simp) _ (F := fun u => Det VS US (fun B u w' => WC4 WA usual q B u w') (upB B 1) u _) (hF.step (by rw [hVS]; simp) (by rw [hUS]; simp) (hFW.other (Gr.refl _) (by decide) (by decide) (by decide) (by decide))))
        · have hFW := hF.wd
          have o1 := slot_spell (hF.had (d := 1) (v := .pointer (some ⟨nb, 0, none⟩)) (by rw [hUS]; simp))
          have hN := HN.out.gr hFW.gr
          obtain ⟨k0, k1, k2, k3, k4⟩ := hN.cells
          have kl := lt_of_block hN
          go_simp
          exact hK.out _ _ (close_put hfr (d := 21) (by decide) (by simp) _ (F := fun u => Det VS US (fun B u w' => WC4 WA usual q B u w') (upB B 2) u _) (hF.step (by rw [hVS]; simp) (by rw [hUS]; simp) (hFW.other (Gr.refl _) (by decide) (by decide) (by decide) (by decide))))
        · have hFW := hF.wd
          have hB1 : B 1 = true := hdp ⟨1, .data⟩ (by simp) (by rfl)
          have e1 := slot_spell (hF.get (i := 1) (d := 20) (v := .agg #[.int .i64 usual.d, .int .i64 usual.n, .int .i64 usual.b, .int .i64 usual.a, .int .i64 usual.x, .slice none 0 0, .slice none 0 0, .int .i64 0, .int .i64 0, .int .i64 0, .int .i64 0, .int .i64 0, .int .i64 0]) (by rw [hVS]; simp) hB1)
          have hB2 : B 2 = true := hdp ⟨2, .data⟩ (by simp) (by rfl)
          have e2 := slot_spell (hF.get (i := 2) (d := 21) (v := .agg #[.int .i64 v.k, .string (bs v.l), .string (bs v.x), .slice v.A v.n v.c, .string (bs v.e)]) (by rw [hVS]; simp) hB2)
          have HFF := Lib.hid hF
          have HFR := Lib.hid hfr
          have HFG := Lib.hid hFW
          have HBI := Lib.hid hBi
          clear hF hfr hFW hdp hBi
          go_simp
          refine (H3.out _ (HG1.out.trans HFG.out.gr)).mono ?_
          rintro e w2 ⟨x', y', rfl, hb2⟩
          have hF := HFF.out
          have hfr := HFR.out
          have hFW := HFG.out
          have hBi := HBI.out
          exact hK.out _ _ (close_put hfr (d := 22) (by decide) (by simp) _ (F := fun u => Det VS US (fun B u w' => WC4 WA usual q B u w') (upB B 3) u _) (hF.step (by rw [hVS]; simp) (by rw [hUS]; simp) (hFW.step hb2 (by decide) (by decide) (.inl ⟨rfl, rfl, x', y', rfl⟩) (.inr (by decide)) (.inr (by decide)) (.inr (by decide)))))
        · have hFW := hF.wd
          have hB3 : B 3 = true := hdp ⟨3, .data⟩ (by simp) (by rfl)
          obtain ⟨x', y', t1e⟩ := hFW.c3 hB3
          have t1 := slot_spell t1e
          go_simp
          exact hK.out _ _ (close_put hfr (d := 18) (by decide) (by simp) _ (F := fun u => Det VS US (fun B u w' => WC4 WA usual q B u w') (upB B 4) u _) (hF.step (by rw [hVS]; simp) (by rw [hUS]; simp) (hFW.step (Gr.refl _) (by decide) (by decide) (.inr (by decide)) (.inl ⟨rfl, rfl, x', y', rfl⟩) (.inr (by decide)) (.inr (by decide)))))
        · have hFW := hF.wd
          have hB4 : B 4 = true := hdp ⟨4, .data⟩ (by simp) (by rfl)
          obtain ⟨x', y', t1e⟩ := hFW.c4 hB4
          have t1 := slot_spell t1e
          go_simp
          exact hK.out _ _ (close_put hfr (d := 23) (by decide) (by simp) _ (F := fun u => Det VS US (fun B u w' => WC4 WA usual q B u w') (upB B 5) u _) (hF.step (by rw [hVS]; simp) (by rw [hUS]; simp) (hFW.step (Gr.refl _) (by decide) (by decide) (.inr (by decide)) (.inr (by decide)) (.inl ⟨rfl, rfl, x', rfl⟩) (.inr (by decide)))))
        · have hFW := hF.wd
          have hB4 : B 4 = true := hdp ⟨4, .data⟩ (by simp) (by rfl)
          obtain ⟨x', y', t1e⟩ := hFW.c4 hB4
          have t1 := slot_spell t1e
          go_simp
          exact hK.out _ _ (close_put hfr (d := 24) (by decide) (by simp) _ (F := fun u => Det VS US (fun B u w' => WC4 WA usual q B u w') (upB B 6) u _) (hF.step (by rw [hVS]; simp) (by rw [hUS]; simp) (hFW.step (Gr.refl _) (by decide) (by decide) (.inr (by decide)) (.inr (by decide)) (.inr (by decide)) (.inl ⟨rfl, rfl, y', rfl⟩))))
        · have hFW := hF.wd
          have hB4 : B 4 = true := hdp ⟨4, .data⟩ (by simp) (by rfl)
          obtain ⟨x', y', t1e⟩ := hFW.c4 hB4
          have t1 := slot_spell t1e
          go_simp
          exact hK.out _ _ (close_put hfr (d := 25) (by decide) (by simp) _ (F := fun u => Det VS US (fun B u w' => WC4 WA usual q B u w') (upB B 7) u _) (hF.step (by rw [hVS]; simp) (by rw [hUS]; simp) (hFW.other (Gr.refl _) (by decide) (by decide) (by decide) (by decide))))
        · have hFW := hF.wd
          go_simp
          exact hK.out _ _ (close_put hfr (d := 6) (by decide) (by simp) _ (F := fun u => Det VS US (fun B u w' => WC4 WA usual q B u w') (upB B 8) u _) (hF.step (by rw [hVS]; simp) (by rw [hUS]; simp) (hFW.al8 hBi)))
        · have hFW := hF.wd
          go_simp
          exact hK.out _ _ (close_put hfr (d := 7) (by decide) (by simp) _ (F := fun u => Det VS US (fun B u w' => WC4 WA usual q B u w') (upB B 9) u _) (hF.step (by rw [hVS]; simp) (by rw [hUS]; simp) (hFW.al9 hBi)))
        · have hFW := hF.wd
          have hB8 : B 8 = true := hdp ⟨8, .data⟩ (by simp) (by rfl)
          have hB5 : B 5 = true := hdp ⟨5, .data⟩ (by simp) (by rfl)
          obtain ⟨k, q1, q2, q3, q4⟩ := hFW.a8 hB8
          have hz := q4 hBi
          have t2 := slot_spell q1
          obtain ⟨x', t1e⟩ := hFW.c5 hB5
          have t1 := slot_spell t1e
          have y0 := cell_of_cells hz 0
          have yf0 := free_of_cells hz 0
          have y1 := cell_of_cells hz 1
          have yf1 := free_of_cells hz 1
          have y2 := cell_of_cells hz 2
          have yf2 := free_of_cells hz 2
          have y3 := cell_of_cells hz 3
          have yf3 := free_of_cells hz 3
          have y4 := cell_of_cells hz 4
          have yf4 := free_of_cells hz 4
          have y5 := cell_of_cells hz 5
          have yf5 := free_of_cells hz 5
          have y6 := cell_of_cells hz 6
          have yf6 := free_of_cells hz 6
          have y7 := cell_of_cells hz 7
          have yf7 := free_of_cells hz 7
          have y8 := cell_of_cells hz 8
          have yf8 := free_of_cells hz 8
          have y9 := cell_of_cells hz 9
          have yf9 := free_of_cells hz 9
          have y10 := cell_of_cells hz 10
          have yf10 := free_of_cells hz 10
          have y11 := cell_of_cells hz 11
          have yf11 := free_of_cells hz 11
          have y12 := cell_of_cells hz 12
          have yf12 := free_of_cells hz 12
          have yl := lt_of_block hz
          go_simp
          exact hK.out _ _ (close_none hfr undef (F := fun u => Det VS US (fun B u w' => WC4 WA usual q B u w') (upB B 10) u _) (hF.none (by rw [hVS]; simp) (hFW.st10 hB8 q2 q1 q3 _ _ _ _ _ _ _ _ _ _ _ _ _)))
        · have hFW := hF.wd
          have hB9 : B 9 = true := hdp ⟨9, .data⟩ (by simp) (by rfl)
          have hB6 : B 6 = true := hdp ⟨6, .data⟩ (by simp) (by rfl)
          obtain ⟨k, q1, q2, q3, q4⟩ := hFW.a9 hB9
          have hz := q4 hBi
          have t2 := slot_spell q1
          obtain ⟨y', t1e⟩ := hFW.c6 hB6
          have t1 := slot_spell t1e
          have y0 := cell_of_cells hz 0
          have yf0 := free_of_cells hz 0
          have y1 := cell_of_cells hz 1
          have yf1 := free_of_cells hz 1
          have y2 := cell_of_cells hz 2
          have yf2 := free_of_cells hz 2
          have y3 := cell_of_cells hz 3
          have yf3 := free_of_cells hz 3
          have y4 := cell_of_cells hz 4
          have yf4 := free_of_cells hz 4
          have yl := lt_of_block hz
          go_simp
          exact hK.out _ _ (close_none hfr undef (F := fun u => Det VS US (fun B u w' => WC4 WA usual q B u w') (upB B 11) u _) (hF.none (by rw [hVS]; simp) (hFW.st11 hB9 q2 q1 q3 _ _ _ _ _)))
        · have hFW := hF.wd
          have hB7 : B 7 = true := hdp ⟨7, .data⟩ (by simp) (by rfl)
          have e7 := slot_spell (hF.get (i := 7) (d := 25) (v := .int .i64 q.2.2) (by rw [hVS]; simp) hB7)
          go_simp
          exact hK.out _ _ (close_put hfr (d := 8) (by decide) (by simp) _ (F := fun u => Det VS US (fun B u w' => WC4 WA usual q B u w') (upB B 12) u _) (hF.step (by rw [hVS]; simp) (by rw [hUS]; simp) (hFW.other (Gr.refl _) (by decide) (by decide) (by decide) (by decide))))
      · intro B u w' hall hF
        have z0 := hF.get (i := 0) (d := 19) (v := .agg #[.int .i64 usual.d, .int .i64 usual.n, .int .i64 usual.b, .int .i64 usual.a, .int .i64 usual.x]) (by rw [hVS]; simp) (hall 0 (by simp))
        have z1 := hF.get (i := 1) (d := 20) (v := .agg #[.int .i64 usual.d, .int .i64 usual.n, .int .i64 usual.b, .int .i64 usual.a, .int .i64 usual.x, .slice none 0 0, .slice none 0 0, .int .i64 0, .int .i64 0, .int .i64 0, .int .i64 0, .int .i64 0, .int .i64 0]) (by rw [hVS]; simp) (hall 1 (by simp))
        have z2 := hF.get (i := 2) (d := 21) (v := .agg #[.int .i64 v.k, .string (bs v.l), .string (bs v.x), .slice v.A v.n v.c, .string (bs v.e)]) (by rw [hVS]; simp) (hall 2 (by simp))
        have z7 := hF.get (i := 7) (d := 25) (v := .int .i64 q.2.2) (by rw [hVS]; simp) (hall 7 (by simp))
        have z12 := hF.get (i := 12) (d := 8) (v := .int .i64 q.2.2) (by rw [hVS]; simp) (hall 12 (by simp))
        have hFW := hF.wd
        clear hF hVS hUS
        simp only [List.foldl_cons, List.foldl_nil, Act.put, List.setIfInBounds_toArray, List.set_cons_zero, List.set_cons_succ, z0, z1, z2, z7, z12]
        clear z0 z1 z2 z7 z12
        have hgf := HG1.out.trans hFW.gr
        clear hFW hall
        go_wp2_with fail
        go_ret2
        exact ⟨by rw [HC3.out]; rfl, hgf⟩
  · have hz2 : (c1.2 != 0) = true := by simp [hz]
    have HC3 : Hid (cq = (0, c1.2)) := Lib.hid (by rw [hqv, if_neg hz])
    clear hr hl hc hq hc1 hcr hcr2 hm h3 hqv hcq hz
    go_enter Try.func18, Try.ntmps18
    go_wp2_with fail
    obtain ⟨nb, hnb⟩ : ∃ nb, nb = w.heap.size := ⟨_, rfl⟩
    obtain ⟨W1, hW1⟩ : ∃ W1, W1 = w.alloc (.cells #[.int .i64 v.k, .string (bs v.l), .string (bs v.x), .slice v.A v.n v.c, .string (bs v.e)] 24) := ⟨_, rfl⟩
    have HG0 : Hid (Gr w W1) := Lib.hid (by rw [hW1]; exact (Gr.refl w).alloc _)
    have HN : Hid (NBox W1 nb v) := Lib.hid (by rw [hW1, hnb]; exact heap_alloc_new w _)
    try rw [← hnb]
    try rw [← hW1]
    clear hW1 hnb
    obtain ⟨VS, hVS⟩ : ∃ VS : List (Nat × Nat × Value), VS = [(0, 10, .agg #[.int .i64 v.k, .string (bs v.l), .string (bs v.x), .slice v.A v.n v.c, .string (bs v.e)]), (1, 11, .agg #[.int .i64 usual.d, .int .i64 usual.n, .int .i64 usual.b, .int .i64 usual.a, .int .i64 usual.x]), (2, 12, .tuple #[.agg #[.int .i64 c1.1.d, .int .i64 c1.1.n, .int .i64 c1.1.b, .int .i64 c1.1.a, .int .i64 c1.1.x], .int .i64 c1.2]), (3, 9, .tuple #[.agg #[.int .i64 c1.1.d, .int .i64 c1.1.n, .int .i64 c1.1.b, .int .i64 c1.1.a, .int .i64 c1.1.x], .int .i64 c1.2]), (4, 13, .agg #[.int .i64 c1.1.d, .int .i64 c1.1.n, .int .i64 c1.1.b, .int .i64 c1.1.a, .int .i64 c1.1.x]), (5, 14, .int .i64 c1.2), (8, 5, .int .i64 c1.2)] := ⟨_, rfl⟩
    obtain ⟨US, hUS⟩ : ∃ US : List (Nat × Value), US = [(1, .pointer (some ⟨nb, 0, none⟩))] := ⟨_, rfl⟩
    refine wp_region_frame (by kernel_rfl) (by kernel_rfl) [10, 11, 12, 9, 13, 14, 4, 5] (by simp) (Det VS US (fun B u w' => WC1 4 #[.int .i64 c1.1.d, .int .i64 c1.1.n, .int .i64 c1.1.b, .int .i64 c1.1.a, .int .i64 c1.1.x] W1 B u w')) ?_ ?_ ?_
    · exact Det.start (by rw [hUS]; simp [slot]) (WC1.start ((Gr.refl _).drew))
    · intro B a' w' i o hfr hF ho hBi hdp
      have hi8 := (Array.getElem?_eq_some_iff.1 ho).1
      simp only [List.size_toArray, List.length_cons, List.length_nil] at hi8
      have hor : i = 0 ∨ i = 1 ∨ i = 2 ∨ i = 3 ∨ i = 4 ∨ i = 5 ∨ i = 6 ∨ i = 7 ∨ i = 8 := by omega
      clear hi8
      rcases hor with rfl | rfl | rfl | rfl | rfl | rfl | rfl | rfl | rfl
      all_goals (
        simp only [List.getElem?_toArray, List.getElem?_cons_zero, List.getElem?_cons_succ, Option.some.injEq] at ho
        subst ho
        rw [if_pos (show Region.wanted _ _ = true from rfl)]
        refine wp_hideK ?_
        intro K hK)
      · have hFW := hF.wd
        have o1 := slot_spell (hF.had (d := 1) (v := .pointer (some ⟨nb, 0, none⟩)) (by rw [hUS]; simp))
        have hN := HN.out.gr hFW.gr
        obtain ⟨k0, k1, k2, k3, k4⟩ := hN.cells
        have kl := lt_of_block hN
        go_simp
        exact hK.out _ _ (close_put hfr (d := 10) (by decide) (by simp) _ (F := fun u => Det VS US (fun B u w' => WC1 4 #[.int .i64 c1.1.d, .int .i64 c1.1.n, .int .i64 c1.1.b, .int .i64 c1.1.a, .int .i64 c1.1.x] W1 B u w') (upB B 0) u _) (hF.step (by rw [hVS]; simp) (by rw [hUS]; simp) (hFW.step (Gr.refl _) (by decide) (by decide))))
      · have hFW := hF.wd
        have HFF := Lib.hid hF
        have HFR := Lib.hid hfr
        have HFG := Lib.hid hFW
        have HBI := Lib.hid hBi
        clear hF hfr hFW hdp hBi
        go_simp
        refine (usualR_any _).mono ?_
        rintro e w2 ⟨rfl, hb2⟩
        have hF := HFF.out
        have hfr := HFR.out
        have hFW := HFG.out
        have hBi := HBI.out
        exact hK.out _ _ (close_put hfr (d := 11) (by decide) (by simp) _ (F := fun u => Det VS US (fun B u w' => WC1 4 #[.int .i64 c1.1.d, .int .i64 c1.1.n, .int .i64 c1.1.b, .int .i64 c1.1.a, .int .i64 c1.1.x] W1 B u w') (upB B 1) u _) (hF.step (by rw [hVS]; simp) (by rw [hUS]; simp) (hFW.step hb2 (by decide) (by decide))))
      · have hFW := hF.wd
        have hB0 : B 0 = true := hdp ⟨0, .data⟩ (by simp) (by rfl)
        have e0 := slot_spell (hF.get (i := 0) (d := 10) (v := .agg #[.int .i64 v.k, .string (bs v.l), .string (bs v.x), .slice v.A v.n v.c, .string (bs v.e)]) (by rw [hVS]; simp) hB0)
        have hB1 : B 1 = true := hdp ⟨1, .data⟩ (by simp) (by rfl)
        have e1 := slot_spell (hF.get (i := 1) (d := 11) (v := .agg #[.int .i64 usual.d, .int .i64 usual.n, .int .i64 usual.b, .int .i64 usual.a, .int .i64 usual.x]) (by rw [hVS]; simp) hB1)
        have HFF := Lib.hid hF
        have HFR := Lib.hid hfr
        have HFG := Lib.hid hFW
        have HBI := Lib.hid hBi
        clear hF hfr hFW hdp hBi
        go_simp
        refine (HCR.out _ (HG0.out.trans HFG.out.gr)).mono ?_
        rintro e w2 ⟨rfl, hb2⟩
        have hF := HFF.out
        have hfr := HFR.out
        have hFW := HFG.out
        have hBi := HBI.out
        exact hK.out _ _ (close_put hfr (d := 12) (by decide) (by simp) _ (F := fun u => Det VS US (fun B u w' => WC1 4 #[.int .i64 c1.1.d, .int .i64 c1.1.n, .int .i64 c1.1.b, .int .i64 c1.1.a, .int .i64 c1.1.x] W1 B u w') (upB B 2) u _) (hF.step (by rw [hVS]; simp) (by rw [hUS]; simp) (hFW.step hb2 (by decide) (by decide))))
      · have hFW := hF.wd
        have hB2 : B 2 = true := hdp ⟨2, .data⟩ (by simp) (by rfl)
        have e2 := slot_spell (hF.get (i := 2) (d := 12) (v := .tuple #[.agg #[.int .i64 c1.1.d, .int .i64 c1.1.n, .int .i64 c1.1.b, .int .i64 c1.1.a, .int .i64 c1.1.x], .int .i64 c1.2]) (by rw [hVS]; simp) hB2)
        go_simp
        exact hK.out _ _ (close_put hfr (d := 9) (by decide) (by simp) _ (F := fun u => Det VS US (fun B u w' => WC1 4 #[.int .i64 c1.1.d, .int .i64 c1.1.n, .int .i64 c1.1.b, .int .i64 c1.1.a, .int .i64 c1.1.x] W1 B u w') (upB B 3) u _) (hF.step (by rw [hVS]; simp) (by rw [hUS]; simp) (hFW.step (Gr.refl _) (by decide) (by decide))))
      · have hFW := hF.wd
        have hB3 : B 3 = true := hdp ⟨3, .data⟩ (by simp) (by rfl)
        have e3 := slot_spell (hF.get (i := 3) (d := 9) (v := .tuple #[.agg #[.int .i64 c1.1.d, .int .i64 c1.1.n, .int .i64 c1.1.b, .int .i64 c1.1.a, .int .i64 c1.1.x], .int .i64 c1.2]) (by rw [hVS]; simp) hB3)
        go_simp
        exact hK.out _ _ (close_put hfr (d := 13) (by decide) (by simp) _ (F := fun u => Det VS US (fun B u w' => WC1 4 #[.int .i64 c1.1.d, .int .i64 c1.1.n, .int .i64 c1.1.b, .int .i64 c1.1.a, .int .i64 c1.1.x] W1 B u w') (upB B 4) u _) (hF.step (by rw [hVS]; simp) (by rw [hUS]; simp) (hFW.step (Gr.refl _) (by decide) (by decide))))
      · have hFW := hF.wd
        have hB3 : B 3 = true := hdp ⟨3, .data⟩ (by simp) (by rfl)
        have e3 := slot_spell (hF.get (i := 3) (d := 9) (v := .tuple #[.agg #[.int .i64 c1.1.d, .int .i64 c1.1.n, .int .i64 c1.1.b, .int .i64 c1.1.a, .int .i64 c1.1.x], .int .i64 c1.2]) (by rw [hVS]; simp) hB3)
        go_simp
        exact hK.out _ _ (close_put hfr (d := 14) (by decide) (by simp) _ (F := fun u => Det VS US (fun B u w' => WC1 4 #[.int .i64 c1.1.d, .int .i64 c1.1.n, .int .i64 c1.1.b, .int .i64 c1.1.a, .int .i64 c1.1.x] W1 B u w') (upB B 5) u _) (hF.step (by rw [hVS]; simp) (by rw [hUS]; simp) (hFW.step (Gr.refl _) (by decide) (by decide))))
      · have hFW := hF.wd
        go_simp
        exact hK.out _ _ (close_put hfr (d := 4) (by decide) (by simp) _ (F := fun u => Det VS US (fun B u w' => WC1 4 #[.int .i64 c1.1.d, .int .i64 c1.1.n, .int .i64 c1.1.b, .int .i64 c1.1.a, .int .i64 c1.1.x] W1 B u w') (upB B 6) u _) (hF.step (by rw [hVS]; simp) (by rw [hUS]; simp) (hFW.al6 hBi)))
      · have hFW := hF.wd
        have hB6 : B 6 = true := hdp ⟨6, .data⟩ (by simp) (by rfl)
        have hB4 : B 4 = true := hdp ⟨4, .data⟩ (by simp) (by rfl)
        have e4 := slot_spell (hF.get (i := 4) (d := 13) (v := .agg #[.int .i64 c1.1.d, .int .i64 c1.1.n, .int .i64 c1.1.b, .int .i64 c1.1.a, .int .i64 c1.1.x]) (by rw [hVS]; simp) hB4)
        obtain ⟨k, q1, q2, q3, q4, _⟩ := hFW.a6 hB6
        have hz := q4 hBi
        have t2 := slot_spell q1
        have y0 := cell_of_cells hz 0
        have yf0 := free_of_cells hz 0
        have y1 := cell_of_cells hz 1
        have yf1 := free_of_cells hz 1
        have y2 := cell_of_cells hz 2
        have yf2 := free_of_cells hz 2
        have y3 := cell_of_cells hz 3
        have yf3 := free_of_cells hz 3
        have y4 := cell_of_cells hz 4
        have yf4 := free_of_cells hz 4
        have yl := lt_of_block hz
        go_simp
        exact hK.out _ _ (close_none hfr undef (F := fun u => Det VS US (fun B u w' => WC1 4 #[.int .i64 c1.1.d, .int .i64 c1.1.n, .int .i64 c1.1.b, .int .i64 c1.1.a, .int .i64 c1.1.x] W1 B u w') (upB B 7) u _) (hF.none (by rw [hVS]; simp) (hFW.st7 hB6 q2 q1 hz rfl)))
      · have hFW := hF.wd
        have hB5 : B 5 = true := hdp ⟨5, .data⟩ (by simp) (by rfl)
        have e5 := slot_spell (hF.get (i := 5) (d := 14) (v := .int .i64 c1.2) (by rw [hVS]; simp) hB5)
        go_simp
        exact hK.out _ _ (close_put hfr (d := 5) (by decide) (by simp) _ (F := fun u => Det VS US (fun B u w' => WC1 4 #[.int .i64 c1.1.d, .int .i64 c1.1.n, .int .i64 c1.1.b, .int .i64 c1.1.a, .int .i64 c1.1.x] W1 B u w') (upB B 8) u _) (hF.step (by rw [hVS]; simp) (by rw [hUS]; simp) (hFW.step (Gr.refl _) (by decide) (by decide))))
    · intro B u w' hall hF
      have z0 := hF.get (i := 0) (d := 10) (v := .agg #[.int .i64 v.k, .string (bs v.l), .string (bs v.x), .slice v.A v.n v.c, .string (bs v.e)]) (by rw [hVS]; simp) (hall 0 (by simp))
      have z1 := hF.get (i := 1) (d := 11) (v := .agg #[.int .i64 usual.d, .int .i64 usual.n, .int .i64 usual.b, .int .i64 usual.a, .int .i64 usual.x]) (by rw [hVS]; simp) (hall 1 (by simp))
      have z2 := hF.get (i := 2) (d := 12) (v := .tuple #[.agg #[.int .i64 c1.1.d, .int .i64 c1.1.n, .int .i64 c1.1.b, .int .i64 c1.1.a, .int .i64 c1.1.x], .int .i64 c1.2]) (by rw [hVS]; simp) (hall 2 (by simp))
      have z3 := hF.get (i := 3) (d := 9) (v := .tuple #[.agg #[.int .i64 c1.1.d, .int .i64 c1.1.n, .int .i64 c1.1.b, .int .i64 c1.1.a, .int .i64 c1.1.x], .int .i64 c1.2]) (by rw [hVS]; simp) (hall 3 (by simp))
      have z4 := hF.get (i := 4) (d := 13) (v := .agg #[.int .i64 c1.1.d, .int .i64 c1.1.n, .int .i64 c1.1.b, .int .i64 c1.1.a, .int .i64 c1.1.x]) (by rw [hVS]; simp) (hall 4 (by simp))
      have z5 := hF.get (i := 5) (d := 14) (v := .int .i64 c1.2) (by rw [hVS]; simp) (hall 5 (by simp))
      have z8 := hF.get (i := 8) (d := 5) (v := .int .i64 c1.2) (by rw [hVS]; simp) (hall 8 (by simp))
      have hFW := hF.wd
      clear hF hVS hUS
      simp only [List.foldl_cons, List.foldl_nil, Act.put, List.setIfInBounds_toArray, List.set_cons_zero, List.set_cons_succ, z0, z1, z2, z3, z4, z5, z8]
      clear z0 z1 z2 z3 z4 z5 z8
      have hgf := HG0.out.trans hFW.gr
      clear hFW hall
      go_wp2_with fail
      go_ret2
      exact ⟨by rw [HC3.out]; rfl, hgf⟩
end Go.Proofs.Ytbfnmgiccbdglaa
