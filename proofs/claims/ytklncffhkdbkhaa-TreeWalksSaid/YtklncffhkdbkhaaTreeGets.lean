/- TreeGets returns true for every input: any descendant and its spans are the reference's. No condition. -/
import Derived.Test.YtklncffhkdbkhaaTrLives
import Derived.Test.YtklncffhkdbkhaaTrClone
import Derived.Test.YtklncffhkdbkhaaTrWholeR
import Derived.Test.YtklncffhkdbkhaaTrSame
namespace Go.Proofs.Ytklncffhkdbkhaa
open Go.ChangeShapes Go.WideShapes Go.ChangeAt Go.RowKit
open Go.Lib hiding intOf

theorem fit_facts {t : NT} (h : fitB t = true) : countF t ≤ 400 ∧ depthF t ≤ 240 ∧ lenF t ≤ 360000 := by
  unfold fitB smallB at h
  simp only [Bool.and_eq_true, decide_eq_true_eq] at h
  obtain ⟨h1, _⟩ := h
  obtain ⟨q1, q2, q3⟩ := roomF_ok t 400 240 300 h1
  have h2 : (countF t : Int) ≤ 400 := by omega
  have h3 : (countF t : Int) * (3 * 300) ≤ 400 * (3 * 300) := Int.mul_le_mul_of_nonneg_right h2 (by omega)
  omega
theorem whole_form (q : Option (Nat × NT)) : ∃ a b r : Int, WholeVal q = .tuple #[.agg #[.int .i64 a, .int .i64 b], .int .i64 r] := by
  cases q with
  | none => exact ⟨0, 0, 7, rfl⟩
  | some x => exact ⟨_, _, 0, rfl⟩
theorem inner_form (q : Option (Nat × NT)) : ∃ a b r : Int, InnerVal q = .tuple #[.agg #[.int .i64 a, .int .i64 b], .int .i64 r] := by
  cases q with
  | none => exact ⟨0, 0, 7, rfl⟩
  | some x => exact ⟨_, _, 0, rfl⟩
set_option maxRecDepth 100000 in
set_option maxHeartbeats 4000000 in
theorem treeGets_any (m : Nat) (v : ND) (t : NT) (A : Option Addr) (n c : Nat) (zs : List Int) (w : World) (hr : NRep anyB m w v t) (hz : IntsAt .i64 w A n zs) (hn : n ≤ 9223372036854775807) : Calls Try.prog 4 #[.agg #[.int .i64 v.k, .string (bs v.l), .string (bs v.x), .slice v.A v.n v.c, .string (bs v.e)], .slice A n c] w (RB true w) := by
  have HF : Hid (∀ w', Gr w w' → Calls Try.prog 10 #[.agg #[.int .i64 v.k, .string (bs v.l), .string (bs v.x), .slice v.A v.n v.c, .string (bs v.e)]] w' (RB (fitB t) w')) := Lib.hid (fun w' hg => fitP_any m v t w' (hr.gr hg))
  cases hfit : fitB t with
  | false =>
    rw [hfit] at HF
    clear hr hz hfit
    go_enter Try.func4, Try.ntmps4
    go_wp2_with fail
    refine (HF.out _ ((Gr.refl w).alloc _)).mono ?_
    rintro e w1 ⟨rfl, hb1⟩
    have hw1 : Gr w w1 := (((Gr.refl w).alloc _)).trans hb1
    have hg1 : Gr w w1 := hw1
    clear hw1 hb1
    go_wp2_with fail
    refine (livesP_any _).mono ?_
    rintro e w2 ⟨rfl, hb2⟩
    have hw2 : Gr w1 w2 := hb2
    have hg2 := hg1.trans hw2
    clear hg1
    clear hw2
    try clear hb2
    go_wp2_with fail
    go_ret
    exact ⟨rfl, by with_reducible assumption⟩
  | true =>
    rw [hfit] at HF
    obtain ⟨f1, f2, f3⟩ := fit_facts hfit
    by_cases hn60 : 60 < n
    · clear hr hz hfit
      go_enter Try.func4, Try.ntmps4
      go_wp2_with fail
      refine (HF.out _ ((Gr.refl w).alloc _)).mono ?_
      rintro e w1 ⟨rfl, hb1⟩
      have hw1 : Gr w w1 := (((Gr.refl w).alloc _)).trans hb1
      have hg1 : Gr w w1 := hw1
      clear hw1 hb1
      go_wp2_with fail
      refine (livesP_any _).mono ?_
      rintro e w2 ⟨rfl, hb2⟩
      have hw2 : Gr w1 w2 := hb2
      have hg2 := hg1.trans hw2
      clear hg1
      clear hw2
      try clear hb2
      go_wp2_with fail
      go_ret
      exact ⟨rfl, by with_reducible assumption⟩
    have hl : lenF t ≤ 1152921504606846976 := by omega
    have HG : Hid (∀ w', Gr w w' → Calls Try.prog 17 #[.agg #[.int .i64 v.k, .string (bs v.l), .string (bs v.x), .slice v.A v.n v.c, .string (bs v.e)], .slice A n c] w' (GetPost (getF t zs) w')) := Lib.hid (fun w' hg => getP_any m v t A n c zs w' (hr.gr hg) (hz.keep hg) hn (by omega))
    have HW : Hid (∀ w', Gr w w' → Calls Try.prog 18 #[.agg #[.int .i64 v.k, .string (bs v.l), .string (bs v.x), .slice v.A v.n v.c, .string (bs v.e)], .slice A n c] w' (VPost (WholeVal (spanF t zs 0)) w')) := Lib.hid (fun w' hg => wholeP_any m v t A n c zs w' (hr.gr hg) (hz.keep hg) hn hl)
    have HI : Hid (∀ w', Gr w w' → Calls Try.prog 19 #[.agg #[.int .i64 v.k, .string (bs v.l), .string (bs v.x), .slice v.A v.n v.c, .string (bs v.e)], .slice A n c] w' (VPost (InnerVal (spanF t zs 0)) w')) := Lib.hid (fun w' hg => innerP_any m v t A n c zs w' (hr.gr hg) (hz.keep hg) hn hl)
    have HGR : Hid (∀ w', Gr w w' → Calls Try.prog 14 #[.agg #[.int .i64 v.k, .string (bs v.l), .string (bs v.x), .slice v.A v.n v.c, .string (bs v.e)], .slice A n c] w' (GetPost (getF t zs) w')) := Lib.hid (fun w' hg => getRP_any m v t A n c zs w' (hr.gr hg) (hz.keep hg) hn)
    have HWR : Hid (∀ w', Gr w w' → Calls Try.prog 20 #[.agg #[.int .i64 v.k, .string (bs v.l), .string (bs v.x), .slice v.A v.n v.c, .string (bs v.e)], .slice A n c] w' (VPost (WholeVal (spanF t zs 0)) w')) := Lib.hid (fun w' hg => wholeRP_any m v t A n c zs w' (hr.gr hg) (hz.keep hg) hn hl)
    have HIR : Hid (∀ w', Gr w w' → Calls Try.prog 21 #[.agg #[.int .i64 v.k, .string (bs v.l), .string (bs v.x), .slice v.A v.n v.c, .string (bs v.e)], .slice A n c] w' (VPost (InnerVal (spanF t zs 0)) w')) := Lib.hid (fun w' hg => innerRP_any m v t A n c zs w' (hr.gr hg) (hz.keep hg) hn hl)
    obtain ⟨a, b, r, hwv⟩ := whole_form (spanF t zs 0)
    obtain ⟨a', b', r', hiv⟩ := inner_form (spanF t zs 0)
    rw [hwv] at HW HWR
    rw [hiv] at HI HIR
    generalize getF t zs = Q2 at *
    clear hr hz hfit hwv hiv f1 f2 f3 hl hn
    go_enter Try.func4, Try.ntmps4
    go_wp2_with fail
    have BN := Lib.hid (show NBox (w.alloc (.cells #[.int .i64 v.k, .string (bs v.l), .string (bs v.x), .slice v.A v.n v.c, .string (bs v.e)] 24)) w.heap.size v from heap_alloc_new w _)
    refine (HF.out _ ((Gr.refl w).alloc _)).mono ?_
    rintro e w1 ⟨rfl, hb1⟩
    have hw1 : Gr w w1 := (((Gr.refl w).alloc _)).trans hb1
    have hg1 : Gr w w1 := hw1
    replace BN := Lib.hid (BN.out.gr hb1)
    clear hw1 hb1
    obtain ⟨k0, k1, k2, k3, k4⟩ := BN.out.cells
    try simp only [List.getElem?_toArray, List.getElem?_cons_zero, List.getElem?_cons_succ] at k0 k1 k2 k3 k4
    have kl := lt_of_block BN.out
    go_wp2_with fail
    clear k0 k1 k2 k3 k4 kl
    refine (HG.out _ hg1).mono ?_
    rintro e w2 ⟨m2, d2, rfl, hr2, hb2⟩
    have hw2 : Gr w1 w2 := hb2
    have hg2 := hg1.trans hw2
    clear hg1
    replace BN := Lib.hid (BN.out.gr hw2)
    clear hw2
    try clear hb2
    have HR2 := Lib.hid (show NRep anyB m2 w2 d2 (Q2.getD zeroT) from hr2)
    clear hr2
    have BX := Lib.hid (show NBox (w2.alloc (.cells #[.int .i64 d2.k, .string (bs d2.l), .string (bs d2.x), .slice d2.A d2.n d2.c, .string (bs d2.e)] 24)) w2.heap.size d2 from heap_alloc_new w2 _)
    obtain ⟨k0, k1, k2, k3, k4⟩ := BN.out.cells
    try simp only [List.getElem?_toArray, List.getElem?_cons_zero, List.getElem?_cons_succ] at k0 k1 k2 k3 k4
    have kl := lt_of_block BN.out
    go_wp2_with fail
    clear k0 k1 k2 k3 k4 kl
    refine (HW.out _ (hg2.trans ((Gr.refl _).alloc _))).mono ?_
    rintro e w3 ⟨rfl, hb3⟩
    have hw3 : Gr w2 w3 := (((Gr.refl w2).alloc _)).trans hb3
    have hg3 := hg2.trans hw3
    clear hg2
    replace BN := Lib.hid (BN.out.gr hw3)
    replace HR2 := Lib.hid (HR2.out.gr hw3)
    replace BX := Lib.hid (BX.out.gr hb3)
    clear hw3 hb3
    have BW := Lib.hid (show SBox (w3.alloc (.cells #[.int .i64 a, .int .i64 b] 40)) w3.heap.size a b from heap_alloc_new w3 _)
    obtain ⟨k0, k1, k2, k3, k4⟩ := BN.out.cells
    try simp only [List.getElem?_toArray, List.getElem?_cons_zero, List.getElem?_cons_succ] at k0 k1 k2 k3 k4
    have kl := lt_of_block BN.out
    go_wp2_with fail
    clear k0 k1 k2 k3 k4 kl
    refine (HI.out _ (hg3.trans ((Gr.refl _).alloc _))).mono ?_
    rintro e w4 ⟨rfl, hb4⟩
    have hw4 : Gr w3 w4 := (((Gr.refl w3).alloc _)).trans hb4
    have hg4 := hg3.trans hw4
    clear hg3
    replace BN := Lib.hid (BN.out.gr hw4)
    replace HR2 := Lib.hid (HR2.out.gr hw4)
    replace BX := Lib.hid (BX.out.gr hw4)
    replace BW := Lib.hid (BW.out.gr hb4)
    clear hw4 hb4
    have BI := Lib.hid (show SBox (w4.alloc (.cells #[.int .i64 a', .int .i64 b'] 40)) w4.heap.size a' b' from heap_alloc_new w4 _)
    obtain ⟨k0, k1, k2, k3, k4⟩ := BN.out.cells
    try simp only [List.getElem?_toArray, List.getElem?_cons_zero, List.getElem?_cons_succ] at k0 k1 k2 k3 k4
    have kl := lt_of_block BN.out
    go_wp2_with fail
    clear k0 k1 k2 k3 k4 kl
    refine (HGR.out _ (hg4.trans ((Gr.refl _).alloc _))).mono ?_
    rintro e w5 ⟨m5, d5, rfl, hr5, hb5⟩
    have hw5 : Gr w4 w5 := (((Gr.refl w4).alloc _)).trans hb5
    have hg5 := hg4.trans hw5
    clear hg4
    replace BN := Lib.hid (BN.out.gr hw5)
    replace HR2 := Lib.hid (HR2.out.gr hw5)
    replace BX := Lib.hid (BX.out.gr hw5)
    replace BW := Lib.hid (BW.out.gr hw5)
    replace BI := Lib.hid (BI.out.gr hb5)
    clear hw5 hb5
    have HR5 := Lib.hid (show NRep anyB m5 w5 d5 (Q2.getD zeroT) from hr5)
    clear hr5
    have BY := Lib.hid (show NBox (w5.alloc (.cells #[.int .i64 d5.k, .string (bs d5.l), .string (bs d5.x), .slice d5.A d5.n d5.c, .string (bs d5.e)] 24)) w5.heap.size d5 from heap_alloc_new w5 _)
    obtain ⟨k0, k1, k2, k3, k4⟩ := BN.out.cells
    try simp only [List.getElem?_toArray, List.getElem?_cons_zero, List.getElem?_cons_succ] at k0 k1 k2 k3 k4
    have kl := lt_of_block BN.out
    go_wp2_with fail
    clear k0 k1 k2 k3 k4 kl
    refine (HWR.out _ (hg5.trans ((Gr.refl _).alloc _))).mono ?_
    rintro e w6 ⟨rfl, hb6⟩
    have hw6 : Gr w5 w6 := (((Gr.refl w5).alloc _)).trans hb6
    have hg6 := hg5.trans hw6
    clear hg5
    replace BN := Lib.hid (BN.out.gr hw6)
    replace HR2 := Lib.hid (HR2.out.gr hw6)
    replace BX := Lib.hid (BX.out.gr hw6)
    replace BW := Lib.hid (BW.out.gr hw6)
    replace BI := Lib.hid (BI.out.gr hw6)
    replace HR5 := Lib.hid (HR5.out.gr hw6)
    replace BY := Lib.hid (BY.out.gr hb6)
    clear hw6 hb6
    have BV := Lib.hid (show SBox (w6.alloc (.cells #[.int .i64 a, .int .i64 b] 40)) w6.heap.size a b from heap_alloc_new w6 _)
    obtain ⟨k0, k1, k2, k3, k4⟩ := BN.out.cells
    try simp only [List.getElem?_toArray, List.getElem?_cons_zero, List.getElem?_cons_succ] at k0 k1 k2 k3 k4
    have kl := lt_of_block BN.out
    go_wp2_with fail
    clear k0 k1 k2 k3 k4 kl
    refine (HIR.out _ (hg6.trans ((Gr.refl _).alloc _))).mono ?_
    rintro e w7 ⟨rfl, hb7⟩
    have hw7 : Gr w6 w7 := (((Gr.refl w6).alloc _)).trans hb7
    have hg7 := hg6.trans hw7
    clear hg6
    replace BN := Lib.hid (BN.out.gr hw7)
    replace HR2 := Lib.hid (HR2.out.gr hw7)
    replace BX := Lib.hid (BX.out.gr hw7)
    replace BW := Lib.hid (BW.out.gr hw7)
    replace BI := Lib.hid (BI.out.gr hw7)
    replace HR5 := Lib.hid (HR5.out.gr hw7)
    replace BY := Lib.hid (BY.out.gr hw7)
    replace BV := Lib.hid (BV.out.gr hb7)
    clear hw7 hb7
    have BJ := Lib.hid (show SBox (w7.alloc (.cells #[.int .i64 a', .int .i64 b'] 40)) w7.heap.size a' b' from heap_alloc_new w7 _)
    clear HF HG HW HI HGR HWR HIR BN
    obtain ⟨x0, x1, x2, x3, x4⟩ := BX.out.cells
    try simp only [List.getElem?_toArray, List.getElem?_cons_zero, List.getElem?_cons_succ] at x0 x1 x2 x3 x4
    have xl := lt_of_block BX.out
    obtain ⟨y0, y1, y2, y3, y4⟩ := BY.out.cells
    try simp only [List.getElem?_toArray, List.getElem?_cons_zero, List.getElem?_cons_succ] at y0 y1 y2 y3 y4
    have yl := lt_of_block BY.out
    go_wp2_with fail
    clear x0 x1 x2 x3 x4 xl
    clear y0 y1 y2 y3 y4 yl
    refine (sameRP_any (max m2 m5) d2 _ d5 _ true _ ((HR2.out.gr ((Gr.refl _).alloc _)).ups _ (Nat.le_max_left m2 m5)) ((HR5.out.gr ((Gr.refl _).alloc _)).ups _ (Nat.le_max_right m2 m5)) (sameF_refl _)).mono ?_
    rintro e w8 ⟨rfl, hb8⟩
    have hw8 : Gr w7 w8 := (((Gr.refl w7).alloc _)).trans hb8
    have hg8 := hg7.trans hw8
    clear hg7
    replace HR2 := Lib.hid (HR2.out.gr hw8)
    replace BX := Lib.hid (BX.out.gr hw8)
    replace BW := Lib.hid (BW.out.gr hw8)
    replace BI := Lib.hid (BI.out.gr hw8)
    replace HR5 := Lib.hid (HR5.out.gr hw8)
    replace BY := Lib.hid (BY.out.gr hw8)
    replace BV := Lib.hid (BV.out.gr hw8)
    replace BJ := Lib.hid (BJ.out.gr hb8)
    clear hw8 hb8
    have x0 := cell_of_cells BW.out 0
    have x1 := cell_of_cells BW.out 1
    try simp only [List.getElem?_toArray, List.getElem?_cons_zero, List.getElem?_cons_succ] at x0 x1
    have xl := lt_of_block BW.out
    have y0 := cell_of_cells BV.out 0
    have y1 := cell_of_cells BV.out 1
    try simp only [List.getElem?_toArray, List.getElem?_cons_zero, List.getElem?_cons_succ] at y0 y1
    have yl := lt_of_block BV.out
    have z0 := cell_of_cells BI.out 0
    have z1 := cell_of_cells BI.out 1
    try simp only [List.getElem?_toArray, List.getElem?_cons_zero, List.getElem?_cons_succ] at z0 z1
    have zl := lt_of_block BI.out
    have u0 := cell_of_cells BJ.out 0
    have u1 := cell_of_cells BJ.out 1
    try simp only [List.getElem?_toArray, List.getElem?_cons_zero, List.getElem?_cons_succ] at u0 u1
    have ul := lt_of_block BJ.out
    go_wp2_with fail
    refine (livesP_any _).mono ?_
    rintro e w9 ⟨rfl, hb9⟩
    have hw9 : Gr w8 w9 := hb9
    have hg9 := hg8.trans hw9
    clear hg8
    replace HR2 := Lib.hid (HR2.out.gr hw9)
    replace BX := Lib.hid (BX.out.gr hw9)
    replace BW := Lib.hid (BW.out.gr hw9)
    replace BI := Lib.hid (BI.out.gr hw9)
    replace HR5 := Lib.hid (HR5.out.gr hw9)
    replace BY := Lib.hid (BY.out.gr hw9)
    replace BV := Lib.hid (BV.out.gr hw9)
    replace BJ := Lib.hid (BJ.out.gr hw9)
    clear hw9
    try clear hb9
    go_wp2_with fail
    go_ret
    exact ⟨rfl, by with_reducible assumption⟩

namespace TreeGets
set_option maxRecDepth 100000 in
theorem lifted (os : Os) (started : os.Started) (H : Type) (enc : TypeId × Value → H) :
    ReturnsInHanded {} Try.checked os 4 .any (Rows.treeGetsSpec.pre6 enc Try.prog Try.f4 Rows.treeGetsRow.domain false) (Rows.treeGetsSpec.post enc Try.prog Try.f4 false true false false) := by
  refine law_lifted (C := Try.checked) (tb := 4) own started (by kernel_rfl) Try.func4 laidOut rfl rfl Try.underlying4 (by kernel_rfl) ?_
    (ChangeSpec.witness6 (enc := enc) (C := Try.checked) false ⟨#[], #[.agg #[.int .i64 0, .string ⟨#[]⟩, .string ⟨#[]⟩, .slice none 0 0, .string ⟨#[]⟩], .slice none 0 0], []⟩ 8 (by kernel_rfl) (by kernel_rfl) (by kernel_rfl) (by kernel_rfl)) ?_
  · intro ds hl
    match ds, hl with
    | [_, _], _ => rfl
  · intro W base args ds ps hval0 hA0 hlt
    have hval : ∀ (j : Nat) t v, Try.f4.params[j]? = some t → args[j]? = some v → Value.okWide Try.prog W .any base t v := hval0
    have hA : DataW.TrodAll enc Try.prog W 0 (fun _ => true) true Try.f4.params.toList args.toList ds ps := hA0
    rw [Try.params4] at hA hval
    obtain ⟨v0, v1, d0, d1, p0, p1, rfl, rfl, rfl, h0, h1⟩ := trodAll_two hA
    obtain ⟨ev0, tv0, mv0, rfl, hrv0⟩ := open_node (hval 0 24 v0 rfl rfl) h0
    obtain ⟨Av1, lenv1, capv1, rfl⟩ := okWide_slice Try.underlying32 (hval 1 32 v1 rfl rfl)
    obtain ⟨nv1, hrv1⟩ := Rd.of_trod h1
    obtain ⟨A', len', cap', zsv1, hcs, hlcv1, hcmv1, hzv1⟩ := rd_intslice Try.underlying32 Try.underlying3 cells1 hrv1
    simp only [Value.cells, List.cons.injEq, Value.slice.injEq, and_true] at hcs
    obtain ⟨rfl, rfl, rfl⟩ := hcs
    exact treeGets_any mv0 ev0 tv0 Av1 lenv1 capv1 zsv1 W hrv0 hzv1 (by unfold maxLen at hcmv1; omega)

theorem proved : Rows.TreeGetsSaid :=
  OpenClaim.holds_of_wide 4 Try.f4 rfl rfl rfl rfl rfl rfl rfl ⟨rfl, rfl, rfl, rfl, rfl⟩ rfl rfl rfl rfl rfl (by kernel_rfl) Try.func4 (by kernel_rfl)
    (of_decide_eq_true (by kernel_rfl)) (by unfold Func.isWrapper; first | (rw [if_pos (by decide +kernel)]; kernel_rfl) | (rw [if_neg (by decide +kernel)]; exact ⟨rfl, rfl⟩))
    (fun os started H enc _ => lifted os started H enc)
end TreeGets
end Go.Proofs.Ytklncffhkdbkhaa
