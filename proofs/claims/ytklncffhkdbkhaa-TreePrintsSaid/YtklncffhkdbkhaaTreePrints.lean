/- TreePrints returns true for every input: text, length, number of nodes and nesting of any tree are the reference's; whether two are the same, too. No condition. -/
import Derived.Test.YtklncffhkdbkhaaTreeGets
import Derived.Test.YtklncffhkdbkhaaTrCount
namespace Go.Proofs.Ytklncffhkdbkhaa
open Go.ChangeShapes Go.WideShapes Go.ChangeAt Go.RowKit
open Go.Lib hiding intOf

set_option maxRecDepth 100000 in
set_option maxHeartbeats 8000000 in
theorem treePrints_any (m : Nat) (v : ND) (t : NT) (mx : Nat) (vx : ND) (x : NT) (w : World) (hr : NRep anyB m w v t) (hx : NRep anyB mx w vx x) : Calls Try.prog 9 #[.agg #[.int .i64 v.k, .string (bs v.l), .string (bs v.x), .slice v.A v.n v.c, .string (bs v.e)], .agg #[.int .i64 vx.k, .string (bs vx.l), .string (bs vx.x), .slice vx.A vx.n vx.c, .string (bs vx.e)]] w (RB true w) := by
  have HF : Hid (∀ w', Gr w w' → Calls Try.prog 10 #[.agg #[.int .i64 v.k, .string (bs v.l), .string (bs v.x), .slice v.A v.n v.c, .string (bs v.e)]] w' (RB (fitB t) w')) := Lib.hid (fun w' hg => fitP_any m v t w' (hr.gr hg))
  have HFX : Hid (∀ w', Gr w w' → Calls Try.prog 10 #[.agg #[.int .i64 vx.k, .string (bs vx.l), .string (bs vx.x), .slice vx.A vx.n vx.c, .string (bs vx.e)]] w' (RB (fitB x) w')) := Lib.hid (fun w' hg => fitP_any mx vx x w' (hx.gr hg))
  cases hfit : fitB t with
  | false =>
    rw [hfit] at HF
    clear hr hx hfit HFX
    go_enter Try.func9, Try.ntmps9
    go_wp2_with fail
    have hw2 : (w.alloc (.cells #[.int .i64 v.k, .string (bs v.l), .string (bs v.x), .slice v.A v.n v.c, .string (bs v.e)] 24)).heap.size = w.heap.size + 1 := by simp
    have BN := Lib.hid (show NBox ((w.alloc (.cells #[.int .i64 v.k, .string (bs v.l), .string (bs v.x), .slice v.A v.n v.c, .string (bs v.e)] 24)).alloc (.cells #[.int .i64 vx.k, .string (bs vx.l), .string (bs vx.x), .slice vx.A vx.n vx.c, .string (bs vx.e)] 24)) w.heap.size v from (heapOld (by simp)).trans (heap_alloc_new w _))
    have BX := Lib.hid (show NBox ((w.alloc (.cells #[.int .i64 v.k, .string (bs v.l), .string (bs v.x), .slice v.A v.n v.c, .string (bs v.e)] 24)).alloc (.cells #[.int .i64 vx.k, .string (bs vx.l), .string (bs vx.x), .slice vx.A vx.n vx.c, .string (bs vx.e)] 24)) (w.heap.size + 1) vx from by have h := heap_alloc_new (w.alloc (.cells #[.int .i64 v.k, .string (bs v.l), .string (bs v.x), .slice v.A v.n v.c, .string (bs v.e)] 24)) (.cells #[.int .i64 vx.k, .string (bs vx.l), .string (bs vx.x), .slice vx.A vx.n vx.c, .string (bs vx.e)] 24); rwa [hw2] at h)
    clear hw2
    refine (HF.out _ (((Gr.refl w).alloc _).alloc _)).mono ?_
    rintro e w1 ⟨rfl, hb1⟩
    have hw1 : Gr w w1 := (((Gr.refl w).alloc _).alloc _).trans hb1
    have hg1 : Gr w w1 := hw1
    replace BN := Lib.hid (BN.out.gr hb1)
    replace BX := Lib.hid (BX.out.gr hb1)
    clear hw1 hb1
    go_wp2_with fail
    refine (livesP_any _).mono ?_
    rintro e w2 ⟨rfl, hb2⟩
    have hw2 : Gr w1 w2 := hb2
    have hg2 := hg1.trans hw2
    clear hg1
    replace BN := Lib.hid (BN.out.gr hw2)
    replace BX := Lib.hid (BX.out.gr hw2)
    clear hw2
    try clear hb2
    go_wp2_with fail
    go_ret
    exact ⟨rfl, by with_reducible assumption⟩
  | true =>
    rw [hfit] at HF
    obtain ⟨f1, f2, f3⟩ := fit_facts hfit
    cases hfx : fitB x with
    | false =>
      rw [hfx] at HFX
      clear hr hx hfit hfx
      go_enter Try.func9, Try.ntmps9
      go_wp2_with fail
      have hw2 : (w.alloc (.cells #[.int .i64 v.k, .string (bs v.l), .string (bs v.x), .slice v.A v.n v.c, .string (bs v.e)] 24)).heap.size = w.heap.size + 1 := by simp
      have BN := Lib.hid (show NBox ((w.alloc (.cells #[.int .i64 v.k, .string (bs v.l), .string (bs v.x), .slice v.A v.n v.c, .string (bs v.e)] 24)).alloc (.cells #[.int .i64 vx.k, .string (bs vx.l), .string (bs vx.x), .slice vx.A vx.n vx.c, .string (bs vx.e)] 24)) w.heap.size v from (heapOld (by simp)).trans (heap_alloc_new w _))
      have BX := Lib.hid (show NBox ((w.alloc (.cells #[.int .i64 v.k, .string (bs v.l), .string (bs v.x), .slice v.A v.n v.c, .string (bs v.e)] 24)).alloc (.cells #[.int .i64 vx.k, .string (bs vx.l), .string (bs vx.x), .slice vx.A vx.n vx.c, .string (bs vx.e)] 24)) (w.heap.size + 1) vx from by have h := heap_alloc_new (w.alloc (.cells #[.int .i64 v.k, .string (bs v.l), .string (bs v.x), .slice v.A v.n v.c, .string (bs v.e)] 24)) (.cells #[.int .i64 vx.k, .string (bs vx.l), .string (bs vx.x), .slice vx.A vx.n vx.c, .string (bs vx.e)] 24); rwa [hw2] at h)
      clear hw2
      refine (HF.out _ (((Gr.refl w).alloc _).alloc _)).mono ?_
      rintro e w1 ⟨rfl, hb1⟩
      have hw1 : Gr w w1 := (((Gr.refl w).alloc _).alloc _).trans hb1
      have hg1 : Gr w w1 := hw1
      replace BN := Lib.hid (BN.out.gr hb1)
      replace BX := Lib.hid (BX.out.gr hb1)
      clear hw1 hb1
      obtain ⟨q0, q1, q2, q3, q4⟩ := BX.out.cells
      try simp only [List.getElem?_toArray, List.getElem?_cons_zero, List.getElem?_cons_succ] at q0 q1 q2 q3 q4
      have ql := lt_of_block BX.out
      go_wp2_with fail
      clear q0 q1 q2 q3 q4 ql
      refine (HFX.out _ hg1).mono ?_
      rintro e w2 ⟨rfl, hb2⟩
      have hw2 : Gr w1 w2 := hb2
      have hg2 := hg1.trans hw2
      clear hg1
      replace BN := Lib.hid (BN.out.gr hw2)
      replace BX := Lib.hid (BX.out.gr hw2)
      clear hw2
      try clear hb2
      go_wp2_with fail
      refine (livesP_any _).mono ?_
      rintro e w3 ⟨rfl, hb3⟩
      have hw3 : Gr w2 w3 := hb3
      have hg3 := hg2.trans hw3
      clear hg2
      replace BN := Lib.hid (BN.out.gr hw3)
      replace BX := Lib.hid (BX.out.gr hw3)
      clear hw3
      try clear hb3
      go_wp2_with fail
      go_ret
      exact ⟨rfl, by with_reducible assumption⟩
    | true =>
      rw [hfx] at HFX
      have HA : Hid (∀ w', Gr w w' → Calls Try.prog 28 #[.agg #[.int .i64 v.k, .string (bs v.l), .string (bs v.x), .slice v.A v.n v.c, .string (bs v.e)]] w' (RS (printF t) w')) := Lib.hid (fun w' hg => printP_any m v t w' (hr.gr hg) (by omega))
      have HB : Hid (∀ w', Gr w w' → Calls Try.prog 25 #[.agg #[.int .i64 v.k, .string (bs v.l), .string (bs v.x), .slice v.A v.n v.c, .string (bs v.e)]] w' (RS (printF t) w')) := Lib.hid (fun w' hg => printRP_any m v t w' (hr.gr hg) (by omega))
      have HC : Hid (∀ w', Gr w w' → Calls Try.prog 31 #[.agg #[.int .i64 v.k, .string (bs v.l), .string (bs v.x), .slice v.A v.n v.c, .string (bs v.e)]] w' (RI (lenF t) w')) := Lib.hid (fun w' hg => lenP_any m v t w' (hr.gr hg) (by omega))
      have HD : Hid (∀ w', Gr w w' → Calls Try.prog 32 #[.agg #[.int .i64 v.k, .string (bs v.l), .string (bs v.x), .slice v.A v.n v.c, .string (bs v.e)]] w' (RI (lenF t) w')) := Lib.hid (fun w' hg => lenRP_any m v t w' (hr.gr hg) (by omega))
      have HE : Hid (∀ w', Gr w w' → Calls Try.prog 33 #[.agg #[.int .i64 v.k, .string (bs v.l), .string (bs v.x), .slice v.A v.n v.c, .string (bs v.e)]] w' (RI (countF t) w')) := Lib.hid (fun w' hg => countP_any m v t w' (hr.gr hg) (by omega))
      have HG : Hid (∀ w', Gr w w' → Calls Try.prog 34 #[.agg #[.int .i64 v.k, .string (bs v.l), .string (bs v.x), .slice v.A v.n v.c, .string (bs v.e)]] w' (RI (countF t) w')) := Lib.hid (fun w' hg => countRP_any m v t w' (hr.gr hg) (by omega))
      have HH : Hid (∀ w', Gr w w' → Calls Try.prog 35 #[.agg #[.int .i64 v.k, .string (bs v.l), .string (bs v.x), .slice v.A v.n v.c, .string (bs v.e)]] w' (RI (depthF t) w')) := Lib.hid (fun w' hg => depthP_any m v t w' (hr.gr hg) (by omega))
      have HI : Hid (∀ w', Gr w w' → Calls Try.prog 36 #[.agg #[.int .i64 v.k, .string (bs v.l), .string (bs v.x), .slice v.A v.n v.c, .string (bs v.e)]] w' (RI (depthF t) w')) := Lib.hid (fun w' hg => depthRP_any m v t w' (hr.gr hg) (by omega))
      have HJ : Hid (∀ w', Gr w w' → Calls Try.prog 37 #[.agg #[.int .i64 v.k, .string (bs v.l), .string (bs v.x), .slice v.A v.n v.c, .string (bs v.e)], .agg #[.int .i64 vx.k, .string (bs vx.l), .string (bs vx.x), .slice vx.A vx.n vx.c, .string (bs vx.e)]] w' (RB (sameF t x) w')) := Lib.hid (fun w' hg => sameP_any (max m mx) v t vx x _ w' ((hr.gr hg).ups _ (Nat.le_max_left m mx)) ((hx.gr hg).ups _ (Nat.le_max_right m mx)) rfl)
      have HK : Hid (∀ w', Gr w w' → Calls Try.prog 15 #[.agg #[.int .i64 v.k, .string (bs v.l), .string (bs v.x), .slice v.A v.n v.c, .string (bs v.e)], .agg #[.int .i64 vx.k, .string (bs vx.l), .string (bs vx.x), .slice vx.A vx.n vx.c, .string (bs vx.e)]] w' (RB (sameF t x) w')) := Lib.hid (fun w' hg => sameRP_any (max m mx) v t vx x _ w' ((hr.gr hg).ups _ (Nat.le_max_left m mx)) ((hx.gr hg).ups _ (Nat.le_max_right m mx)) rfl)
      generalize printF t = PT at *
      generalize sameF t x = SB at *
      generalize lenF t = LT at *
      generalize countF t = CT at *
      generalize depthF t = DT at *
      have hpt : (bs PT).toList = (bs PT).toList := rfl
      clear hr hx hfit hfx f1 f2 f3 hpt
      go_enter Try.func9, Try.ntmps9
      go_wp2_with fail
      have hw2 : (w.alloc (.cells #[.int .i64 v.k, .string (bs v.l), .string (bs v.x), .slice v.A v.n v.c, .string (bs v.e)] 24)).heap.size = w.heap.size + 1 := by simp
      have BN := Lib.hid (show NBox ((w.alloc (.cells #[.int .i64 v.k, .string (bs v.l), .string (bs v.x), .slice v.A v.n v.c, .string (bs v.e)] 24)).alloc (.cells #[.int .i64 vx.k, .string (bs vx.l), .string (bs vx.x), .slice vx.A vx.n vx.c, .string (bs vx.e)] 24)) w.heap.size v from (heapOld (by simp)).trans (heap_alloc_new w _))
      have BX := Lib.hid (show NBox ((w.alloc (.cells #[.int .i64 v.k, .string (bs v.l), .string (bs v.x), .slice v.A v.n v.c, .string (bs v.e)] 24)).alloc (.cells #[.int .i64 vx.k, .string (bs vx.l), .string (bs vx.x), .slice vx.A vx.n vx.c, .string (bs vx.e)] 24)) (w.heap.size + 1) vx from by have h := heap_alloc_new (w.alloc (.cells #[.int .i64 v.k, .string (bs v.l), .string (bs v.x), .slice v.A v.n v.c, .string (bs v.e)] 24)) (.cells #[.int .i64 vx.k, .string (bs vx.l), .string (bs vx.x), .slice vx.A vx.n vx.c, .string (bs vx.e)] 24); rwa [hw2] at h)
      clear hw2
      refine (HF.out _ (((Gr.refl w).alloc _).alloc _)).mono ?_
      rintro e w1 ⟨rfl, hb1⟩
      have hw1 : Gr w w1 := (((Gr.refl w).alloc _).alloc _).trans hb1
      have hg1 : Gr w w1 := hw1
      replace BN := Lib.hid (BN.out.gr hb1)
      replace BX := Lib.hid (BX.out.gr hb1)
      clear hw1 hb1
      obtain ⟨q0, q1, q2, q3, q4⟩ := BX.out.cells
      try simp only [List.getElem?_toArray, List.getElem?_cons_zero, List.getElem?_cons_succ] at q0 q1 q2 q3 q4
      have ql := lt_of_block BX.out
      go_wp2_with fail
      clear q0 q1 q2 q3 q4 ql
      refine (HFX.out _ hg1).mono ?_
      rintro e w2 ⟨rfl, hb2⟩
      have hw2 : Gr w1 w2 := hb2
      have hg2 := hg1.trans hw2
      clear hg1
      replace BN := Lib.hid (BN.out.gr hw2)
      replace BX := Lib.hid (BX.out.gr hw2)
      clear hw2
      try clear hb2
      obtain ⟨k0, k1, k2, k3, k4⟩ := BN.out.cells
      try simp only [List.getElem?_toArray, List.getElem?_cons_zero, List.getElem?_cons_succ] at k0 k1 k2 k3 k4
      have kl := lt_of_block BN.out
      obtain ⟨q0, q1, q2, q3, q4⟩ := BX.out.cells
      try simp only [List.getElem?_toArray, List.getElem?_cons_zero, List.getElem?_cons_succ] at q0 q1 q2 q3 q4
      have ql := lt_of_block BX.out
      clear BN BX HF HFX
      go_wp2_with fail
      have kq9_0 := cell_regrown k0
      have kq9_1 := cell_regrown k1
      have kq9_2 := cell_regrown k2
      have kq9_3 := cell_regrown k3
      have kq9_4 := cell_regrown k4
      have kq9_5 := cell_regrown q0
      have kq9_6 := cell_regrown q1
      have kq9_7 := cell_regrown q2
      have kq9_8 := cell_regrown q3
      have kq9_9 := cell_regrown q4
      refine wp_region_quiet_below (by kernel_rfl) (by kernel_rfl) ?_
      repeat (go_big_quiet_step (first | (go_at_call 11; exact Calls.regrown_of (livesP_any _)) | (go_at_call 28; exact Calls.regrown_of (HA.out _ (hg2.trans (below_regrown _ _ _)))) | (go_at_call 25; exact Calls.regrown_of (HB.out _ (hg2.trans (below_regrown _ _ _)))) | (go_at_call 31; exact Calls.regrown_of (HC.out _ (hg2.trans (below_regrown _ _ _)))) | (go_at_call 32; exact Calls.regrown_of (HD.out _ (hg2.trans (below_regrown _ _ _)))) | (go_at_call 33; exact Calls.regrown_of (HE.out _ (hg2.trans (below_regrown _ _ _)))) | (go_at_call 34; exact Calls.regrown_of (HG.out _ (hg2.trans (below_regrown _ _ _)))) | (go_at_call 35; exact Calls.regrown_of (HH.out _ (hg2.trans (below_regrown _ _ _)))) | (go_at_call 36; exact Calls.regrown_of (HI.out _ (hg2.trans (below_regrown _ _ _)))) | (go_at_call 37; exact Calls.regrown_of (HJ.out _ (hg2.trans (below_regrown _ _ _)))) | (go_at_call 15; exact Calls.regrown_of (HK.out _ (hg2.trans (below_regrown _ _ _))))))
      refine wpQuiet_nil ?_
      intro wq9 hwq9
      have hbq9 := gr_regrown hwq9
      clear hwq9
      replace kq9_0 := hbq9.cell k0
      replace kq9_1 := hbq9.cell k1
      replace kq9_2 := hbq9.cell k2
      replace kq9_3 := hbq9.cell k3
      replace kq9_4 := hbq9.cell k4
      replace kq9_5 := hbq9.cell q0
      replace kq9_6 := hbq9.cell q1
      replace kq9_7 := hbq9.cell q2
      replace kq9_8 := hbq9.cell q3
      replace kq9_9 := hbq9.cell q4
      go_wp2_with fail
      go_ret
      exact ⟨rfl, by with_reducible exact hg2.trans hbq9⟩


namespace TreePrints
set_option maxRecDepth 100000 in
theorem lifted (os : Os) (started : os.Started) (H : Type) (enc : TypeId × Value → H) :
    ReturnsInHanded {} Try.checked os 9 .any (Rows.treePrintsSpec.pre6 enc Try.prog Try.f9 Rows.treePrintsRow.domain false) (Rows.treePrintsSpec.post enc Try.prog Try.f9 false true false false) := by
  refine law_lifted (C := Try.checked) (tb := 4) own started (by kernel_rfl) Try.func9 laidOut rfl rfl Try.underlying4 (by kernel_rfl) ?_
    (ChangeSpec.witness6 (enc := enc) (C := Try.checked) false ⟨#[], #[.agg #[.int .i64 0, .string ⟨#[]⟩, .string ⟨#[]⟩, .slice none 0 0, .string ⟨#[]⟩], .agg #[.int .i64 0, .string ⟨#[]⟩, .string ⟨#[]⟩, .slice none 0 0, .string ⟨#[]⟩]], []⟩ 8 (by kernel_rfl) (by kernel_rfl) (by kernel_rfl) (by kernel_rfl)) ?_
  · intro ds hl
    match ds, hl with
    | [_, _], _ => rfl
  · intro W base args ds ps hval0 hA0 hlt
    have hval : ∀ (j : Nat) t v, Try.f9.params[j]? = some t → args[j]? = some v → Value.okWide Try.prog W .any base t v := hval0
    have hA : DataW.TrodAll enc Try.prog W 0 (fun _ => true) true Try.f9.params.toList args.toList ds ps := hA0
    rw [Try.params9] at hA hval
    obtain ⟨v0, v1, d0, d1, p0, p1, rfl, rfl, rfl, h0, h1⟩ := trodAll_two hA
    obtain ⟨ev0, tv0, mv0, rfl, hrv0⟩ := open_node (hval 0 24 v0 rfl rfl) h0
    obtain ⟨ev1, tv1, mv1, rfl, hrv1⟩ := open_node (hval 1 24 v1 rfl rfl) h1
    exact treePrints_any mv0 ev0 tv0 mv1 ev1 tv1 W hrv0 hrv1

theorem proved : Rows.TreePrintsSaid :=
  OpenClaim.holds_of_wide 9 Try.f9 rfl rfl rfl rfl rfl rfl rfl ⟨rfl, rfl, rfl, rfl, rfl⟩ rfl rfl rfl rfl rfl (by kernel_rfl) Try.func9 (by kernel_rfl)
    (of_decide_eq_true (by kernel_rfl)) (by unfold Func.isWrapper; first | (rw [if_pos (by decide +kernel)]; kernel_rfl) | (rw [if_neg (by decide +kernel)]; exact ⟨rfl, rfl⟩))
    (fun os started H enc _ => lifted os started H enc)
end TreePrints
end Go.Proofs.Ytklncffhkdbkhaa
