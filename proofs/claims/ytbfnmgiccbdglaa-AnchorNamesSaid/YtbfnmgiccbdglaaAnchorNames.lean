/- AnchorNames returns true for every input: the names of the anchors and the number of the aliases are the reference's. No condition. -/
import Derived.Test.YtbfnmgiccbdglaaAnchorLimits
import Derived.Test.YtbfnmgiccbdglaaAnRefN
namespace Go.Proofs.Ytbfnmgiccbdglaa
open Go.ChangeShapes Go.WideShapes Go.ChangeAt Go.RowKit

set_option maxRecDepth 100000 in
set_option maxHeartbeats 4000000 in
theorem anames_out (v : ND) (w : World) (HS : Hid (∀ W, Gr w W → Calls Try.prog 9 #[.agg #[.int .i64 v.k, .string (bs v.l), .string (bs v.x), .slice v.A v.n v.c, .string (bs v.e)]] W (RB false W))) : Calls Try.prog 3 #[.agg #[.int .i64 v.k, .string (bs v.l), .string (bs v.x), .slice v.A v.n v.c, .string (bs v.e)]] w (RB true w) := by
  go_enter Try.func3, Try.ntmps3
  go_wp2_with fail
  refine (HS.out _ ((Gr.refl w).alloc _)).mono ?_
  rintro e w1 ⟨rfl, hb1⟩
  have hg1 : Gr w w1 := ((Gr.refl w).alloc _).trans hb1
  go_wp2_with fail
  refine (awake_any _).mono ?_
  rintro e w2 ⟨rfl, hb2⟩
  go_wp2_with fail
  go_ret
  exact ⟨rfl, hg1.trans hb2⟩
set_option maxRecDepth 100000 in
set_option maxHeartbeats 4000000 in
theorem anames_in (v : ND) (q : List (List UInt8) × Int) (ka : Int) (w : World) (HS : Hid (∀ W, Gr w W → Calls Try.prog 9 #[.agg #[.int .i64 v.k, .string (bs v.l), .string (bs v.x), .slice v.A v.n v.c, .string (bs v.e)]] W (RB true W))) (HN : Hid (∀ W, Gr w W → Calls Try.prog 11 #[.agg #[.int .i64 v.k, .string (bs v.l), .string (bs v.x), .slice v.A v.n v.c, .string (bs v.e)]] W (RNames q W))) (HR : Hid (∀ W, Gr w W → Calls Try.prog 12 #[.agg #[.int .i64 v.k, .string (bs v.l), .string (bs v.x), .slice v.A v.n v.c, .string (bs v.e)]] W (RNames q W)))
    (HA1 : Hid (∀ W, Gr w W → Calls Try.prog 13 #[.agg #[.int .i64 v.k, .string (bs v.l), .string (bs v.x), .slice v.A v.n v.c, .string (bs v.e)]] W (RI ka W))) (HA2 : Hid (∀ W, Gr w W → Calls Try.prog 14 #[.agg #[.int .i64 v.k, .string (bs v.l), .string (bs v.x), .slice v.A v.n v.c, .string (bs v.e)]] W (RI ka W))) (hq : q.1.length ≤ 1000000) : Calls Try.prog 3 #[.agg #[.int .i64 v.k, .string (bs v.l), .string (bs v.x), .slice v.A v.n v.c, .string (bs v.e)]] w (RB true w) := by
  obtain ⟨nq, hnq⟩ : ∃ nq, nq = q.1.length := ⟨_, rfl⟩
  have HNQ := Lib.hid hnq
  rw [← hnq] at hq
  clear hnq
  go_enter Try.func3, Try.ntmps3
  go_wp2_with fail
  have hn0 : NBox (w.alloc (.cells #[.int .i64 v.k, .string (bs v.l), .string (bs v.x), .slice v.A v.n v.c, .string (bs v.e)] 24)) w.heap.size v := heap_alloc_new w (.cells #[.int .i64 v.k, .string (bs v.l), .string (bs v.x), .slice v.A v.n v.c, .string (bs v.e)] 24)
  refine (HS.out _ ((Gr.refl w).alloc _)).mono ?_
  rintro e w1 ⟨rfl, hb1⟩
  have hg1 : Gr w w1 := ((Gr.refl w).alloc _).trans hb1
  have HN1 := Lib.hid (hn0.gr hb1)
  clear hn0 hb1
  obtain ⟨k0, k1, k2, k3, k4⟩ := HN1.out.cells
  have kl := lt_of_block HN1.out
  go_wp2_with fail
  refine (HN.out _ hg1).mono ?_
  rintro e w2 ⟨A1, n1, c1, rfl, hrow1, hb2⟩
  obtain rfl : n1 = nq := hrow1.1.trans HNQ.out.symm
  have hg2 := hg1.trans hb2
  have HN2 := Lib.hid (HN1.out.gr hb2)
  clear hb2 hg1 HN1 k0 k1 k2 k3 k4 kl
  obtain ⟨k0, k1, k2, k3, k4⟩ := HN2.out.cells
  have kl := lt_of_block HN2.out
  have HR1 := Lib.hid hrow1
  clear hrow1
  go_wp2_with fail
  refine (HR.out _ hg2).mono ?_
  rintro e w3 ⟨A2, n2, c2, rfl, hrow2, hb3⟩
  obtain rfl : n2 = n1 := hrow2.1.trans HNQ.out.symm
  replace HR1 := Lib.hid (HR1.out.gr hb3)
  have hg3 := hg2.trans hb3
  have HN3 := Lib.hid (HN2.out.gr hb3)
  clear hb3 hg2 HN2 k0 k1 k2 k3 k4 kl
  obtain ⟨k0, k1, k2, k3, k4⟩ := HN3.out.cells
  have kl := lt_of_block HN3.out
  have HR2 := Lib.hid hrow2
  clear hrow2
  have t1 : ((n2 : Int) != (n2 : Int)) = false := by simp
  have t2 : (q.2 != q.2) = false := by simp
  have t3 : (ka != ka) = false := by simp
  go_wp2_with fail
  have kq9_0 := cell_regrown k0
  have kq9_1 := cell_regrown k1
  have kq9_2 := cell_regrown k2
  have kq9_3 := cell_regrown k3
  have kq9_4 := cell_regrown k4
  refine wp_region_quiet_below (by kernel_rfl) (by kernel_rfl) ?_
  repeat (go_big_quiet_step (first | (go_at_call 13; exact Calls.regrown_of (HA1.out _ (hg3.trans (below_regrown _ _ _)))) | (go_at_call 14; exact Calls.regrown_of (HA2.out _ (hg3.trans (below_regrown _ _ _))))))
  refine wpQuiet_nil ?_
  intro wq9 hwq9
  have hbq9 := gr_regrown hwq9
  clear hwq9
  replace kq9_0 := hbq9.cell k0
  replace kq9_1 := hbq9.cell k1
  replace kq9_2 := hbq9.cell k2
  replace kq9_3 := hbq9.cell k3
  replace kq9_4 := hbq9.cell k4
  have hg4 := hg3.trans hbq9
  replace HR1 := Lib.hid (HR1.out.gr hbq9)
  replace HR2 := Lib.hid (HR2.out.gr hbq9)
  clear hg3 HN3 k0 k1 k2 k3 k4 kl hbq9
  go_wp2_with fail
  go_loopw [7] (fun iv wr => ∃ i : Nat, i ≤ n2 ∧ iv = .int .i64 i ∧ Gr wq9 wr) (fun iv _ => n2 - (intOf iv).toNat)
  case atStart => exact ⟨0, Nat.zero_le _, rfl, Gr.refl _⟩
  case round =>
    obtain ⟨i, hi, rfl, hG⟩ := hrel
    by_cases hlt : i < n2
    · obtain ⟨x, hx⟩ : ∃ x, q.1[i]? = some x := ⟨q.1[i]'(by rw [← HNQ.out]; omega), List.getElem?_eq_getElem _⟩
      obtain ⟨b1, rfl, hl1, hc1⟩ := HR1.out.2.2.2 (by omega)
      obtain ⟨b2, rfl, hl2, hc2⟩ := HR2.out.2.2.2 (by omega)
      have c1 := Gr.cell hG (hc1 i x hx)
      have c2 := Gr.cell hG (hc2 i x hx)
      have l1 := Gr.lt hG hl1
      have l2 := Gr.lt hG hl2
      have qe : ((bs x).toList == (bs x).toList) = true := by simp
      clear hx hc1 hc2 hl1 hl2
      go_wp2_with fail
      have kq8_0 := cell_regrown c1
      have kq8_1 := cell_regrown c2
      refine wp_region_quiet_below (by kernel_rfl) (by kernel_rfl) ?_
      repeat (go_big_quiet_step (fail))
      refine wpQuiet_nil ?_
      intro wq8 hwq8
      have hbq8 := gr_regrown hwq8
      clear hwq8
      replace kq8_0 := hbq8.cell c1
      replace kq8_1 := hbq8.cell c2
      go_wp2_with fail
      go_roundw
      case rel => exact ⟨i + 1, by omega, by go_num, hG.trans hbq8⟩
      case measure => simp [intOf] <;> omega
    · go_wp2_with fail
      refine (awake_any _).mono ?_
      rintro e w9 ⟨rfl, hb9⟩
      go_wp2_with fail
      go_ret
      exact ⟨rfl, (hg4.trans hG).trans hb9⟩
set_option maxRecDepth 100000 in
set_option maxHeartbeats 4000000 in
theorem anchorNames_any (m : Nat) (v : ND) (t : NT) (w : World) (hr : NRep anyB m w v t) : Calls Try.prog 3 #[.agg #[.int .i64 v.k, .string (bs v.l), .string (bs v.x), .slice v.A v.n v.c, .string (bs v.e)]] w (RB true w) := by
  have hs := fun W (hg : Gr w W) => smallA_any m v t W (hr.gr hg)
  cases hsm : smallB t 60 140 2000 with
  | false =>
    rw [hsm] at hs
    exact anames_out v w (Lib.hid hs)
  | true =>
    rw [hsm] at hs
    obtain ⟨f1, _, f3⟩ := small_facts hsm
    have hl : lenF t ≤ 1152921504606846976 := Nat.le_trans f3 (by decide)
    have hc : countF t ≤ 1000000 := Nat.le_trans f1 (by decide)
    refine anames_in v (namesQ t) _ w (Lib.hid hs) (Lib.hid (fun W hg => NamesP_any m v t W (hr.gr hg) hl hc)) (Lib.hid (fun W hg => by rw [namesQ_same]; exact NamesRP_any m v t W (hr.gr hg) hl hc)) (Lib.hid (fun W hg => aliasesP_any m v t W (hr.gr hg) hl hc)) (Lib.hid (fun W hg => aliasesR_any m v t W (hr.gr hg) hl hc)) ?_
    rw [namesQ_same]
    unfold namesRQ
    have h1 := textsF_len t
    split
    · simp
    · split
      · rw [List.length_map]; omega
      · simp
namespace AnchorNames
set_option maxRecDepth 100000 in
theorem lifted (os : Os) (started : os.Started) (H : Type) (enc : TypeId × Value → H) :
    ReturnsInHanded {} Try.checked os 3 .any (Rows.anchorNamesSpec.pre6 enc Try.prog Try.f3 Rows.anchorNamesRow.domain false) (Rows.anchorNamesSpec.post enc Try.prog Try.f3 false true false false) := by
  refine law_lifted (C := Try.checked) (tb := 4) own started (by kernel_rfl) Try.func3 laidOut rfl rfl Try.underlying4 (by kernel_rfl) ?_
    (ChangeSpec.witness6 (enc := enc) (C := Try.checked) false ⟨#[], #[.agg #[.int .i64 0, .string ⟨#[]⟩, .string ⟨#[]⟩, .slice none 0 0, .string ⟨#[]⟩]], []⟩ 8 (by kernel_rfl) (by kernel_rfl) (by kernel_rfl) (by kernel_rfl)) ?_
  · intro ds hl
    match ds, hl with
    | [_], _ => rfl
  · intro W base args ds ps hval0 hA0 hlt
    have hval : ∀ (j : Nat) t v, Try.f3.params[j]? = some t → args[j]? = some v → Value.okWide Try.prog W .any base t v := hval0
    have hA : DataW.TrodAll enc Try.prog W 0 (fun _ => true) true Try.f3.params.toList args.toList ds ps := hA0
    rw [Try.params3] at hA hval
    obtain ⟨v0, d0, rfl, rfl, h0⟩ := trodAll_one hA
    obtain ⟨ev0, tv0, mv0, rfl, hrv0⟩ := open_node (hval 0 24 v0 rfl rfl) h0
    exact anchorNames_any mv0 ev0 tv0 W hrv0

theorem proved : Rows.AnchorNamesSaid :=
  OpenClaim.holds_of_wide 3 Try.f3 rfl rfl rfl rfl rfl rfl rfl ⟨rfl, rfl, rfl, rfl, rfl⟩ rfl rfl rfl rfl rfl (by kernel_rfl) Try.func3 (by kernel_rfl)
    (of_decide_eq_true (by kernel_rfl)) (by unfold Func.isWrapper; first | (rw [if_pos (by decide +kernel)]; kernel_rfl) | (rw [if_neg (by decide +kernel)]; exact ⟨rfl, rfl⟩))
    (fun os started H enc _ => lifted os started H enc)
end AnchorNames
end Go.Proofs.Ytbfnmgiccbdglaa
