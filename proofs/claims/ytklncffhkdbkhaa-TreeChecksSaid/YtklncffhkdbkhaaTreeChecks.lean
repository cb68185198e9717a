/- TreeChecks returns true for every input: a tree is valid, or has the reference's first error. No condition. -/
import Derived.Test.YtklncffhkdbkhaaTrLives
namespace Go.Proofs.Ytklncffhkdbkhaa
open Go.ChangeShapes Go.WideShapes Go.ChangeAt Go.RowKit
open Go.Lib hiding intOf

set_option maxRecDepth 100000 in
set_option maxHeartbeats 4000000 in
theorem treeChecks_any (m : Nat) (v : ND) (t : NT) (w : World) (hr : NRep anyB m w v t) : Calls Try.prog 8 #[.agg #[.int .i64 v.k, .string (bs v.l), .string (bs v.x), .slice v.A v.n v.c, .string (bs v.e)]] w (RB true w) := by
  have HS : Hid (∀ w', Gr w w' → Calls Try.prog 24 #[.agg #[.int .i64 v.k, .string (bs v.l), .string (bs v.x), .slice v.A v.n v.c, .string (bs v.e)], .int .i64 2000, .int .i64 300, .int .i64 2000000] w' (RB (smallB t 2000 300 2000000) w')) := Lib.hid (fun w' hg => smallP_any m v t 2000 300 2000000 w' (hr.gr hg) (by omega) (by omega) (by omega) (by omega) (by omega) (by omega))
  cases hsm : smallB t 2000 300 2000000 with
  | false =>
    rw [hsm] at HS
    clear hr hsm
    go_enter Try.func8, Try.ntmps8
    go_wp2_with fail
    refine (HS.out _ ((Gr.refl w).alloc _)).mono ?_
    rintro e w1 ⟨rfl, hb1⟩
    have hg1 : Gr w w1 := ((Gr.refl w).alloc _).trans hb1
    go_wp2_with fail
    refine (livesP_any _).mono ?_
    rintro e w2 ⟨rfl, hb2⟩
    go_wp2_with fail
    go_ret
    exact ⟨rfl, by with_reducible exact hg1.trans hb2⟩
  | true =>
    have hro : 0 ≤ roomF t 2000 300 2000000 := by unfold smallB at hsm; exact of_decide_eq_true hsm
    obtain ⟨q1, q2, q3⟩ := roomF_ok t 2000 300 2000000 hro
    have hl : lenF t ≤ 1152921504606846976 := by
      have h1 : (countF t : Int) ≤ 2000 := by omega
      have h2 : (countF t : Int) * (3 * 2000000) ≤ 2000 * (3 * 2000000) := Int.mul_le_mul_of_nonneg_right h1 (by omega)
      omega
    have HC1 : Hid (∀ w', Gr w w' → Calls Try.prog 29 #[.agg #[.int .i64 v.k, .string (bs v.l), .string (bs v.x), .slice v.A v.n v.c, .string (bs v.e)]] w' (RI (checkT t) w')) := Lib.hid (fun w' hg => CheckP_any m v t w' (hr.gr hg) hl)
    have HC2 : Hid (∀ w', Gr w w' → Calls Try.prog 30 #[.agg #[.int .i64 v.k, .string (bs v.l), .string (bs v.x), .slice v.A v.n v.c, .string (bs v.e)]] w' (RI (checkT t) w')) := Lib.hid (fun w' hg => CheckRP_any m v t w' (hr.gr hg) hl)
    rw [hsm] at HS
    generalize checkT t = z at *
    clear hr hsm hro q1 q2 q3 hl
    go_enter Try.func8, Try.ntmps8
    go_wp2_with fail
    refine (HS.out _ ((Gr.refl w).alloc _)).mono ?_
    rintro e w1 ⟨rfl, hb1⟩
    have hg1 : Gr w w1 := ((Gr.refl w).alloc _).trans hb1
    have hN : NBox w1 w.heap.size v := NBox.gr (heap_alloc_new w _) hb1
    obtain ⟨k0, k1, k2, k3, k4⟩ := hN.cells
    clear hN hb1 HS
    go_wp2_with fail
    have kq9_0 := cell_regrown k0
    have kq9_1 := cell_regrown k1
    have kq9_2 := cell_regrown k2
    have kq9_3 := cell_regrown k3
    have kq9_4 := cell_regrown k4
    refine wp_region_quiet_below (by kernel_rfl) (by kernel_rfl) ?_
    repeat (go_big_quiet_step (first | (go_at_call 11; exact Calls.regrown_of (livesP_any _)) | (go_at_call 29; exact Calls.regrown_of (HC1.out _ (hg1.trans (below_regrown _ _ _)))) | (go_at_call 30; exact Calls.regrown_of (HC2.out _ (hg1.trans (below_regrown _ _ _))))))
    refine wpQuiet_nil ?_
    intro wq9 hwq9
    have hbq9 := gr_regrown hwq9
    clear hwq9
    replace kq9_0 := hbq9.cell k0
    replace kq9_1 := hbq9.cell k1
    replace kq9_2 := hbq9.cell k2
    replace kq9_3 := hbq9.cell k3
    replace kq9_4 := hbq9.cell k4
    go_wp2_with fail
    go_ret
    exact ⟨rfl, by with_reducible exact hg1.trans hbq9⟩

namespace TreeChecks
set_option maxRecDepth 100000 in
theorem lifted (os : Os) (started : os.Started) (H : Type) (enc : TypeId × Value → H) :
    ReturnsInHanded {} Try.checked os 8 .any (Rows.treeChecksSpec.pre6 enc Try.prog Try.f8 Rows.treeChecksRow.domain false) (Rows.treeChecksSpec.post enc Try.prog Try.f8 false true false false) := by
  refine law_lifted (C := Try.checked) (tb := 4) own started (by kernel_rfl) Try.func8 laidOut rfl rfl Try.underlying4 (by kernel_rfl) ?_
    (ChangeSpec.witness6 (enc := enc) (C := Try.checked) false ⟨#[], #[.agg #[.int .i64 0, .string ⟨#[]⟩, .string ⟨#[]⟩, .slice none 0 0, .string ⟨#[]⟩]], []⟩ 8 (by kernel_rfl) (by kernel_rfl) (by kernel_rfl) (by kernel_rfl)) ?_
  · intro ds hl
    match ds, hl with
    | [_], _ => rfl
  · intro W base args ds ps hval0 hA0 hlt
    have hval : ∀ (j : Nat) t v, Try.f8.params[j]? = some t → args[j]? = some v → Value.okWide Try.prog W .any base t v := hval0
    have hA : DataW.TrodAll enc Try.prog W 0 (fun _ => true) true Try.f8.params.toList args.toList ds ps := hA0
    rw [Try.params8] at hA hval
    obtain ⟨v0, d0, rfl, rfl, h0⟩ := trodAll_one hA
    obtain ⟨ev0, tv0, mv0, rfl, hrv0⟩ := open_node (hval 0 24 v0 rfl rfl) h0
    exact treeChecks_any mv0 ev0 tv0 W hrv0

theorem proved : Rows.TreeChecksSaid :=
  OpenClaim.holds_of_wide 8 Try.f8 rfl rfl rfl rfl rfl rfl rfl ⟨rfl, rfl, rfl, rfl, rfl⟩ rfl rfl rfl rfl rfl (by kernel_rfl) Try.func8 (by kernel_rfl)
    (of_decide_eq_true (by kernel_rfl)) (by unfold Func.isWrapper; first | (rw [if_pos (by decide +kernel)]; kernel_rfl) | (rw [if_neg (by decide +kernel)]; exact ⟨rfl, rfl⟩))
    (fun os started H enc _ => lifted os started H enc)
end TreeChecks
end Go.Proofs.Ytklncffhkdbkhaa
