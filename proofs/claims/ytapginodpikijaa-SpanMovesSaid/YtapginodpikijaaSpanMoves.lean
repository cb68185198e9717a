/- SpanMoves returns true for every input: offsets are moved as the reference says, preserved bytes are found there. No condition. -/
import Derived.Test.YtapginodpikijaaSpanMove
import Derived.Deep.QuietTactic
import Derived.BigQuiet
import Derived.Deep.RegionHeld3
import Derived.Deep.DrawnRows
import Derived.Test.YtapginodpikijaaQb
namespace Go.Proofs.Ytapginodpikijaa
attribute [local go_sem ↓] Go.wp_at_zero Go.wp_at_succ
open Go.ChangeShapes Go.WideShapes Go.ChangeAt Go.RowKit
open Go.Lib hiding intOf


theorem bs_at (l : List UInt8) (k : Nat) (h : k < (bs l).size) : some ((bs l)[k]) = l[k]? := by
  have h1 : k < l.length := h
  rw [List.getElem?_eq_getElem h1]
  rfl
/-- What is known of a callee, at every later world. -/
def Always (w : World) (f : FuncId) (args : Array Value) (Q : World → Ending → World → Prop) : Prop := ∀ w' : World, Gr w w' → Calls Try.prog f args w' (Q w')
set_option maxRecDepth 100000 in
set_option maxHeartbeats 4000000 in
theorem moves_few (src : List UInt8) (A : Option Addr) (len cap : Nat) (a : Int) (w : World) (HFEW : Hid (Always w 10 #[.string (bs src), .slice A len cap] (RB false))) : Calls Try.prog 7 #[.string (bs src), .slice A len cap, .int .i64 a] w (RB true w) := by
  go_enter Try.func7, Try.ntmps7
  go_wp2_with fail
  refine (HFEW.out w (Gr.refl w)).mono ?_
  rintro e w1 ⟨rfl, hb1⟩
  go_wp2_with fail
  refine (livesP_any _).mono ?_
  rintro e w9 ⟨rfl, hb9⟩
  go_wp2_with fail
  go_ret
  exact ⟨rfl, (by with_reducible (repeat (first | exact Gr.refl _ | assumption | apply Gr.alloc | apply Gr.drew | apply Gr.drewN | refine Gr.setCell ?_ (by first | (simp; done) | (simp; omega)) _ | refine Gr.trans ?_ (by assumption))))⟩
set_option maxRecDepth 100000 in
set_option maxHeartbeats 4000000 in
theorem moves_bad (src dst : List UInt8) (A : Option Addr) (len cap : Nat) (a er : Int) (w : World) (HFEW : Hid (Always w 10 #[.string (bs src), .slice A len cap] (RB true))) (HAP : Hid (Always w 13 #[.string (bs src), .slice A len cap] (R2 (.string (bs dst)) (.int .i64 er)))) (_he : (er == 0) = false) (he' : (er != 0) = true) : Calls Try.prog 7 #[.string (bs src), .slice A len cap, .int .i64 a] w (RB true w) := by
  go_enter Try.func7, Try.ntmps7
  go_wp2_with fail
  refine (HFEW.out w (Gr.refl w)).mono ?_
  rintro e w1 ⟨rfl, hb1⟩
  go_wp2_with fail
  refine (HAP.out _ hb1).mono ?_
  rintro e w2 ⟨rfl, hb2⟩
  have hb12 := hb1.trans hb2
  go_wp2_with fail
  refine (livesP_any _).mono ?_
  rintro e w9 ⟨rfl, hb9⟩
  go_wp2_with fail
  go_ret
  exact ⟨rfl, (by with_reducible (repeat (first | exact Gr.refl _ | assumption | apply Gr.alloc | apply Gr.drew | apply Gr.drewN | refine Gr.setCell ?_ (by first | (simp; done) | (simp; omega)) _ | refine Gr.trans ?_ (by assumption))))⟩
set_option maxRecDepth 100000 in
set_option maxHeartbeats 4000000 in
theorem moves_big (src dst : List UInt8) (A : Option Addr) (len cap : Nat) (a : Int) (w : World) (HFEW : Hid (Always w 10 #[.string (bs src), .slice A len cap] (RB true))) (HAP : Hid (Always w 13 #[.string (bs src), .slice A len cap] (R2 (.string (bs dst)) (.int .i64 0)))) (ha : 1000000 < a) : Calls Try.prog 7 #[.string (bs src), .slice A len cap, .int .i64 a] w (RB true w) := by
  go_enter Try.func7, Try.ntmps7
  go_wp2_with fail
  refine (HFEW.out w (Gr.refl w)).mono ?_
  rintro e w1 ⟨rfl, hb1⟩
  go_wp2_with fail
  refine (HAP.out _ hb1).mono ?_
  rintro e w2 ⟨rfl, hb2⟩
  have hb12 := hb1.trans hb2
  go_wp2_with fail
  refine (livesP_any _).mono ?_
  rintro e w9 ⟨rfl, hb9⟩
  go_wp2_with fail
  go_ret
  exact ⟨rfl, (by with_reducible (repeat (first | exact Gr.refl _ | assumption | apply Gr.alloc | apply Gr.drew | apply Gr.drewN | refine Gr.setCell ?_ (by first | (simp; done) | (simp; omega)) _ | refine Gr.trans ?_ (by assumption))))⟩
set_option maxRecDepth 100000 in
set_option maxHeartbeats 4000000 in
theorem moves_no (src dst : List UInt8) (A : Option Addr) (len cap : Nat) (a k : Int) (w : World) (HFEW : Hid (Always w 10 #[.string (bs src), .slice A len cap] (RB true))) (HAP : Hid (Always w 13 #[.string (bs src), .slice A len cap] (R2 (.string (bs dst)) (.int .i64 0)))) (HM1 : Hid (Always w 25 #[.slice A len cap, .int .i64 a] (RIB (k, false)))) (HM2 : Hid (Always w 26 #[.slice A len cap, .int .i64 a] (RIB (k, false)))) (ha : a ≤ 1000000) : Calls Try.prog 7 #[.string (bs src), .slice A len cap, .int .i64 a] w (RB true w) := by
  go_enter Try.func7, Try.ntmps7
  go_wp2_with fail
  refine (HFEW.out w (Gr.refl w)).mono ?_
  rintro e w1 ⟨rfl, hb1⟩
  go_wp2_with fail
  refine (HAP.out _ hb1).mono ?_
  rintro e w2 ⟨rfl, hb2⟩
  have hb12 := hb1.trans hb2
  go_wp2_with fail
  refine (HM1.out _ hb12).mono ?_
  rintro e w3 ⟨rfl, hb3⟩
  have hb13 := hb12.trans hb3
  go_wp2_with fail
  refine (HM2.out _ hb13).mono ?_
  rintro e w4 ⟨rfl, hb4⟩
  go_wp2_with fail
  clear HFEW HAP HM1 HM2
  refine wp_region_quiet_below (by kernel_rfl) (by kernel_rfl) ?_
  repeat (go_big_quiet_step ((go_at_call 11; exact Calls.regrown_of (livesP_any _))))
  refine wpQuiet_nil ?_
  intro wq9 hwq9
  have hbq9 := gr_regrown hwq9
  clear hwq9
  all_goals go_wp2_with fail
  all_goals go_ret
  all_goals exact ⟨rfl, (by with_reducible (repeat (first | exact Gr.refl _ | assumption | apply Gr.alloc | apply Gr.drew | apply Gr.drewN | refine Gr.setCell ?_ (by first | (simp; done) | (simp; omega)) _ | refine Gr.trans ?_ (by assumption))))⟩
set_option maxRecDepth 100000 in
set_option maxHeartbeats 4000000 in
theorem moves_past (src dst : List UInt8) (A : Option Addr) (len cap : Nat) (a k : Int) (w : World) (HFEW : Hid (Always w 10 #[.string (bs src), .slice A len cap] (RB true))) (HAP : Hid (Always w 13 #[.string (bs src), .slice A len cap] (R2 (.string (bs dst)) (.int .i64 0)))) (HM1 : Hid (Always w 25 #[.slice A len cap, .int .i64 a] (RIB (k, true)))) (HM2 : Hid (Always w 26 #[.slice A len cap, .int .i64 a] (RIB (k, true)))) (ha : a ≤ 1000000) (hp : src.length ≤ a) (_hs : src.length ≤ 300) : Calls Try.prog 7 #[.string (bs src), .slice A len cap, .int .i64 a] w (RB true w) := by
  have hss : ((bs src).size : Int) = src.length := rfl
  go_enter Try.func7, Try.ntmps7
  go_wp2_with fail
  refine (HFEW.out w (Gr.refl w)).mono ?_
  rintro e w1 ⟨rfl, hb1⟩
  go_wp2_with fail
  refine (HAP.out _ hb1).mono ?_
  rintro e w2 ⟨rfl, hb2⟩
  have hb12 := hb1.trans hb2
  go_wp2_with fail
  refine (HM1.out _ hb12).mono ?_
  rintro e w3 ⟨rfl, hb3⟩
  have hb13 := hb12.trans hb3
  go_wp2_with fail
  refine (HM2.out _ hb13).mono ?_
  rintro e w4 ⟨rfl, hb4⟩
  go_wp2_with fail
  clear HFEW HAP HM1 HM2
  have t1 : decide (((bs src).size : Int) ≤ a) = true := decide_eq_true (by omega)
  refine wp_region_quiet_below (by kernel_rfl) (by kernel_rfl) ?_
  repeat (go_big_quiet_step ((go_at_call 11; exact Calls.regrown_of (livesP_any _))))
  refine wpQuiet_nil ?_
  intro wq9 hwq9
  have hbq9 := gr_regrown hwq9
  clear hwq9
  all_goals go_wp2_with fail
  all_goals go_ret
  all_goals exact ⟨rfl, (by with_reducible (repeat (first | exact Gr.refl _ | assumption | apply Gr.alloc | apply Gr.drew | apply Gr.drewN | refine Gr.setCell ?_ (by first | (simp; done) | (simp; omega)) _ | refine Gr.trans ?_ (by assumption))))⟩
set_option maxRecDepth 100000 in
set_option maxHeartbeats 4000000 in
theorem moves_in (src dst : List UInt8) (A : Option Addr) (len cap : Nat) (a k : Nat) (w : World) (HFEW : Hid (Always w 10 #[.string (bs src), .slice A len cap] (RB true))) (HAP : Hid (Always w 13 #[.string (bs src), .slice A len cap] (R2 (.string (bs dst)) (.int .i64 0)))) (HM1 : Hid (Always w 25 #[.slice A len cap, .int .i64 a] (RIB (k, true)))) (HM2 : Hid (Always w 26 #[.slice A len cap, .int .i64 a] (RIB (k, true)))) (ha : a ≤ 1000000) (q2 : a < (bs src).size) (q1 : k < (bs dst).size) (_hs : (bs src).size ≤ 300) (_hd : (bs dst).size ≤ 1048576) (HB : Hid ((bs dst)[k] = (bs src)[a])) : Calls Try.prog 7 #[.string (bs src), .slice A len cap, .int .i64 a] w (RB true w) := by
  go_enter Try.func7, Try.ntmps7
  go_wp2_with fail
  refine (HFEW.out w (Gr.refl w)).mono ?_
  rintro e w1 ⟨rfl, hb1⟩
  go_wp2_with fail
  refine (HAP.out _ hb1).mono ?_
  rintro e w2 ⟨rfl, hb2⟩
  have hb12 := hb1.trans hb2
  go_wp2_with fail
  refine (HM1.out _ hb12).mono ?_
  rintro e w3 ⟨rfl, hb3⟩
  have hb13 := hb12.trans hb3
  go_wp2_with fail
  refine (HM2.out _ hb13).mono ?_
  rintro e w4 ⟨rfl, hb4⟩
  go_wp2_with fail
  clear HFEW HAP HM1 HM2
  have hbyte := HB.out
  have j0 : (0 : Int) ≤ (k : Int) := by omega
  have j1 : (k : Int) < ((bs dst).size : Int) := by omega
  have j2 : (0 : Int) ≤ (a : Int) := by omega
  have j3 : (a : Int) < ((bs src).size : Int) := by omega
  have t1 : decide (((bs src).size : Int) ≤ (a : Int)) = false := decide_eq_false (by omega)
  have t1n : decide ((bs src).size ≤ a) = false := decide_eq_false (by omega)
  have t2 : decide (0 ≤ (k : Int)) = true := decide_eq_true (by omega)
  have t3 : decide ((k : Int) < ((bs dst).size : Int)) = true := decide_eq_true (by omega)
  have t3n : decide (k < (bs dst).size) = true := decide_eq_true q1
  refine wp_region_quiet_below (by kernel_rfl) (by kernel_rfl) ?_
  repeat (go_big_quiet_step ((go_at_call 11; exact Calls.regrown_of (livesP_any _))))
  refine wpQuiet_nil ?_
  intro wq9 hwq9
  have hbq9 := gr_regrown hwq9
  clear hwq9
  all_goals go_wp2_with fail
  all_goals go_ret
  all_goals exact ⟨rfl, (by with_reducible (repeat (first | exact Gr.refl _ | assumption | apply Gr.alloc | apply Gr.drew | apply Gr.drewN | refine Gr.setCell ?_ (by first | (simp; done) | (simp; omega)) _ | refine Gr.trans ?_ (by assumption))))⟩
set_option maxRecDepth 100000 in
set_option maxHeartbeats 4000000 in
theorem spanMoves_any (src : List UInt8) (A : Option Addr) (len cap : Nat) (es : List ED) (a : Int) (w : World) (he : EditsAt w A len es) (hlen : len ≤ maxLen) : Calls Try.prog 7 #[.string (bs src), .slice A len cap, .int .i64 a] w (RB true w) := by
  have hl : es.length = len := he.1
  cases hfew : fewB src es with
  | false => exact moves_few src A len cap a w (Lib.hid fun w' hg => by have := fewP_any src A len cap es w' (he.keep hg) hlen; rw [hfew] at this; exact this)
  | true =>
    have hF : Hid (Always w 10 #[.string (bs src), .slice A len cap] (RB true)) := Lib.hid fun w' hg => by have := fewP_any src A len cap es w' (he.keep hg) hlen; rw [hfew] at this; exact this
    have hl60 := (few_facts hfew).2.1
    have hl5 : len ≤ 5000 := by omega
    by_cases hc : checkF es src.length = 0
    · obtain ⟨ns, rfl, hok, h1, h2, h3⟩ := few_ok hfew hc
      have hdl := appF_delta src ns 0 hok (Nat.zero_le _)
      have hdb := delta_le src.length ns 0 hok (Nat.zero_le _)
      have hTb : (appF src 0 ns).length ≤ 1048576 := by omega
      have hA : Hid (Always w 13 #[.string (bs src), .slice A len cap] (R2 (.string (bs (appF src 0 ns))) (.int .i64 0))) := Lib.hid fun w' hg => applyRP_ok src A len cap ns w' (he.keep hg) hl5 hc hok (by omega)
      by_cases hbig : 1000000 < a
      · exact moves_big src _ A len cap a w hF hA hbig
      · by_cases h0 : a < 0
        · exact moves_no src _ A len cap a 0 w hF hA (Lib.hid fun w' _ => moveP_neg A len cap a w' h0) (Lib.hid fun w' _ => moveRP_neg A len cap a w' h0) (by omega)
        · obtain ⟨a, rfl⟩ := Int.eq_ofNat_of_zero_le (show 0 ≤ a by omega)
          have h0' := hbig
          have hm1 := fun w' hg => moveP_any src.length A len cap ns a w' (he.keep hg) hl5 hok (by omega) (by omega) (by omega)
          have hm2 := fun w' hg => moveRP_any src.length A len cap ns a w' (he.keep hg) hl5 hok (by omega) (by omega) (by omega)
          have hm3 := move_found src ns 0 [] a hok (Nat.zero_le _) (Nat.zero_le _)
          have hz : ((([] : List UInt8).length : Nat) : Int) - ((0 : Nat) : Int) = 0 := rfl
          simp only [hz, List.nil_append] at hm3
          generalize moveL (ns.map EN.ed) a 0 = p at hm1 hm2 hm3
          obtain ⟨k, is⟩ := p
          cases is with
          | false => exact moves_no src _ A len cap a k w hF hA (Lib.hid hm1) (Lib.hid hm2) (by omega)
          | true =>
            by_cases hlt : a < src.length
            · obtain ⟨k0, k1, k2⟩ := hm3 hlt rfl
              obtain ⟨k, rfl⟩ := Int.eq_ofNat_of_zero_le k0
              have q1 : k < (bs (appF src 0 ns)).size := by show k < (appF src 0 ns).length; omega
              have q2 : a < (bs src).size := hlt
              refine moves_in src _ A len cap a k w hF hA (Lib.hid hm1) (Lib.hid hm2) (by omega) q2 q1 h1 hTb (Lib.hid ?_)
              have h5 := k2
              simp only [Int.toNat_natCast] at h5
              rw [← bs_at _ _ q1, ← bs_at _ _ q2] at h5
              exact Option.some.inj h5
            · exact moves_past src _ A len cap a k w hF hA (Lib.hid hm1) (Lib.hid hm2) (by omega) (by omega) h1
    · have hA : Hid (Always w 13 #[.string (bs src), .slice A len cap] (R2 (.string (bs [])) (.int .i64 (checkF es src.length)))) := Lib.hid fun w' hg => applyRP_bad src A len cap es w' (he.keep hg) hl5 hc
      exact moves_bad src [] A len cap a _ w hF hA (by simpa using hc) (by simpa using hc)

namespace SpanMoves
set_option maxRecDepth 100000 in
theorem lifted (os : Os) (started : os.Started) (H : Type) (enc : TypeId × Value → H) :
    ReturnsInHanded {} Try.checked os 7 .any (Rows.spanMovesSpec.pre6 enc Try.prog Try.f7 Rows.spanMovesRow.domain false) (Rows.spanMovesSpec.post enc Try.prog Try.f7 false true false false) := by
  refine law_lifted (C := Try.checked) (tb := 4) own started (by kernel_rfl) Try.func7 laidOut rfl rfl Try.underlying4 (by kernel_rfl) ?_
    (ChangeSpec.witness6 (enc := enc) (C := Try.checked) false ⟨#[], #[.string ⟨#[]⟩, .slice none 0 0, .int .i64 0], []⟩ 8 (by kernel_rfl) (by kernel_rfl) (by kernel_rfl) (by kernel_rfl)) ?_
  · intro ds hl
    match ds, hl with
    | [_, _, _], _ => rfl
  · intro W base args ds ps hval0 hA0 hlt
    have hval : ∀ (j : Nat) t v, Try.f7.params[j]? = some t → args[j]? = some v → Value.okWide Try.prog W .any base t v := hval0
    have hA : DataW.TrodAll enc Try.prog W 0 (fun _ => true) true Try.f7.params.toList args.toList ds ps := hA0
    rw [Try.params7] at hA hval
    obtain ⟨v0, v1, v2, d0, d1, d2, p0, p1, p2, rfl, rfl, rfl, h0, h1, h2⟩ := trodAll_three hA
    obtain ⟨v0', rfl⟩ := okWide_string Try.underlying9 (hval 0 9 v0 rfl rfl)
    obtain ⟨mv0, hrv0⟩ := Rd.of_trod h0
    obtain ⟨v0q, hcs, hzv0⟩ := Rd.string Try.underlying9 hrv0
    simp only [Value.cells, List.cons.injEq, Value.string.injEq, and_true] at hcs
    subst hcs
    obtain ⟨sv0, rfl⟩ : ∃ l, v0' = bs l := ⟨v0'.data.toList, rfl⟩
    obtain ⟨Av1, lenv1, capv1, rfl⟩ := okWide_slice Try.underlying22 (hval 1 22 v1 rfl rfl)
    obtain ⟨mv1, hrv1⟩ := Rd.of_trod h1
    obtain ⟨A', len', cap', esv1, hcs, hlcv1, hcmv1, hEv1⟩ := rd_edits hrv1
    simp only [Value.cells, List.cons.injEq, Value.slice.injEq, and_true] at hcs
    obtain ⟨rfl, rfl, rfl⟩ := hcs
    obtain ⟨k, rfl, rfl, rfl, wk⟩ := open_int Try.underlying3 (hval 2 3 v2 rfl rfl) h2
    exact spanMoves_any sv0 Av1 lenv1 capv1 esv1 k W hEv1 (by omega)

theorem proved : Rows.SpanMovesSaid :=
  OpenClaim.holds_of_wide 7 Try.f7 rfl rfl rfl rfl rfl rfl rfl ⟨rfl, rfl, rfl, rfl, rfl⟩ rfl rfl rfl rfl rfl (by kernel_rfl) Try.func7 (by kernel_rfl)
    (of_decide_eq_true (by kernel_rfl)) (by unfold Func.isWrapper; first | (rw [if_pos (by decide +kernel)]; kernel_rfl) | (rw [if_neg (by decide +kernel)]; exact ⟨rfl, rfl⟩))
    (fun os started H enc _ => lifted os started H enc)
end SpanMoves
end Go.Proofs.Ytapginodpikijaa
