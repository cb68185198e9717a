/- LimitValues returns true for every input: the nesting and the nodes of a value are within limits, or not, as the reference says. No condition. -/
import Derived.Test.YtlfhiolngpoamaaValValue
import Derived.Test.YtlfhiolngpoamaaValLight
import Derived.Test.YtlfhiolngpoamaaValOpen
import Derived.Test.YtlfhiolngpoamaaLimAwake
namespace Go.Proofs.Ytlfhiolngpoamaa
attribute [local go_sem ↓] Go.wp_at_zero Go.wp_at_succ
open Go.ChangeShapes Go.WideShapes Go.ChangeAt Go.RowKit

set_option maxRecDepth 100000 in
set_option maxHeartbeats 8000000 in
theorem limitValues_big (d n b a x : Int) (m : Nat) (v : VD) (t : VT) (w : World) (hr : VRep m w v t) (Z : Int) (hZ : lightF t 60 400 = Z) (hneg : Z < 0) :
    Calls Try.prog 9 #[.agg #[.int .i64 d, .int .i64 n, .int .i64 b, .int .i64 a, .int .i64 x], .agg #[.int .i64 v.k, .bool v.b1, .bool v.b2, .string v.s1, .int .i64 v.i1, .int .i64 v.i2, .int .i64 v.i3, .int .i64 v.i4, .int .i64 v.i5, .string v.s2, .slice v.bA v.bn v.bc, .slice v.lA v.ln v.lc, .slice v.fA v.fn v.fc]] w (RB true w) := by
  have HR := Lib.hid hr
  clear hr
  go_enter Try.func9, Try.ntmps9
  go_wp2_with fail
  refine (light_any m v t 60 400 _ (VRep.keep ((Gr.refl _).alloc _) _ _ _ (VRep.keep ((Gr.refl _).alloc _) _ _ _ HR.out)) (by omega) (by omega)).mono ?_
  rw [hZ]
  rintro e w1 ⟨rfl, hb1⟩
  obtain ⟨hc1, hf1, hs1⟩ := Gr.cells hb1
  have c1_0 := fun o => hc1 (w.heap.size) o (by first | assumption | (simp; done) | (simp; omega))
  have f1_0 := fun o => hf1 (w.heap.size) o (by first | assumption | (simp; done) | (simp; omega))
  have c1_1 := fun o => hc1 (w.heap.size + 1) o (by first | assumption | (simp; done) | (simp; omega))
  have f1_1 := fun o => hf1 (w.heap.size + 1) o (by first | assumption | (simp; done) | (simp; omega))
  clear hc1 hf1
  try simp at hs1
  have l1_0 : w.heap.size < w1.heap.size := by omega
  have l1_1 : w.heap.size + 1 < w1.heap.size := by omega
  go_wp2_with fail
  refine (awake_any _).mono ?_
  rintro e w2 ⟨rfl, hb2⟩
  obtain ⟨hc2, hf2, hs2⟩ := Gr.cells hb2
  have c2_0 := fun o => hc2 (w.heap.size) o (by first | assumption | (simp; done) | (simp; omega))
  have f2_0 := fun o => hf2 (w.heap.size) o (by first | assumption | (simp; done) | (simp; omega))
  have c2_1 := fun o => hc2 (w.heap.size + 1) o (by first | assumption | (simp; done) | (simp; omega))
  have f2_1 := fun o => hf2 (w.heap.size + 1) o (by first | assumption | (simp; done) | (simp; omega))
  clear hc2 hf2
  try simp at hs2
  have l2_0 : w.heap.size < w2.heap.size := by omega
  have l2_1 : w.heap.size + 1 < w2.heap.size := by omega
  go_wp2_with fail
  go_ret
  exact ⟨rfl, (by with_reducible (repeat (first | exact Gr.refl _ | assumption | apply Gr.alloc | apply Gr.drew | apply Gr.drewN | refine Gr.setCell ?_ (by first | (simp; done) | (simp; omega)) _ | refine Gr.trans ?_ (by assumption))))⟩

set_option maxRecDepth 100000 in
set_option maxHeartbeats 8000000 in
theorem limitValues_ok (d n b a x : Int) (m : Nat) (v : VD) (t : VT) (w : World) (hr : VRep m w v t) (Z : Int) (hZ : lightF t 60 400 = Z) (hpos : 0 ≤ Z) :
    Calls Try.prog 9 #[.agg #[.int .i64 d, .int .i64 n, .int .i64 b, .int .i64 a, .int .i64 x], .agg #[.int .i64 v.k, .bool v.b1, .bool v.b2, .string v.s1, .int .i64 v.i1, .int .i64 v.i2, .int .i64 v.i3, .int .i64 v.i4, .int .i64 v.i5, .string v.s2, .slice v.bA v.bn v.bc, .slice v.lA v.ln v.lc, .slice v.fA v.fn v.fc]] w (RB true w) := by
  have hs : sizeF t ≤ 500 := by have := lightF_size t 60 400 (by omega); omega
  have HS := Lib.hid hs
  clear hs
  generalize hE : valueF d n b a x t = E
  have HE := Lib.hid hE
  clear hE
  have HR := Lib.hid hr
  clear hr
  go_enter Try.func9, Try.ntmps9
  go_wp2_with fail
  refine (light_any m v t 60 400 _ (VRep.keep ((Gr.refl _).alloc _) _ _ _ (VRep.keep ((Gr.refl _).alloc _) _ _ _ HR.out)) (by omega) (by omega)).mono ?_
  rw [hZ]
  rintro e w1 ⟨rfl, hb1⟩
  obtain ⟨hc1, hf1, hs1⟩ := Gr.cells hb1
  have c1_0 := fun o => hc1 (w.heap.size) o (by first | assumption | (simp; done) | (simp; omega))
  have f1_0 := fun o => hf1 (w.heap.size) o (by first | assumption | (simp; done) | (simp; omega))
  have c1_1 := fun o => hc1 (w.heap.size + 1) o (by first | assumption | (simp; done) | (simp; omega))
  have f1_1 := fun o => hf1 (w.heap.size + 1) o (by first | assumption | (simp; done) | (simp; omega))
  clear hc1 hf1
  try simp at hs1
  have l1_0 : w.heap.size < w1.heap.size := by omega
  have l1_1 : w.heap.size + 1 < w1.heap.size := by omega
  go_wp2_with fail
  go_region_held3 (fun w' => w'.cell? ⟨w.heap.size, 0, none⟩ = some (.int .i64 d) ∧ w'.cell? ⟨w.heap.size, 1, none⟩ = some (.int .i64 n) ∧ w'.cell? ⟨w.heap.size, 2, none⟩ = some (.int .i64 b) ∧ w'.cell? ⟨w.heap.size, 3, none⟩ = some (.int .i64 a) ∧ w'.cell? ⟨w.heap.size, 4, none⟩ = some (.int .i64 x) ∧ w'.cell? ⟨w.heap.size + 1, 0, none⟩ = some (.int .i64 v.k) ∧ w'.cell? ⟨w.heap.size + 1, 1, none⟩ = some (.bool v.b1) ∧ w'.cell? ⟨w.heap.size + 1, 2, none⟩ = some (.bool v.b2) ∧ w'.cell? ⟨w.heap.size + 1, 3, none⟩ = some (.string v.s1) ∧ w'.cell? ⟨w.heap.size + 1, 4, none⟩ = some (.int .i64 v.i1) ∧ w'.cell? ⟨w.heap.size + 1, 5, none⟩ = some (.int .i64 v.i2) ∧ w'.cell? ⟨w.heap.size + 1, 6, none⟩ = some (.int .i64 v.i3) ∧ w'.cell? ⟨w.heap.size + 1, 7, none⟩ = some (.int .i64 v.i4) ∧ w'.cell? ⟨w.heap.size + 1, 8, none⟩ = some (.int .i64 v.i5) ∧ w'.cell? ⟨w.heap.size + 1, 9, none⟩ = some (.string v.s2) ∧ w'.cell? ⟨w.heap.size + 1, 10, none⟩ = some (.slice v.bA v.bn v.bc) ∧ w'.cell? ⟨w.heap.size + 1, 11, none⟩ = some (.slice v.lA v.ln v.lc) ∧ w'.cell? ⟨w.heap.size + 1, 12, none⟩ = some (.slice v.fA v.fn v.fc))
    (go_keep)
    (first | (go_at_call 29; refine (valueP_any d n b a x m v t _ (VRep.keep (Gr.refl _).drew _ _ _ (VRep.keep hb1 _ _ _ (VRep.keep ((Gr.refl _).alloc _) _ _ _ (VRep.keep ((Gr.refl _).alloc _) _ _ _ HR.out)))) HS.out).mono ?_; rw [HE.out]; rintro e w2 ⟨rfl, hb2⟩; obtain ⟨hc2, _, _⟩ := Gr.cells hb2; have c2_0 := fun o => hc2 (w.heap.size) o (by first | assumption | (simp; done) | (simp; omega)); have c2_1 := fun o => hc2 (w.heap.size + 1) o (by first | assumption | (simp; done) | (simp; omega)); clear hc2; have l2_0 : w.heap.size < w2.heap.size := Gr.lt hb2 (by first | assumption | (simp; done) | (simp; omega)); have l2_1 : w.heap.size + 1 < w2.heap.size := Gr.lt hb2 (by first | assumption | (simp; done) | (simp; omega))) | (go_at_call 30; refine (valueR_any d n b a x m v t _ (VRep.keep hb2 _ _ _ (VRep.keep (Gr.refl _).drew _ _ _ (VRep.keep hb1 _ _ _ (VRep.keep ((Gr.refl _).alloc _) _ _ _ (VRep.keep ((Gr.refl _).alloc _) _ _ _ HR.out))))) HS.out).mono ?_; rw [HE.out]; rintro e w3 ⟨rfl, hb3⟩; obtain ⟨hc3, _, _⟩ := Gr.cells hb3; have c3_0 := fun o => hc3 (w.heap.size) o (by first | assumption | (simp; done) | (simp; omega)); have c3_1 := fun o => hc3 (w.heap.size + 1) o (by first | assumption | (simp; done) | (simp; omega)); clear hc3; have l3_0 : w.heap.size < w3.heap.size := Gr.lt hb3 (by first | assumption | (simp; done) | (simp; omega)); have l3_1 : w.heap.size + 1 < w3.heap.size := Gr.lt hb3 (by first | assumption | (simp; done) | (simp; omega))) | (go_at_call 13; refine (awake_any _).mono ?_; rintro e w4 ⟨rfl, hb4⟩; obtain ⟨hc4, _, _⟩ := Gr.cells hb4; have c4_0 := fun o => hc4 (w.heap.size) o (by first | assumption | (simp; done) | (simp; omega)); have c4_1 := fun o => hc4 (w.heap.size + 1) o (by first | assumption | (simp; done) | (simp; omega)); clear hc4; have l4_0 : w.heap.size < w4.heap.size := Gr.lt hb4 (by first | assumption | (simp; done) | (simp; omega)); have l4_1 : w.heap.size + 1 < w4.heap.size := Gr.lt hb4 (by first | assumption | (simp; done) | (simp; omega))))
  all_goals go_wp2_with fail
  all_goals go_ret
  all_goals exact ⟨rfl, (by with_reducible (repeat (first | exact Gr.refl _ | assumption | apply Gr.alloc | apply Gr.drew | apply Gr.drewN | refine Gr.setCell ?_ (by first | (simp; done) | (simp; omega)) _ | refine Gr.trans ?_ (by assumption))))⟩

theorem limitValues_any (d n b a x : Int) (m : Nat) (v : VD) (t : VT) (w : World) (hr : VRep m w v t) : Calls Try.prog 9 #[.agg #[.int .i64 d, .int .i64 n, .int .i64 b, .int .i64 a, .int .i64 x], .agg #[.int .i64 v.k, .bool v.b1, .bool v.b2, .string v.s1, .int .i64 v.i1, .int .i64 v.i2, .int .i64 v.i3, .int .i64 v.i4, .int .i64 v.i5, .string v.s2, .slice v.bA v.bn v.bc, .slice v.lA v.ln v.lc, .slice v.fA v.fn v.fc]] w (RB true w) := by
  rcases Int.lt_or_le (lightF t 60 400) 0 with h | h
  · exact limitValues_big d n b a x m v t w hr _ rfl h
  · exact limitValues_ok d n b a x m v t w hr _ rfl h

namespace LimitValues
set_option maxRecDepth 100000 in
theorem lifted (os : Os) (started : os.Started) (H : Type) (enc : TypeId × Value → H) :
    ReturnsInHanded {} Try.checked os 9 .any (Rows.limitValuesSpec.pre6 enc Try.prog Try.f9 Rows.limitValuesRow.domain false) (Rows.limitValuesSpec.post enc Try.prog Try.f9 false true false false) := by
  refine law_lifted (C := Try.checked) (tb := 4) own started (by kernel_rfl) Try.func9 laidOut rfl rfl Try.underlying4 (by kernel_rfl) ?_
    (ChangeSpec.witness6 (enc := enc) (C := Try.checked) false ⟨#[], #[.agg #[.int .i64 0, .int .i64 0, .int .i64 0, .int .i64 0, .int .i64 0], .agg #[.int .i64 0, .bool false, .bool false, .string ⟨#[]⟩, .int .i64 0, .int .i64 0, .int .i64 0, .int .i64 0, .int .i64 0, .string ⟨#[]⟩, .slice none 0 0, .slice none 0 0, .slice none 0 0]], []⟩ 8 (by kernel_rfl) (by kernel_rfl) (by kernel_rfl) (by kernel_rfl)) ?_
  · intro ds hl
    match ds, hl with
    | [_, _], _ => rfl
  · intro W base args ds ps hval0 hA0 hlt
    have hval : ∀ (j : Nat) t v, Try.f9.params[j]? = some t → args[j]? = some v → Value.okWide Try.prog W .any base t v := hval0
    have hA : DataW.TrodAll enc Try.prog W 0 (fun _ => true) true Try.f9.params.toList args.toList ds ps := hA0
    rw [Try.params9] at hA hval
    obtain ⟨v0, v1, d0, d1, p0, p1, rfl, rfl, rfl, h0, h1⟩ := trodAll_two hA
    obtain ⟨d, n, b, a, x, rfl, wL⟩ := open_int5 Try.underlying23 Try.underlying3 (by kernel_rfl) (hval 0 23 v0 rfl rfl) h0
    obtain ⟨e, t, m, rfl, hrep⟩ := open_value (hval 1 50 v1 rfl rfl) h1
    exact limitValues_any d n b a x m e t W hrep

theorem proved : Rows.LimitValuesSaid :=
  OpenClaim.holds_of_wide 9 Try.f9 rfl rfl rfl rfl rfl rfl rfl ⟨rfl, rfl, rfl, rfl, rfl⟩ rfl rfl rfl rfl rfl (by kernel_rfl) Try.func9 (by kernel_rfl)
    (of_decide_eq_true (by kernel_rfl)) (by unfold Func.isWrapper; first | (rw [if_pos (by decide +kernel)]; kernel_rfl) | (rw [if_neg (by decide +kernel)]; exact ⟨rfl, rfl⟩))
    (fun os started H enc _ => lifted os started H enc)
end LimitValues
end Go.Proofs.Ytlfhiolngpoamaa
