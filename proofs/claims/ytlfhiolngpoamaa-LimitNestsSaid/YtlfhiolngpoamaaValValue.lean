/- limit.Value and its reference: the error that a value has with limits. -/
import Derived.Test.YtlfhiolngpoamaaValRec
import Derived.Test.YtlfhiolngpoamaaLimBase
import Derived.Deep.RegionHeld3
import Derived.Deep.DrawnRows
namespace Go.Proofs.Ytlfhiolngpoamaa
attribute [local go_sem ↓] Go.wp_at_zero Go.wp_at_succ
open Go.ChangeShapes Go.WideShapes Go.ChangeAt Go.RowKit

def valueF (d n b a x : Int) (t : VT) : Int := if validB d n b a x = false then 1 else if deepF t d = true then 9 else if n < (nodesF t : Int) then 10 else 0

set_option maxRecDepth 100000 in
set_option maxHeartbeats 4000000 in
theorem valueP_nv (d n b a x : Int) (m : Nat) (v : VD) (t : VT) (w : World) (hr : VRep m w v t) (hs : sizeF t ≤ 500) (hv : validB d n b a x = false) :
    Calls Try.prog 29 #[.agg #[.int .i64 d, .int .i64 n, .int .i64 b, .int .i64 a, .int .i64 x], .agg #[.int .i64 v.k, .bool v.b1, .bool v.b2, .string v.s1, .int .i64 v.i1, .int .i64 v.i2, .int .i64 v.i3, .int .i64 v.i4, .int .i64 v.i5, .string v.s2, .slice v.bA v.bn v.bc, .slice v.lA v.ln v.lc, .slice v.fA v.fn v.fc]] w (RI (valueF d n b a x t) w) := by
  have hres : valueF d n b a x t = 1 := by unfold valueF; rw [if_pos hv]
  rw [hres]; clear hres
  go_enter Try.func29, Try.ntmps29
  go_wp2_with fail
  refine (validP_any _ _ _ _ _ _).mono ?_
  rintro e w1 ⟨rfl, hb1⟩
  obtain ⟨hc1, hf1, hs1⟩ := Gr.cells hb1
  try simp at hs1
  have l1_0 : w.heap.size < w1.heap.size := by omega
  have l1_1 : w.heap.size + 1 < w1.heap.size := by omega
  go_wp2_with fail
  go_ret
  exact ⟨rfl, (by with_reducible (repeat (first | exact Gr.refl _ | assumption | apply Gr.alloc | apply Gr.drew | apply Gr.drewN | refine Gr.setCell ?_ (by first | (simp; done) | (simp; omega)) _ | refine Gr.trans ?_ (by assumption))))⟩

set_option maxRecDepth 100000 in
set_option maxHeartbeats 4000000 in
theorem valueP_dp (d n b a x : Int) (m : Nat) (v : VD) (t : VT) (w : World) (hr : VRep m w v t) (hs : sizeF t ≤ 500) (hv : validB d n b a x = true) (hd : deepF t d = true) :
    Calls Try.prog 29 #[.agg #[.int .i64 d, .int .i64 n, .int .i64 b, .int .i64 a, .int .i64 x], .agg #[.int .i64 v.k, .bool v.b1, .bool v.b2, .string v.s1, .int .i64 v.i1, .int .i64 v.i2, .int .i64 v.i3, .int .i64 v.i4, .int .i64 v.i5, .string v.s2, .slice v.bA v.bn v.bc, .slice v.lA v.ln v.lc, .slice v.fA v.fn v.fc]] w (RI (valueF d n b a x t) w) := by
  have hres : valueF d n b a x t = 9 := by unfold valueF; rw [if_neg (by simp [hv]), if_pos hd]
  rw [hres]; clear hres
  have hvf : 1 ≤ d ∧ d ≤ 48 ∧ 1 ≤ n ∧ n ≤ 65536 := by have h := hv; simp only [validB, decide_eq_true_eq] at h; omega
  have HR := Lib.hid hr
  have HS := Lib.hid hs
  clear hr hs
  go_enter Try.func29, Try.ntmps29
  go_wp2_with fail
  refine (validP_any _ _ _ _ _ _).mono ?_
  rintro e w1 ⟨rfl, hb1⟩
  obtain ⟨hc1, hf1, hs1⟩ := Gr.cells hb1
  have c1_0 := fun o => hc1 (w.heap.size) o (by first | assumption | (simp; done) | (simp; omega))
  have f1_0 := fun o => hf1 (w.heap.size) o (by first | assumption | (simp; done) | (simp; omega))
  have c1_1 := fun o => hc1 (w.heap.size + 1) o (by first | assumption | (simp; done) | (simp; omega))
  have f1_1 := fun o => hf1 (w.heap.size + 1) o (by first | assumption | (simp; done) | (simp; omega))
  clear hc1 hf1
  try simp at hs1
  have l1_0 : w.heap.size < w1.heap.size := by omega
  have l1_1 : w.heap.size + 1 < w1.heap.size := by omega
  go_wp2_with fail
  refine (deepP_any m v t d _ ((VRep.keep ((Gr.refl _).alloc _) _ _ _ (VRep.keep ((Gr.refl _).alloc _) _ _ _ HR.out)).keep hb1) HS.out (by omega)).mono ?_
  rintro e w2 ⟨rfl, hb2⟩
  obtain ⟨hc2, hf2, hs2⟩ := Gr.cells hb2
  have c2_0 := fun o => hc2 (w.heap.size) o (by first | assumption | (simp; done) | (simp; omega))
  have f2_0 := fun o => hf2 (w.heap.size) o (by first | assumption | (simp; done) | (simp; omega))
  have c2_1 := fun o => hc2 (w.heap.size + 1) o (by first | assumption | (simp; done) | (simp; omega))
  have f2_1 := fun o => hf2 (w.heap.size + 1) o (by first | assumption | (simp; done) | (simp; omega))
  clear hc2 hf2
  try simp at hs2
  have l2_0 : w.heap.size < w2.heap.size := by omega
  have l2_1 : w.heap.size + 1 < w2.heap.size := by omega
  go_wp2_with fail
  go_ret
  exact ⟨rfl, (by with_reducible (repeat (first | exact Gr.refl _ | assumption | apply Gr.alloc | apply Gr.drew | apply Gr.drewN | refine Gr.setCell ?_ (by first | (simp; done) | (simp; omega)) _ | refine Gr.trans ?_ (by assumption))))⟩

set_option maxRecDepth 100000 in
set_option maxHeartbeats 4000000 in
theorem valueP_big (d n b a x : Int) (m : Nat) (v : VD) (t : VT) (w : World) (hr : VRep m w v t) (hs : sizeF t ≤ 500) (hv : validB d n b a x = true) (hd : deepF t d = false) (hn : n < (nodesF t : Int)) :
    Calls Try.prog 29 #[.agg #[.int .i64 d, .int .i64 n, .int .i64 b, .int .i64 a, .int .i64 x], .agg #[.int .i64 v.k, .bool v.b1, .bool v.b2, .string v.s1, .int .i64 v.i1, .int .i64 v.i2, .int .i64 v.i3, .int .i64 v.i4, .int .i64 v.i5, .string v.s2, .slice v.bA v.bn v.bc, .slice v.lA v.ln v.lc, .slice v.fA v.fn v.fc]] w (RI (valueF d n b a x t) w) := by
  have hres : valueF d n b a x t = 10 := by unfold valueF; rw [if_neg (by simp [hv]), if_neg (by simp [hd]), if_pos hn]
  rw [hres]; clear hres
  have hvf : 1 ≤ d ∧ d ≤ 48 ∧ 1 ≤ n ∧ n ≤ 65536 := by have h := hv; simp only [validB, decide_eq_true_eq] at h; omega
  have HR := Lib.hid hr
  have HS := Lib.hid hs
  clear hr hs
  have hcs := countF_spec t n
  have hcb : n < countF t n := by omega
  have hcb2 : countF t n ≤ 500 := by have := nodesF_le t; have := HS.out; omega
  have hcb1 := hcs.1
  clear hcs
  go_enter Try.func29, Try.ntmps29
  go_wp2_with fail
  refine (validP_any _ _ _ _ _ _).mono ?_
  rintro e w1 ⟨rfl, hb1⟩
  obtain ⟨hc1, hf1, hs1⟩ := Gr.cells hb1
  have c1_0 := fun o => hc1 (w.heap.size) o (by first | assumption | (simp; done) | (simp; omega))
  have f1_0 := fun o => hf1 (w.heap.size) o (by first | assumption | (simp; done) | (simp; omega))
  have c1_1 := fun o => hc1 (w.heap.size + 1) o (by first | assumption | (simp; done) | (simp; omega))
  have f1_1 := fun o => hf1 (w.heap.size + 1) o (by first | assumption | (simp; done) | (simp; omega))
  clear hc1 hf1
  try simp at hs1
  have l1_0 : w.heap.size < w1.heap.size := by omega
  have l1_1 : w.heap.size + 1 < w1.heap.size := by omega
  go_wp2_with fail
  refine (deepP_any m v t d _ ((VRep.keep ((Gr.refl _).alloc _) _ _ _ (VRep.keep ((Gr.refl _).alloc _) _ _ _ HR.out)).keep hb1) HS.out (by omega)).mono ?_
  rintro e w2 ⟨rfl, hb2⟩
  obtain ⟨hc2, hf2, hs2⟩ := Gr.cells hb2
  have c2_0 := fun o => hc2 (w.heap.size) o (by first | assumption | (simp; done) | (simp; omega))
  have f2_0 := fun o => hf2 (w.heap.size) o (by first | assumption | (simp; done) | (simp; omega))
  have c2_1 := fun o => hc2 (w.heap.size + 1) o (by first | assumption | (simp; done) | (simp; omega))
  have f2_1 := fun o => hf2 (w.heap.size + 1) o (by first | assumption | (simp; done) | (simp; omega))
  clear hc2 hf2
  try simp at hs2
  have l2_0 : w.heap.size < w2.heap.size := by omega
  have l2_1 : w.heap.size + 1 < w2.heap.size := by omega
  go_wp2_with fail
  go_region_held3 (fun w' => w'.cell? ⟨w.heap.size, 0, none⟩ = some (.int .i64 d) ∧ w'.cell? ⟨w.heap.size, 1, none⟩ = some (.int .i64 n) ∧ w'.cell? ⟨w.heap.size, 2, none⟩ = some (.int .i64 b) ∧ w'.cell? ⟨w.heap.size, 3, none⟩ = some (.int .i64 a) ∧ w'.cell? ⟨w.heap.size, 4, none⟩ = some (.int .i64 x) ∧ w'.cell? ⟨w.heap.size + 1, 0, none⟩ = some (.int .i64 v.k) ∧ w'.cell? ⟨w.heap.size + 1, 1, none⟩ = some (.bool v.b1) ∧ w'.cell? ⟨w.heap.size + 1, 2, none⟩ = some (.bool v.b2) ∧ w'.cell? ⟨w.heap.size + 1, 3, none⟩ = some (.string v.s1) ∧ w'.cell? ⟨w.heap.size + 1, 4, none⟩ = some (.int .i64 v.i1) ∧ w'.cell? ⟨w.heap.size + 1, 5, none⟩ = some (.int .i64 v.i2) ∧ w'.cell? ⟨w.heap.size + 1, 6, none⟩ = some (.int .i64 v.i3) ∧ w'.cell? ⟨w.heap.size + 1, 7, none⟩ = some (.int .i64 v.i4) ∧ w'.cell? ⟨w.heap.size + 1, 8, none⟩ = some (.int .i64 v.i5) ∧ w'.cell? ⟨w.heap.size + 1, 9, none⟩ = some (.string v.s2) ∧ w'.cell? ⟨w.heap.size + 1, 10, none⟩ = some (.slice v.bA v.bn v.bc) ∧ w'.cell? ⟨w.heap.size + 1, 11, none⟩ = some (.slice v.lA v.ln v.lc) ∧ w'.cell? ⟨w.heap.size + 1, 12, none⟩ = some (.slice v.fA v.fn v.fc))
    (go_keep)
    ((go_at_call 34; refine (countP_any m v t n _ ((((VRep.keep ((Gr.refl _).alloc _) _ _ _ (VRep.keep ((Gr.refl _).alloc _) _ _ _ HR.out)).keep hb1)).keep hb2 |>.keep (Gr.refl _).drew) HS.out (by omega) (by omega)).mono ?_; rintro e w3 ⟨rfl, hb3⟩; obtain ⟨hc3, _, _⟩ := Gr.cells hb3; have c3_0 := fun o => hc3 (w.heap.size) o (by first | assumption | (simp; done) | (simp; omega)); have c3_1 := fun o => hc3 (w.heap.size + 1) o (by first | assumption | (simp; done) | (simp; omega)); clear hc3))
  all_goals go_wp2_with fail
  all_goals go_ret
  all_goals exact ⟨rfl, (by with_reducible (repeat (first | exact Gr.refl _ | assumption | apply Gr.alloc | apply Gr.drew | apply Gr.drewN | refine Gr.setCell ?_ (by first | (simp; done) | (simp; omega)) _ | refine Gr.trans ?_ (by assumption))))⟩

set_option maxRecDepth 100000 in
set_option maxHeartbeats 4000000 in
theorem valueP_ok (d n b a x : Int) (m : Nat) (v : VD) (t : VT) (w : World) (hr : VRep m w v t) (hs : sizeF t ≤ 500) (hv : validB d n b a x = true) (hd : deepF t d = false) (hn : ¬ n < (nodesF t : Int)) :
    Calls Try.prog 29 #[.agg #[.int .i64 d, .int .i64 n, .int .i64 b, .int .i64 a, .int .i64 x], .agg #[.int .i64 v.k, .bool v.b1, .bool v.b2, .string v.s1, .int .i64 v.i1, .int .i64 v.i2, .int .i64 v.i3, .int .i64 v.i4, .int .i64 v.i5, .string v.s2, .slice v.bA v.bn v.bc, .slice v.lA v.ln v.lc, .slice v.fA v.fn v.fc]] w (RI (valueF d n b a x t) w) := by
  have hres : valueF d n b a x t = 0 := by unfold valueF; rw [if_neg (by simp [hv]), if_neg (by simp [hd]), if_neg hn]
  rw [hres]; clear hres
  have hvf : 1 ≤ d ∧ d ≤ 48 ∧ 1 ≤ n ∧ n ≤ 65536 := by have h := hv; simp only [validB, decide_eq_true_eq] at h; omega
  have HR := Lib.hid hr
  have HS := Lib.hid hs
  clear hr hs
  have hcs := countF_spec t n
  have hcb : ¬ n < countF t n := by omega
  have hcb2 : countF t n ≤ 500 := by have := nodesF_le t; have := HS.out; omega
  have hcb1 := hcs.1
  clear hcs
  go_enter Try.func29, Try.ntmps29
  go_wp2_with fail
  refine (validP_any _ _ _ _ _ _).mono ?_
  rintro e w1 ⟨rfl, hb1⟩
  obtain ⟨hc1, hf1, hs1⟩ := Gr.cells hb1
  have c1_0 := fun o => hc1 (w.heap.size) o (by first | assumption | (simp; done) | (simp; omega))
  have f1_0 := fun o => hf1 (w.heap.size) o (by first | assumption | (simp; done) | (simp; omega))
  have c1_1 := fun o => hc1 (w.heap.size + 1) o (by first | assumption | (simp; done) | (simp; omega))
  have f1_1 := fun o => hf1 (w.heap.size + 1) o (by first | assumption | (simp; done) | (simp; omega))
  clear hc1 hf1
  try simp at hs1
  have l1_0 : w.heap.size < w1.heap.size := by omega
  have l1_1 : w.heap.size + 1 < w1.heap.size := by omega
  go_wp2_with fail
  refine (deepP_any m v t d _ ((VRep.keep ((Gr.refl _).alloc _) _ _ _ (VRep.keep ((Gr.refl _).alloc _) _ _ _ HR.out)).keep hb1) HS.out (by omega)).mono ?_
  rintro e w2 ⟨rfl, hb2⟩
  obtain ⟨hc2, hf2, hs2⟩ := Gr.cells hb2
  have c2_0 := fun o => hc2 (w.heap.size) o (by first | assumption | (simp; done) | (simp; omega))
  have f2_0 := fun o => hf2 (w.heap.size) o (by first | assumption | (simp; done) | (simp; omega))
  have c2_1 := fun o => hc2 (w.heap.size + 1) o (by first | assumption | (simp; done) | (simp; omega))
  have f2_1 := fun o => hf2 (w.heap.size + 1) o (by first | assumption | (simp; done) | (simp; omega))
  clear hc2 hf2
  try simp at hs2
  have l2_0 : w.heap.size < w2.heap.size := by omega
  have l2_1 : w.heap.size + 1 < w2.heap.size := by omega
  go_wp2_with fail
  go_region_held3 (fun w' => w'.cell? ⟨w.heap.size, 0, none⟩ = some (.int .i64 d) ∧ w'.cell? ⟨w.heap.size, 1, none⟩ = some (.int .i64 n) ∧ w'.cell? ⟨w.heap.size, 2, none⟩ = some (.int .i64 b) ∧ w'.cell? ⟨w.heap.size, 3, none⟩ = some (.int .i64 a) ∧ w'.cell? ⟨w.heap.size, 4, none⟩ = some (.int .i64 x) ∧ w'.cell? ⟨w.heap.size + 1, 0, none⟩ = some (.int .i64 v.k) ∧ w'.cell? ⟨w.heap.size + 1, 1, none⟩ = some (.bool v.b1) ∧ w'.cell? ⟨w.heap.size + 1, 2, none⟩ = some (.bool v.b2) ∧ w'.cell? ⟨w.heap.size + 1, 3, none⟩ = some (.string v.s1) ∧ w'.cell? ⟨w.heap.size + 1, 4, none⟩ = some (.int .i64 v.i1) ∧ w'.cell? ⟨w.heap.size + 1, 5, none⟩ = some (.int .i64 v.i2) ∧ w'.cell? ⟨w.heap.size + 1, 6, none⟩ = some (.int .i64 v.i3) ∧ w'.cell? ⟨w.heap.size + 1, 7, none⟩ = some (.int .i64 v.i4) ∧ w'.cell? ⟨w.heap.size + 1, 8, none⟩ = some (.int .i64 v.i5) ∧ w'.cell? ⟨w.heap.size + 1, 9, none⟩ = some (.string v.s2) ∧ w'.cell? ⟨w.heap.size + 1, 10, none⟩ = some (.slice v.bA v.bn v.bc) ∧ w'.cell? ⟨w.heap.size + 1, 11, none⟩ = some (.slice v.lA v.ln v.lc) ∧ w'.cell? ⟨w.heap.size + 1, 12, none⟩ = some (.slice v.fA v.fn v.fc))
    (go_keep)
    ((go_at_call 34; refine (countP_any m v t n _ ((((VRep.keep ((Gr.refl _).alloc _) _ _ _ (VRep.keep ((Gr.refl _).alloc _) _ _ _ HR.out)).keep hb1)).keep hb2 |>.keep (Gr.refl _).drew) HS.out (by omega) (by omega)).mono ?_; rintro e w3 ⟨rfl, hb3⟩; obtain ⟨hc3, _, _⟩ := Gr.cells hb3; have c3_0 := fun o => hc3 (w.heap.size) o (by first | assumption | (simp; done) | (simp; omega)); have c3_1 := fun o => hc3 (w.heap.size + 1) o (by first | assumption | (simp; done) | (simp; omega)); clear hc3))
  all_goals go_wp2_with fail
  all_goals go_ret
  all_goals exact ⟨rfl, (by with_reducible (repeat (first | exact Gr.refl _ | assumption | apply Gr.alloc | apply Gr.drew | apply Gr.drewN | refine Gr.setCell ?_ (by first | (simp; done) | (simp; omega)) _ | refine Gr.trans ?_ (by assumption))))⟩

theorem valueP_any (d n b a x : Int) (m : Nat) (v : VD) (t : VT) (w : World) (hr : VRep m w v t) (hs : sizeF t ≤ 500) : Calls Try.prog 29 #[.agg #[.int .i64 d, .int .i64 n, .int .i64 b, .int .i64 a, .int .i64 x], .agg #[.int .i64 v.k, .bool v.b1, .bool v.b2, .string v.s1, .int .i64 v.i1, .int .i64 v.i2, .int .i64 v.i3, .int .i64 v.i4, .int .i64 v.i5, .string v.s2, .slice v.bA v.bn v.bc, .slice v.lA v.ln v.lc, .slice v.fA v.fn v.fc]] w (RI (valueF d n b a x t) w) := by
  by_cases hv : validB d n b a x = false
  · exact valueP_nv d n b a x m v t w hr hs hv
  simp only [Bool.not_eq_false] at hv
  by_cases hd : deepF t d = true
  · exact valueP_dp d n b a x m v t w hr hs hv hd
  simp only [Bool.not_eq_true] at hd
  by_cases hn : n < (nodesF t : Int)
  · exact valueP_big d n b a x m v t w hr hs hv hd hn
  · exact valueP_ok d n b a x m v t w hr hs hv hd hn

set_option maxRecDepth 100000 in
set_option maxHeartbeats 4000000 in
theorem valueR_nv (d n b a x : Int) (m : Nat) (v : VD) (t : VT) (w : World) (hr : VRep m w v t) (hs : sizeF t ≤ 500) (hv : validB d n b a x = false) :
    Calls Try.prog 30 #[.agg #[.int .i64 d, .int .i64 n, .int .i64 b, .int .i64 a, .int .i64 x], .agg #[.int .i64 v.k, .bool v.b1, .bool v.b2, .string v.s1, .int .i64 v.i1, .int .i64 v.i2, .int .i64 v.i3, .int .i64 v.i4, .int .i64 v.i5, .string v.s2, .slice v.bA v.bn v.bc, .slice v.lA v.ln v.lc, .slice v.fA v.fn v.fc]] w (RI (valueF d n b a x t) w) := by
  have hres : valueF d n b a x t = 1 := by unfold valueF; rw [if_pos hv]
  rw [hres]; clear hres
  go_enter Try.func30, Try.ntmps30
  go_wp2_with fail
  refine (validR_any _ _ _ _ _ _).mono ?_
  rintro e w1 ⟨rfl, hb1⟩
  obtain ⟨hc1, hf1, hs1⟩ := Gr.cells hb1
  try simp at hs1
  have l1_0 : w.heap.size < w1.heap.size := by omega
  have l1_1 : w.heap.size + 1 < w1.heap.size := by omega
  go_wp2_with fail
  go_ret
  exact ⟨rfl, (by with_reducible (repeat (first | exact Gr.refl _ | assumption | apply Gr.alloc | apply Gr.drew | apply Gr.drewN | refine Gr.setCell ?_ (by first | (simp; done) | (simp; omega)) _ | refine Gr.trans ?_ (by assumption))))⟩

set_option maxRecDepth 100000 in
set_option maxHeartbeats 4000000 in
theorem valueR_dp (d n b a x : Int) (m : Nat) (v : VD) (t : VT) (w : World) (hr : VRep m w v t) (hs : sizeF t ≤ 500) (hv : validB d n b a x = true) (hd : deepF t d = true) :
    Calls Try.prog 30 #[.agg #[.int .i64 d, .int .i64 n, .int .i64 b, .int .i64 a, .int .i64 x], .agg #[.int .i64 v.k, .bool v.b1, .bool v.b2, .string v.s1, .int .i64 v.i1, .int .i64 v.i2, .int .i64 v.i3, .int .i64 v.i4, .int .i64 v.i5, .string v.s2, .slice v.bA v.bn v.bc, .slice v.lA v.ln v.lc, .slice v.fA v.fn v.fc]] w (RI (valueF d n b a x t) w) := by
  have hres : valueF d n b a x t = 9 := by unfold valueF; rw [if_neg (by simp [hv]), if_pos hd]
  rw [hres]; clear hres
  have hvf : 1 ≤ d ∧ d ≤ 48 ∧ 1 ≤ n ∧ n ≤ 65536 := by have h := hv; simp only [validB, decide_eq_true_eq] at h; omega
  have HR := Lib.hid hr
  have HS := Lib.hid hs
  clear hr hs
  go_enter Try.func30, Try.ntmps30
  go_wp2_with fail
  refine (validR_any _ _ _ _ _ _).mono ?_
  rintro e w1 ⟨rfl, hb1⟩
  obtain ⟨hc1, hf1, hs1⟩ := Gr.cells hb1
  have c1_0 := fun o => hc1 (w.heap.size) o (by first | assumption | (simp; done) | (simp; omega))
  have f1_0 := fun o => hf1 (w.heap.size) o (by first | assumption | (simp; done) | (simp; omega))
  have c1_1 := fun o => hc1 (w.heap.size + 1) o (by first | assumption | (simp; done) | (simp; omega))
  have f1_1 := fun o => hf1 (w.heap.size + 1) o (by first | assumption | (simp; done) | (simp; omega))
  clear hc1 hf1
  try simp at hs1
  have l1_0 : w.heap.size < w1.heap.size := by omega
  have l1_1 : w.heap.size + 1 < w1.heap.size := by omega
  go_wp2_with fail
  refine (deepR_any m v t d _ ((VRep.keep ((Gr.refl _).alloc _) _ _ _ (VRep.keep ((Gr.refl _).alloc _) _ _ _ HR.out)).keep hb1) HS.out (by omega)).mono ?_
  rintro e w2 ⟨rfl, hb2⟩
  obtain ⟨hc2, hf2, hs2⟩ := Gr.cells hb2
  have c2_0 := fun o => hc2 (w.heap.size) o (by first | assumption | (simp; done) | (simp; omega))
  have f2_0 := fun o => hf2 (w.heap.size) o (by first | assumption | (simp; done) | (simp; omega))
  have c2_1 := fun o => hc2 (w.heap.size + 1) o (by first | assumption | (simp; done) | (simp; omega))
  have f2_1 := fun o => hf2 (w.heap.size + 1) o (by first | assumption | (simp; done) | (simp; omega))
  clear hc2 hf2
  try simp at hs2
  have l2_0 : w.heap.size < w2.heap.size := by omega
  have l2_1 : w.heap.size + 1 < w2.heap.size := by omega
  go_wp2_with fail
  go_ret
  exact ⟨rfl, (by with_reducible (repeat (first | exact Gr.refl _ | assumption | apply Gr.alloc | apply Gr.drew | apply Gr.drewN | refine Gr.setCell ?_ (by first | (simp; done) | (simp; omega)) _ | refine Gr.trans ?_ (by assumption))))⟩

set_option maxRecDepth 100000 in
set_option maxHeartbeats 4000000 in
theorem valueR_big (d n b a x : Int) (m : Nat) (v : VD) (t : VT) (w : World) (hr : VRep m w v t) (hs : sizeF t ≤ 500) (hv : validB d n b a x = true) (hd : deepF t d = false) (hn : n < (nodesF t : Int)) :
    Calls Try.prog 30 #[.agg #[.int .i64 d, .int .i64 n, .int .i64 b, .int .i64 a, .int .i64 x], .agg #[.int .i64 v.k, .bool v.b1, .bool v.b2, .string v.s1, .int .i64 v.i1, .int .i64 v.i2, .int .i64 v.i3, .int .i64 v.i4, .int .i64 v.i5, .string v.s2, .slice v.bA v.bn v.bc, .slice v.lA v.ln v.lc, .slice v.fA v.fn v.fc]] w (RI (valueF d n b a x t) w) := by
  have hres : valueF d n b a x t = 10 := by unfold valueF; rw [if_neg (by simp [hv]), if_neg (by simp [hd]), if_pos hn]
  rw [hres]; clear hres
  have hvf : 1 ≤ d ∧ d ≤ 48 ∧ 1 ≤ n ∧ n ≤ 65536 := by have h := hv; simp only [validB, decide_eq_true_eq] at h; omega
  have HR := Lib.hid hr
  have HS := Lib.hid hs
  clear hr hs
  have hnb : nodesF t ≤ 500 := by have := nodesF_le t; have := HS.out; omega
  go_enter Try.func30, Try.ntmps30
  go_wp2_with fail
  refine (validR_any _ _ _ _ _ _).mono ?_
  rintro e w1 ⟨rfl, hb1⟩
  obtain ⟨hc1, hf1, hs1⟩ := Gr.cells hb1
  have c1_0 := fun o => hc1 (w.heap.size) o (by first | assumption | (simp; done) | (simp; omega))
  have f1_0 := fun o => hf1 (w.heap.size) o (by first | assumption | (simp; done) | (simp; omega))
  have c1_1 := fun o => hc1 (w.heap.size + 1) o (by first | assumption | (simp; done) | (simp; omega))
  have f1_1 := fun o => hf1 (w.heap.size + 1) o (by first | assumption | (simp; done) | (simp; omega))
  clear hc1 hf1
  try simp at hs1
  have l1_0 : w.heap.size < w1.heap.size := by omega
  have l1_1 : w.heap.size + 1 < w1.heap.size := by omega
  go_wp2_with fail
  refine (deepR_any m v t d _ ((VRep.keep ((Gr.refl _).alloc _) _ _ _ (VRep.keep ((Gr.refl _).alloc _) _ _ _ HR.out)).keep hb1) HS.out (by omega)).mono ?_
  rintro e w2 ⟨rfl, hb2⟩
  obtain ⟨hc2, hf2, hs2⟩ := Gr.cells hb2
  have c2_0 := fun o => hc2 (w.heap.size) o (by first | assumption | (simp; done) | (simp; omega))
  have f2_0 := fun o => hf2 (w.heap.size) o (by first | assumption | (simp; done) | (simp; omega))
  have c2_1 := fun o => hc2 (w.heap.size + 1) o (by first | assumption | (simp; done) | (simp; omega))
  have f2_1 := fun o => hf2 (w.heap.size + 1) o (by first | assumption | (simp; done) | (simp; omega))
  clear hc2 hf2
  try simp at hs2
  have l2_0 : w.heap.size < w2.heap.size := by omega
  have l2_1 : w.heap.size + 1 < w2.heap.size := by omega
  go_wp2_with fail
  go_region_held3 (fun w' => w'.cell? ⟨w.heap.size, 0, none⟩ = some (.int .i64 d) ∧ w'.cell? ⟨w.heap.size, 1, none⟩ = some (.int .i64 n) ∧ w'.cell? ⟨w.heap.size, 2, none⟩ = some (.int .i64 b) ∧ w'.cell? ⟨w.heap.size, 3, none⟩ = some (.int .i64 a) ∧ w'.cell? ⟨w.heap.size, 4, none⟩ = some (.int .i64 x) ∧ w'.cell? ⟨w.heap.size + 1, 0, none⟩ = some (.int .i64 v.k) ∧ w'.cell? ⟨w.heap.size + 1, 1, none⟩ = some (.bool v.b1) ∧ w'.cell? ⟨w.heap.size + 1, 2, none⟩ = some (.bool v.b2) ∧ w'.cell? ⟨w.heap.size + 1, 3, none⟩ = some (.string v.s1) ∧ w'.cell? ⟨w.heap.size + 1, 4, none⟩ = some (.int .i64 v.i1) ∧ w'.cell? ⟨w.heap.size + 1, 5, none⟩ = some (.int .i64 v.i2) ∧ w'.cell? ⟨w.heap.size + 1, 6, none⟩ = some (.int .i64 v.i3) ∧ w'.cell? ⟨w.heap.size + 1, 7, none⟩ = some (.int .i64 v.i4) ∧ w'.cell? ⟨w.heap.size + 1, 8, none⟩ = some (.int .i64 v.i5) ∧ w'.cell? ⟨w.heap.size + 1, 9, none⟩ = some (.string v.s2) ∧ w'.cell? ⟨w.heap.size + 1, 10, none⟩ = some (.slice v.bA v.bn v.bc) ∧ w'.cell? ⟨w.heap.size + 1, 11, none⟩ = some (.slice v.lA v.ln v.lc) ∧ w'.cell? ⟨w.heap.size + 1, 12, none⟩ = some (.slice v.fA v.fn v.fc))
    (go_keep)
    ((go_at_call 36; refine (nodesR_any m v t _ ((((VRep.keep ((Gr.refl _).alloc _) _ _ _ (VRep.keep ((Gr.refl _).alloc _) _ _ _ HR.out)).keep hb1)).keep hb2 |>.keep (Gr.refl _).drew) HS.out).mono ?_; rintro e w3 ⟨rfl, hb3⟩; obtain ⟨hc3, _, _⟩ := Gr.cells hb3; have c3_0 := fun o => hc3 (w.heap.size) o (by first | assumption | (simp; done) | (simp; omega)); have c3_1 := fun o => hc3 (w.heap.size + 1) o (by first | assumption | (simp; done) | (simp; omega)); clear hc3))
  all_goals go_wp2_with fail
  all_goals go_ret
  all_goals exact ⟨rfl, (by with_reducible (repeat (first | exact Gr.refl _ | assumption | apply Gr.alloc | apply Gr.drew | apply Gr.drewN | refine Gr.setCell ?_ (by first | (simp; done) | (simp; omega)) _ | refine Gr.trans ?_ (by assumption))))⟩

set_option maxRecDepth 100000 in
set_option maxHeartbeats 4000000 in
theorem valueR_ok (d n b a x : Int) (m : Nat) (v : VD) (t : VT) (w : World) (hr : VRep m w v t) (hs : sizeF t ≤ 500) (hv : validB d n b a x = true) (hd : deepF t d = false) (hn : ¬ n < (nodesF t : Int)) :
    Calls Try.prog 30 #[.agg #[.int .i64 d, .int .i64 n, .int .i64 b, .int .i64 a, .int .i64 x], .agg #[.int .i64 v.k, .bool v.b1, .bool v.b2, .string v.s1, .int .i64 v.i1, .int .i64 v.i2, .int .i64 v.i3, .int .i64 v.i4, .int .i64 v.i5, .string v.s2, .slice v.bA v.bn v.bc, .slice v.lA v.ln v.lc, .slice v.fA v.fn v.fc]] w (RI (valueF d n b a x t) w) := by
  have hres : valueF d n b a x t = 0 := by unfold valueF; rw [if_neg (by simp [hv]), if_neg (by simp [hd]), if_neg hn]
  rw [hres]; clear hres
  have hvf : 1 ≤ d ∧ d ≤ 48 ∧ 1 ≤ n ∧ n ≤ 65536 := by have h := hv; simp only [validB, decide_eq_true_eq] at h; omega
  have HR := Lib.hid hr
  have HS := Lib.hid hs
  clear hr hs
  have hnb : nodesF t ≤ 500 := by have := nodesF_le t; have := HS.out; omega
  go_enter Try.func30, Try.ntmps30
  go_wp2_with fail
  refine (validR_any _ _ _ _ _ _).mono ?_
  rintro e w1 ⟨rfl, hb1⟩
  obtain ⟨hc1, hf1, hs1⟩ := Gr.cells hb1
  have c1_0 := fun o => hc1 (w.heap.size) o (by first | assumption | (simp; done) | (simp; omega))
  have f1_0 := fun o => hf1 (w.heap.size) o (by first | assumption | (simp; done) | (simp; omega))
  have c1_1 := fun o => hc1 (w.heap.size + 1) o (by first | assumption | (simp; done) | (simp; omega))
  have f1_1 := fun o => hf1 (w.heap.size + 1) o (by first | assumption | (simp; done) | (simp; omega))
  clear hc1 hf1
  try simp at hs1
  have l1_0 : w.heap.size < w1.heap.size := by omega
  have l1_1 : w.heap.size + 1 < w1.heap.size := by omega
  go_wp2_with fail
  refine (deepR_any m v t d _ ((VRep.keep ((Gr.refl _).alloc _) _ _ _ (VRep.keep ((Gr.refl _).alloc _) _ _ _ HR.out)).keep hb1) HS.out (by omega)).mono ?_
  rintro e w2 ⟨rfl, hb2⟩
  obtain ⟨hc2, hf2, hs2⟩ := Gr.cells hb2
  have c2_0 := fun o => hc2 (w.heap.size) o (by first | assumption | (simp; done) | (simp; omega))
  have f2_0 := fun o => hf2 (w.heap.size) o (by first | assumption | (simp; done) | (simp; omega))
  have c2_1 := fun o => hc2 (w.heap.size + 1) o (by first | assumption | (simp; done) | (simp; omega))
  have f2_1 := fun o => hf2 (w.heap.size + 1) o (by first | assumption | (simp; done) | (simp; omega))
  clear hc2 hf2
  try simp at hs2
  have l2_0 : w.heap.size < w2.heap.size := by omega
  have l2_1 : w.heap.size + 1 < w2.heap.size := by omega
  go_wp2_with fail
  go_region_held3 (fun w' => w'.cell? ⟨w.heap.size, 0, none⟩ = some (.int .i64 d) ∧ w'.cell? ⟨w.heap.size, 1, none⟩ = some (.int .i64 n) ∧ w'.cell? ⟨w.heap.size, 2, none⟩ = some (.int .i64 b) ∧ w'.cell? ⟨w.heap.size, 3, none⟩ = some (.int .i64 a) ∧ w'.cell? ⟨w.heap.size, 4, none⟩ = some (.int .i64 x) ∧ w'.cell? ⟨w.heap.size + 1, 0, none⟩ = some (.int .i64 v.k) ∧ w'.cell? ⟨w.heap.size + 1, 1, none⟩ = some (.bool v.b1) ∧ w'.cell? ⟨w.heap.size + 1, 2, none⟩ = some (.bool v.b2) ∧ w'.cell? ⟨w.heap.size + 1, 3, none⟩ = some (.string v.s1) ∧ w'.cell? ⟨w.heap.size + 1, 4, none⟩ = some (.int .i64 v.i1) ∧ w'.cell? ⟨w.heap.size + 1, 5, none⟩ = some (.int .i64 v.i2) ∧ w'.cell? ⟨w.heap.size + 1, 6, none⟩ = some (.int .i64 v.i3) ∧ w'.cell? ⟨w.heap.size + 1, 7, none⟩ = some (.int .i64 v.i4) ∧ w'.cell? ⟨w.heap.size + 1, 8, none⟩ = some (.int .i64 v.i5) ∧ w'.cell? ⟨w.heap.size + 1, 9, none⟩ = some (.string v.s2) ∧ w'.cell? ⟨w.heap.size + 1, 10, none⟩ = some (.slice v.bA v.bn v.bc) ∧ w'.cell? ⟨w.heap.size + 1, 11, none⟩ = some (.slice v.lA v.ln v.lc) ∧ w'.cell? ⟨w.heap.size + 1, 12, none⟩ = some (.slice v.fA v.fn v.fc))
    (go_keep)
    ((go_at_call 36; refine (nodesR_any m v t _ ((((VRep.keep ((Gr.refl _).alloc _) _ _ _ (VRep.keep ((Gr.refl _).alloc _) _ _ _ HR.out)).keep hb1)).keep hb2 |>.keep (Gr.refl _).drew) HS.out).mono ?_; rintro e w3 ⟨rfl, hb3⟩; obtain ⟨hc3, _, _⟩ := Gr.cells hb3; have c3_0 := fun o => hc3 (w.heap.size) o (by first | assumption | (simp; done) | (simp; omega)); have c3_1 := fun o => hc3 (w.heap.size + 1) o (by first | assumption | (simp; done) | (simp; omega)); clear hc3))
  all_goals go_wp2_with fail
  all_goals go_ret
  all_goals exact ⟨rfl, (by with_reducible (repeat (first | exact Gr.refl _ | assumption | apply Gr.alloc | apply Gr.drew | apply Gr.drewN | refine Gr.setCell ?_ (by first | (simp; done) | (simp; omega)) _ | refine Gr.trans ?_ (by assumption))))⟩

theorem valueR_any (d n b a x : Int) (m : Nat) (v : VD) (t : VT) (w : World) (hr : VRep m w v t) (hs : sizeF t ≤ 500) : Calls Try.prog 30 #[.agg #[.int .i64 d, .int .i64 n, .int .i64 b, .int .i64 a, .int .i64 x], .agg #[.int .i64 v.k, .bool v.b1, .bool v.b2, .string v.s1, .int .i64 v.i1, .int .i64 v.i2, .int .i64 v.i3, .int .i64 v.i4, .int .i64 v.i5, .string v.s2, .slice v.bA v.bn v.bc, .slice v.lA v.ln v.lc, .slice v.fA v.fn v.fc]] w (RI (valueF d n b a x t) w) := by
  by_cases hv : validB d n b a x = false
  · exact valueR_nv d n b a x m v t w hr hs hv
  simp only [Bool.not_eq_false] at hv
  by_cases hd : deepF t d = true
  · exact valueR_dp d n b a x m v t w hr hs hv hd
  simp only [Bool.not_eq_true] at hd
  by_cases hn : n < (nodesF t : Int)
  · exact valueR_big d n b a x m v t w hr hs hv hd hn
  · exact valueR_ok d n b a x m v t w hr hs hv hd hn
end Go.Proofs.Ytlfhiolngpoamaa
