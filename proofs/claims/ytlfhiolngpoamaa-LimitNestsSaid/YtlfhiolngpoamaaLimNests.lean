/- LimitNests returns true for every input: a list of a value, and a map of it, has one level and one node more than the value. No condition. -/
import Derived.Test.YtlfhiolngpoamaaValValue
import Derived.Test.YtlfhiolngpoamaaValLight
import Derived.Test.YtlfhiolngpoamaaValOpen
import Derived.Test.YtlfhiolngpoamaaLimAwake
namespace Go.Proofs.Ytlfhiolngpoamaa
open Go.ChangeShapes Go.WideShapes Go.ChangeAt Go.RowKit

theorem valueF_list (d n : Int) (t : VT) (h1 : 1 ≤ d) (h2 : d ≤ 46) (h3 : 1 ≤ n) (h4 : n ≤ 256) : valueF (d + 1) (n + 1) 1 0 0 (.mk 6 [t] []) = valueF d n 1 0 0 t := by
  have v1 : validB d n 1 0 0 = true := by unfold validB; simp; omega
  have v2 : validB (d + 1) (n + 1) 1 0 0 = true := by unfold validB; simp; omega
  have e1 : deepF (.mk 6 [t] []) (d + 1) = deepF t d := by rw [deepF, if_neg (by omega), if_pos rfl, deepL, deepL, Int.add_sub_cancel]; simp
  have e2 : nodesF (.mk 6 [t] []) = nodesF t + 1 := by rw [nodesF, if_pos rfl, nodesL, nodesL]; omega
  unfold valueF
  rw [v1, v2, e1, e2]
  simp only [Bool.true_eq_false, if_false]
  split
  · rfl
  · by_cases hn : n < (nodesF t : Int)
    · rw [if_pos hn, if_pos (by omega)]
    · rw [if_neg hn, if_neg (by omega)]
theorem valueF_map (d n : Int) (t : VT) (h1 : 1 ≤ d) (h2 : d ≤ 46) (h3 : 1 ≤ n) (h4 : n ≤ 256) : valueF (d + 1) (n + 1) 1 0 0 (.mk 7 [] [t]) = valueF d n 1 0 0 t := by
  have v1 : validB d n 1 0 0 = true := by unfold validB; simp; omega
  have v2 : validB (d + 1) (n + 1) 1 0 0 = true := by unfold validB; simp; omega
  have e1 : deepF (.mk 7 [] [t]) (d + 1) = deepF t d := by rw [deepF, if_neg (by omega), if_neg (by decide), if_pos rfl, deepL, deepL, Int.add_sub_cancel]; simp
  have e2 : nodesF (.mk 7 [] [t]) = nodesF t + 1 := by rw [nodesF, if_neg (by decide), if_pos rfl, nodesL, nodesL]; omega
  unfold valueF
  rw [v1, v2, e1, e2]
  simp only [Bool.true_eq_false, if_false]
  split
  · rfl
  · by_cases hn : n < (nodesF t : Int)
    · rw [if_pos hn, if_pos (by omega)]
    · rw [if_neg hn, if_neg (by omega)]
theorem valueF_three (d n : Int) (t : VT) (h1 : 1 ≤ d) (h2 : d ≤ 46) (h3 : 1 ≤ n) (h4 : n ≤ 256) : valueF d n 1 0 0 t = 9 ∨ valueF d n 1 0 0 t = 10 ∨ valueF d n 1 0 0 t = 0 := by
  have v1 : validB d n 1 0 0 = true := by unfold validB; simp; omega
  unfold valueF
  rw [v1]
  simp only [Bool.true_eq_false, if_false]
  split
  · exact .inl rfl
  · split
    · exact .inr (.inl rfl)
    · exact .inr (.inr rfl)
theorem valueP_in {d n b a x : Int} {m : Nat} {v : VD} {t : VT} {w0 W : World} {E : Int} (hr : VRep m w0 v t) (hs : sizeF t ≤ 500) (hE : valueF d n b a x t = E) (hg : Gr w0 W) :
    Calls Try.prog 29 #[.agg #[.int .i64 d, .int .i64 n, .int .i64 b, .int .i64 a, .int .i64 x], .agg #[.int .i64 v.k, .bool v.b1, .bool v.b2, .string v.s1, .int .i64 v.i1, .int .i64 v.i2, .int .i64 v.i3, .int .i64 v.i4, .int .i64 v.i5, .string v.s2, .slice v.bA v.bn v.bc, .slice v.lA v.ln v.lc, .slice v.fA v.fn v.fc]] W (RI E W) := by
  have h := valueP_any d n b a x m v t W (VRep.keep hg _ _ _ hr) hs
  rw [hE] at h
  exact h
/-- A list of one value that lies at the head of block B. -/
theorem rep_list {m : Nat} {w : World} {B : Nat} {e : VD} {t : VT} (hc : VCells w B 0 e) (hB : B < w.heap.size) (hr : VRep m w e t) :
    VRep (m + 1) w ⟨6, false, false, ⟨#[]⟩, 0, 0, 0, 0, 0, ⟨#[]⟩, none, 0, 0, some ⟨B, 0, none⟩, 1, 1, none, 0, 0⟩ (.mk 6 [t] []) := by
  refine ⟨rfl, rfl, rfl, Nat.le_refl _, Nat.le_of_ble_eq_true rfl, Nat.le_refl _, Nat.zero_le _, fun i x hx => ?_, fun i x hx => by simp at hx⟩
  cases i with
  | zero =>
    simp only [List.getElem?_cons_zero, Option.some.injEq] at hx
    subst hx
    exact ⟨B, 0, e, rfl, hB, hc, hr⟩
  | succ i => simp at hx
theorem rep_map {m : Nat} {w : World} {B : Nat} {s : ByteArray} {e : VD} {t : VT} (hs : w.cell? ⟨B, 0, none⟩ = some (.string s)) (hc : VCells w B 1 e) (hB : B < w.heap.size) (hr : VRep m w e t) :
    VRep (m + 1) w ⟨7, false, false, ⟨#[]⟩, 0, 0, 0, 0, 0, ⟨#[]⟩, none, 0, 0, none, 0, 0, some ⟨B, 0, none⟩, 1, 1⟩ (.mk 7 [] [t]) := by
  refine ⟨rfl, rfl, rfl, Nat.le_refl _, Nat.zero_le _, Nat.le_refl _, Nat.le_of_ble_eq_true rfl, fun i x hx => by simp at hx, fun i x hx => ?_⟩
  cases i with
  | zero =>
    simp only [List.getElem?_cons_zero, Option.some.injEq] at hx
    subst hx
    exact ⟨B, 0, e, s, rfl, hB, hs, hc, hr⟩
  | succ i => simp at hx

set_option maxRecDepth 100000 in
set_option maxHeartbeats 8000000 in
theorem limitNests_big (p q : Int) (m : Nat) (v : VD) (t : VT) (w : World) (hp : 0 ≤ p ∧ p ≤ 255) (hq : 0 ≤ q ∧ q ≤ 255) (hr : VRep m w v t) (Z : Int) (hZ : lightF t 40 400 = Z) (hneg : Z < 0) :
    Calls Try.prog 10 #[.int .u8 p, .int .u8 q, .agg #[.int .i64 v.k, .bool v.b1, .bool v.b2, .string v.s1, .int .i64 v.i1, .int .i64 v.i2, .int .i64 v.i3, .int .i64 v.i4, .int .i64 v.i5, .string v.s2, .slice v.bA v.bn v.bc, .slice v.lA v.ln v.lc, .slice v.fA v.fn v.fc]] w (RB true w) := by
  have HR := Lib.hid hr
  clear hr
  go_enter Try.func10, Try.ntmps10
  go_wp2_with fail
  refine (light_any m v t 40 400 _ (VRep.keep ((Gr.refl _).alloc _) _ _ _ HR.out) (by omega) (by omega)).mono ?_
  rw [hZ]
  rintro e w1 ⟨rfl, hb1⟩
  obtain ⟨hc1, hf1, hs1⟩ := Gr.cells hb1
  have c1_0 := fun o => hc1 (w.heap.size) o (by first | assumption | (simp; done) | (simp; omega))
  have f1_0 := fun o => hf1 (w.heap.size) o (by first | assumption | (simp; done) | (simp; omega))
  clear hc1 hf1
  try simp at hs1
  have l1_0 : w.heap.size < w1.heap.size := by omega
  go_wp2_with fail
  refine (awake_any _).mono ?_
  rintro e w2 ⟨rfl, hb2⟩
  obtain ⟨hc2, hf2, hs2⟩ := Gr.cells hb2
  have c2_0 := fun o => hc2 (w.heap.size) o (by first | assumption | (simp; done) | (simp; omega))
  have f2_0 := fun o => hf2 (w.heap.size) o (by first | assumption | (simp; done) | (simp; omega))
  clear hc2 hf2
  try simp at hs2
  have l2_0 : w.heap.size < w2.heap.size := by omega
  go_wp2_with fail
  go_ret
  exact ⟨rfl, (by with_reducible (repeat (first | exact Gr.refl _ | assumption | apply Gr.alloc | apply Gr.drew | apply Gr.drewN | refine Gr.setCell ?_ (by first | (simp; done) | (simp; omega)) _ | refine Gr.trans ?_ (by assumption))))⟩

set_option maxRecDepth 100000 in
set_option maxHeartbeats 8000000 in
theorem limitNests_9 (p q : Int) (m : Nat) (v : VD) (t : VT) (w : World) (hp : 0 ≤ p ∧ p ≤ 255) (hq : 0 ≤ q ∧ q ≤ 255) (hr : VRep m w v t) (Z : Int) (hZ : lightF t 40 400 = Z) (hpos : 0 ≤ Z) (hE : valueF (p % 46 + 1) (q + 1) 1 0 0 t = 9) :
    Calls Try.prog 10 #[.int .u8 p, .int .u8 q, .agg #[.int .i64 v.k, .bool v.b1, .bool v.b2, .string v.s1, .int .i64 v.i1, .int .i64 v.i2, .int .i64 v.i3, .int .i64 v.i4, .int .i64 v.i5, .string v.s2, .slice v.bA v.bn v.bc, .slice v.lA v.ln v.lc, .slice v.fA v.fn v.fc]] w (RB true w) := by
  have hs : sizeF t ≤ 400 := by have := lightF_size t 40 400 (by omega); omega
  have HS := Lib.hid hs
  clear hs
  have HE := Lib.hid hE
  have hE2 := (valueF_list (p % 46 + 1) (q + 1) t (by omega) (by omega) (by omega) (by omega)).trans hE
  have hE3 := (valueF_map (p % 46 + 1) (q + 1) t (by omega) (by omega) (by omega) (by omega)).trans hE
  have HE2 := Lib.hid hE2
  have HE3 := Lib.hid hE3
  clear hE hE2 hE3
  have HR := Lib.hid hr
  clear hr
  go_enter Try.func10, Try.ntmps10
  go_wp2_with fail
  refine (light_any m v t 40 400 _ (VRep.keep ((Gr.refl _).alloc _) _ _ _ HR.out) (by omega) (by omega)).mono ?_
  rw [hZ]
  rintro e w1 ⟨rfl, hb1⟩
  obtain ⟨hc1, hf1, hs1⟩ := Gr.cells hb1
  have c1_0 := fun o => hc1 (w.heap.size) o (by first | assumption | (simp; done) | (simp; omega))
  have f1_0 := fun o => hf1 (w.heap.size) o (by first | assumption | (simp; done) | (simp; omega))
  clear hc1 hf1
  try simp at hs1
  have l1_0 : w.heap.size < w1.heap.size := by omega
  have q1 : w.heap.size < w1.heap.size + 1 := by omega
  have q2 : w.heap.size < w1.heap.size + 1 + 1 := by omega
  have q3 : w.heap.size < w1.heap.size + 1 + 1 + 1 := by omega
  have q4 : w.heap.size < w1.heap.size + 1 + 1 + 1 + 1 := by omega
  have q5 : w.heap.size < w1.heap.size + 1 + 1 + 1 + 1 + 1 := by omega
  have q6 : w.heap.size < w1.heap.size + 1 + 1 + 1 + 1 + 1 + 1 := by omega
  go_wp2_with fail
  have hrep1 := (VRep.keep hb1 _ _ _ (VRep.keep ((Gr.refl _).alloc _) _ _ _ HR.out))
  have R1 := Lib.hid hrep1
  clear hrep1
  refine (valueP_in R1.out (by have := HS.out; omega) HE.out (by with_reducible (repeat (first | exact Gr.refl _ | assumption | apply Gr.alloc | apply Gr.drew | apply Gr.drewN | refine Gr.setCell ?_ (by first | (simp; done) | (simp; omega)) _ | refine Gr.trans ?_ (by assumption))))).mono ?_
  rintro e w2 ⟨rfl, hb2⟩
  have hrep2 := VRep.keep (Gr.trans (by with_reducible (repeat (first | exact Gr.refl _ | assumption | apply Gr.alloc | apply Gr.drew | apply Gr.drewN | refine Gr.setCell ?_ (by first | (simp; done) | (simp; omega)) _ | refine Gr.trans ?_ (by assumption)))) hb2) _ _ _ R1.out
  have R2 := Lib.hid hrep2
  clear hrep2
  obtain ⟨hc2, hf2, hs2⟩ := Gr.cells hb2
  have d0 : w2.cell? ⟨w1.heap.size + 1 + 1, 0, none⟩ = some (.int .i64 v.k) := (hc2 _ _ (by simp)).trans (by go_simp)
  have d1 : w2.cell? ⟨w1.heap.size + 1 + 1, 1, none⟩ = some (.bool v.b1) := (hc2 _ _ (by simp)).trans (by go_simp)
  have d2 : w2.cell? ⟨w1.heap.size + 1 + 1, 2, none⟩ = some (.bool v.b2) := (hc2 _ _ (by simp)).trans (by go_simp)
  have d3 : w2.cell? ⟨w1.heap.size + 1 + 1, 3, none⟩ = some (.string v.s1) := (hc2 _ _ (by simp)).trans (by go_simp)
  have d4 : w2.cell? ⟨w1.heap.size + 1 + 1, 4, none⟩ = some (.int .i64 v.i1) := (hc2 _ _ (by simp)).trans (by go_simp)
  have d5 : w2.cell? ⟨w1.heap.size + 1 + 1, 5, none⟩ = some (.int .i64 v.i2) := (hc2 _ _ (by simp)).trans (by go_simp)
  have d6 : w2.cell? ⟨w1.heap.size + 1 + 1, 6, none⟩ = some (.int .i64 v.i3) := (hc2 _ _ (by simp)).trans (by go_simp)
  have d7 : w2.cell? ⟨w1.heap.size + 1 + 1, 7, none⟩ = some (.int .i64 v.i4) := (hc2 _ _ (by simp)).trans (by go_simp)
  have d8 : w2.cell? ⟨w1.heap.size + 1 + 1, 8, none⟩ = some (.int .i64 v.i5) := (hc2 _ _ (by simp)).trans (by go_simp)
  have d9 : w2.cell? ⟨w1.heap.size + 1 + 1, 9, none⟩ = some (.string v.s2) := (hc2 _ _ (by simp)).trans (by go_simp)
  have d10 : w2.cell? ⟨w1.heap.size + 1 + 1, 10, none⟩ = some (.slice v.bA v.bn v.bc) := (hc2 _ _ (by simp)).trans (by go_simp)
  have d11 : w2.cell? ⟨w1.heap.size + 1 + 1, 11, none⟩ = some (.slice v.lA v.ln v.lc) := (hc2 _ _ (by simp)).trans (by go_simp)
  have d12 : w2.cell? ⟨w1.heap.size + 1 + 1, 12, none⟩ = some (.slice v.fA v.fn v.fc) := (hc2 _ _ (by simp)).trans (by go_simp)
  have g0 : w2.cell? ⟨w1.heap.size + 1 + 1 + 1 + 1, 0, none⟩ = some (.string ⟨#[97]⟩) := (hc2 _ _ (by simp)).trans (by go_simp)
  have g1 : w2.cell? ⟨w1.heap.size + 1 + 1 + 1 + 1, 1, none⟩ = some (.int .i64 v.k) := (hc2 _ _ (by simp)).trans (by go_simp)
  have g2 : w2.cell? ⟨w1.heap.size + 1 + 1 + 1 + 1, 2, none⟩ = some (.bool v.b1) := (hc2 _ _ (by simp)).trans (by go_simp)
  have g3 : w2.cell? ⟨w1.heap.size + 1 + 1 + 1 + 1, 3, none⟩ = some (.bool v.b2) := (hc2 _ _ (by simp)).trans (by go_simp)
  have g4 : w2.cell? ⟨w1.heap.size + 1 + 1 + 1 + 1, 4, none⟩ = some (.string v.s1) := (hc2 _ _ (by simp)).trans (by go_simp)
  have g5 : w2.cell? ⟨w1.heap.size + 1 + 1 + 1 + 1, 5, none⟩ = some (.int .i64 v.i1) := (hc2 _ _ (by simp)).trans (by go_simp)
  have g6 : w2.cell? ⟨w1.heap.size + 1 + 1 + 1 + 1, 6, none⟩ = some (.int .i64 v.i2) := (hc2 _ _ (by simp)).trans (by go_simp)
  have g7 : w2.cell? ⟨w1.heap.size + 1 + 1 + 1 + 1, 7, none⟩ = some (.int .i64 v.i3) := (hc2 _ _ (by simp)).trans (by go_simp)
  have g8 : w2.cell? ⟨w1.heap.size + 1 + 1 + 1 + 1, 8, none⟩ = some (.int .i64 v.i4) := (hc2 _ _ (by simp)).trans (by go_simp)
  have g9 : w2.cell? ⟨w1.heap.size + 1 + 1 + 1 + 1, 9, none⟩ = some (.int .i64 v.i5) := (hc2 _ _ (by simp)).trans (by go_simp)
  have g10 : w2.cell? ⟨w1.heap.size + 1 + 1 + 1 + 1, 10, none⟩ = some (.string v.s2) := (hc2 _ _ (by simp)).trans (by go_simp)
  have g11 : w2.cell? ⟨w1.heap.size + 1 + 1 + 1 + 1, 11, none⟩ = some (.slice v.bA v.bn v.bc) := (hc2 _ _ (by simp)).trans (by go_simp)
  have g12 : w2.cell? ⟨w1.heap.size + 1 + 1 + 1 + 1, 12, none⟩ = some (.slice v.lA v.ln v.lc) := (hc2 _ _ (by simp)).trans (by go_simp)
  have g13 : w2.cell? ⟨w1.heap.size + 1 + 1 + 1 + 1, 13, none⟩ = some (.slice v.fA v.fn v.fc) := (hc2 _ _ (by simp)).trans (by go_simp)
  simp at hs2
  have z2 : w1.heap.size + 1 + 1 < w2.heap.size := by omega
  have z4 : w1.heap.size + 1 + 1 + 1 + 1 < w2.heap.size := by omega
  have hrl := rep_list ⟨d0, d1, d2, d3, d4, d5, d6, d7, d8, d9, d10, d11, d12⟩ z2 R2.out
  have hrm := rep_map g0 ⟨g1 , g2 , g3 , g4 , g5 , g6 , g7 , g8 , g9 , g10 , g11 , g12 , g13⟩ z4 R2.out
  have RL := Lib.hid hrl
  have RM := Lib.hid hrm
  clear hrl hrm d0 d1 d2 d3 d4 d5 d6 d7 d8 d9 d10 d11 d12 g0 g1 g2 g3 g4 g5 g6 g7 g8 g9 g10 g11 g12 g13
  have y0 : w.heap.size < w2.heap.size := by omega
  have y1 : w1.heap.size < w2.heap.size := by omega
  have y2 : w1.heap.size + 1 < w2.heap.size := by omega
  have y3 : w1.heap.size + 1 + 1 < w2.heap.size := by omega
  have y4 : w1.heap.size + 1 + 1 + 1 < w2.heap.size := by omega
  have y5 : w1.heap.size + 1 + 1 + 1 + 1 < w2.heap.size := by omega
  have y6 : w1.heap.size + 1 + 1 + 1 + 1 + 1 < w2.heap.size := by omega
  go_wp2_with fail
  have h2 := valueP_any (p % 46 + 1 + 1) (q + 1 + 1) 1 0 0 _ _ _ w2 RL.out (by have := HS.out; simp only [sizeF, sizeL]; omega)
  rw [HE2.out] at h2
  refine h2.mono ?_
  clear h2
  rintro e w3 ⟨rfl, hb3⟩
  obtain ⟨hc3, hf3, hs3⟩ := Gr.cells hb3
  have x0 : w.heap.size < w3.heap.size := by omega
  have x1 : w1.heap.size < w3.heap.size := by omega
  have x2 : w1.heap.size + 1 < w3.heap.size := by omega
  have x3 : w1.heap.size + 1 + 1 < w3.heap.size := by omega
  have x4 : w1.heap.size + 1 + 1 + 1 < w3.heap.size := by omega
  have x5 : w1.heap.size + 1 + 1 + 1 + 1 < w3.heap.size := by omega
  have x6 : w1.heap.size + 1 + 1 + 1 + 1 + 1 < w3.heap.size := by omega
  go_wp2_with fail
  have h3 := valueP_any (p % 46 + 1 + 1) (q + 1 + 1) 1 0 0 _ _ _ w3 (VRep.keep hb3 _ _ _ RM.out) (by have := HS.out; simp only [sizeF, sizeL]; omega)
  rw [HE3.out] at h3
  refine h3.mono ?_
  clear h3
  rintro e w4 ⟨rfl, hb4⟩
  go_wp2_with (go_at_call 13; refine (awake_any _).mono ?_; rintro e w5 ⟨rfl, hb5⟩)
  go_ret
  exact ⟨rfl, (by with_reducible (repeat (first | exact Gr.refl _ | assumption | apply Gr.alloc | apply Gr.drew | apply Gr.drewN | refine Gr.setCell ?_ (by first | (simp; done) | (simp; omega)) _ | refine Gr.trans ?_ (by assumption))))⟩

set_option maxRecDepth 100000 in
set_option maxHeartbeats 8000000 in
theorem limitNests_10 (p q : Int) (m : Nat) (v : VD) (t : VT) (w : World) (hp : 0 ≤ p ∧ p ≤ 255) (hq : 0 ≤ q ∧ q ≤ 255) (hr : VRep m w v t) (Z : Int) (hZ : lightF t 40 400 = Z) (hpos : 0 ≤ Z) (hE : valueF (p % 46 + 1) (q + 1) 1 0 0 t = 10) :
    Calls Try.prog 10 #[.int .u8 p, .int .u8 q, .agg #[.int .i64 v.k, .bool v.b1, .bool v.b2, .string v.s1, .int .i64 v.i1, .int .i64 v.i2, .int .i64 v.i3, .int .i64 v.i4, .int .i64 v.i5, .string v.s2, .slice v.bA v.bn v.bc, .slice v.lA v.ln v.lc, .slice v.fA v.fn v.fc]] w (RB true w) := by
  have hs : sizeF t ≤ 400 := by have := lightF_size t 40 400 (by omega); omega
  have HS := Lib.hid hs
  clear hs
  have HE := Lib.hid hE
  have hE2 := (valueF_list (p % 46 + 1) (q + 1) t (by omega) (by omega) (by omega) (by omega)).trans hE
  have hE3 := (valueF_map (p % 46 + 1) (q + 1) t (by omega) (by omega) (by omega) (by omega)).trans hE
  have HE2 := Lib.hid hE2
  have HE3 := Lib.hid hE3
  clear hE hE2 hE3
  have HR := Lib.hid hr
  clear hr
  go_enter Try.func10, Try.ntmps10
  go_wp2_with fail
  refine (light_any m v t 40 400 _ (VRep.keep ((Gr.refl _).alloc _) _ _ _ HR.out) (by omega) (by omega)).mono ?_
  rw [hZ]
  rintro e w1 ⟨rfl, hb1⟩
  obtain ⟨hc1, hf1, hs1⟩ := Gr.cells hb1
  have c1_0 := fun o => hc1 (w.heap.size) o (by first | assumption | (simp; done) | (simp; omega))
  have f1_0 := fun o => hf1 (w.heap.size) o (by first | assumption | (simp; done) | (simp; omega))
  clear hc1 hf1
  try simp at hs1
  have l1_0 : w.heap.size < w1.heap.size := by omega
  have q1 : w.heap.size < w1.heap.size + 1 := by omega
  have q2 : w.heap.size < w1.heap.size + 1 + 1 := by omega
  have q3 : w.heap.size < w1.heap.size + 1 + 1 + 1 := by omega
  have q4 : w.heap.size < w1.heap.size + 1 + 1 + 1 + 1 := by omega
  have q5 : w.heap.size < w1.heap.size + 1 + 1 + 1 + 1 + 1 := by omega
  have q6 : w.heap.size < w1.heap.size + 1 + 1 + 1 + 1 + 1 + 1 := by omega
  go_wp2_with fail
  have hrep1 := (VRep.keep hb1 _ _ _ (VRep.keep ((Gr.refl _).alloc _) _ _ _ HR.out))
  have R1 := Lib.hid hrep1
  clear hrep1
  refine (valueP_in R1.out (by have := HS.out; omega) HE.out (by with_reducible (repeat (first | exact Gr.refl _ | assumption | apply Gr.alloc | apply Gr.drew | apply Gr.drewN | refine Gr.setCell ?_ (by first | (simp; done) | (simp; omega)) _ | refine Gr.trans ?_ (by assumption))))).mono ?_
  rintro e w2 ⟨rfl, hb2⟩
  have hrep2 := VRep.keep (Gr.trans (by with_reducible (repeat (first | exact Gr.refl _ | assumption | apply Gr.alloc | apply Gr.drew | apply Gr.drewN | refine Gr.setCell ?_ (by first | (simp; done) | (simp; omega)) _ | refine Gr.trans ?_ (by assumption)))) hb2) _ _ _ R1.out
  have R2 := Lib.hid hrep2
  clear hrep2
  obtain ⟨hc2, hf2, hs2⟩ := Gr.cells hb2
  have d0 : w2.cell? ⟨w1.heap.size + 1 + 1, 0, none⟩ = some (.int .i64 v.k) := (hc2 _ _ (by simp)).trans (by go_simp)
  have d1 : w2.cell? ⟨w1.heap.size + 1 + 1, 1, none⟩ = some (.bool v.b1) := (hc2 _ _ (by simp)).trans (by go_simp)
  have d2 : w2.cell? ⟨w1.heap.size + 1 + 1, 2, none⟩ = some (.bool v.b2) := (hc2 _ _ (by simp)).trans (by go_simp)
  have d3 : w2.cell? ⟨w1.heap.size + 1 + 1, 3, none⟩ = some (.string v.s1) := (hc2 _ _ (by simp)).trans (by go_simp)
  have d4 : w2.cell? ⟨w1.heap.size + 1 + 1, 4, none⟩ = some (.int .i64 v.i1) := (hc2 _ _ (by simp)).trans (by go_simp)
  have d5 : w2.cell? ⟨w1.heap.size + 1 + 1, 5, none⟩ = some (.int .i64 v.i2) := (hc2 _ _ (by simp)).trans (by go_simp)
  have d6 : w2.cell? ⟨w1.heap.size + 1 + 1, 6, none⟩ = some (.int .i64 v.i3) := (hc2 _ _ (by simp)).trans (by go_simp)
  have d7 : w2.cell? ⟨w1.heap.size + 1 + 1, 7, none⟩ = some (.int .i64 v.i4) := (hc2 _ _ (by simp)).trans (by go_simp)
  have d8 : w2.cell? ⟨w1.heap.size + 1 + 1, 8, none⟩ = some (.int .i64 v.i5) := (hc2 _ _ (by simp)).trans (by go_simp)
  have d9 : w2.cell? ⟨w1.heap.size + 1 + 1, 9, none⟩ = some (.string v.s2) := (hc2 _ _ (by simp)).trans (by go_simp)
  have d10 : w2.cell? ⟨w1.heap.size + 1 + 1, 10, none⟩ = some (.slice v.bA v.bn v.bc) := (hc2 _ _ (by simp)).trans (by go_simp)
  have d11 : w2.cell? ⟨w1.heap.size + 1 + 1, 11, none⟩ = some (.slice v.lA v.ln v.lc) := (hc2 _ _ (by simp)).trans (by go_simp)
  have d12 : w2.cell? ⟨w1.heap.size + 1 + 1, 12, none⟩ = some (.slice v.fA v.fn v.fc) := (hc2 _ _ (by simp)).trans (by go_simp)
  have g0 : w2.cell? ⟨w1.heap.size + 1 + 1 + 1 + 1, 0, none⟩ = some (.string ⟨#[97]⟩) := (hc2 _ _ (by simp)).trans (by go_simp)
  have g1 : w2.cell? ⟨w1.heap.size + 1 + 1 + 1 + 1, 1, none⟩ = some (.int .i64 v.k) := (hc2 _ _ (by simp)).trans (by go_simp)
  have g2 : w2.cell? ⟨w1.heap.size + 1 + 1 + 1 + 1, 2, none⟩ = some (.bool v.b1) := (hc2 _ _ (by simp)).trans (by go_simp)
  have g3 : w2.cell? ⟨w1.heap.size + 1 + 1 + 1 + 1, 3, none⟩ = some (.bool v.b2) := (hc2 _ _ (by simp)).trans (by go_simp)
  have g4 : w2.cell? ⟨w1.heap.size + 1 + 1 + 1 + 1, 4, none⟩ = some (.string v.s1) := (hc2 _ _ (by simp)).trans (by go_simp)
  have g5 : w2.cell? ⟨w1.heap.size + 1 + 1 + 1 + 1, 5, none⟩ = some (.int .i64 v.i1) := (hc2 _ _ (by simp)).trans (by go_simp)
  have g6 : w2.cell? ⟨w1.heap.size + 1 + 1 + 1 + 1, 6, none⟩ = some (.int .i64 v.i2) := (hc2 _ _ (by simp)).trans (by go_simp)
  have g7 : w2.cell? ⟨w1.heap.size + 1 + 1 + 1 + 1, 7, none⟩ = some (.int .i64 v.i3) := (hc2 _ _ (by simp)).trans (by go_simp)
  have g8 : w2.cell? ⟨w1.heap.size + 1 + 1 + 1 + 1, 8, none⟩ = some (.int .i64 v.i4) := (hc2 _ _ (by simp)).trans (by go_simp)
  have g9 : w2.cell? ⟨w1.heap.size + 1 + 1 + 1 + 1, 9, none⟩ = some (.int .i64 v.i5) := (hc2 _ _ (by simp)).trans (by go_simp)
  have g10 : w2.cell? ⟨w1.heap.size + 1 + 1 + 1 + 1, 10, none⟩ = some (.string v.s2) := (hc2 _ _ (by simp)).trans (by go_simp)
  have g11 : w2.cell? ⟨w1.heap.size + 1 + 1 + 1 + 1, 11, none⟩ = some (.slice v.bA v.bn v.bc) := (hc2 _ _ (by simp)).trans (by go_simp)
  have g12 : w2.cell? ⟨w1.heap.size + 1 + 1 + 1 + 1, 12, none⟩ = some (.slice v.lA v.ln v.lc) := (hc2 _ _ (by simp)).trans (by go_simp)
  have g13 : w2.cell? ⟨w1.heap.size + 1 + 1 + 1 + 1, 13, none⟩ = some (.slice v.fA v.fn v.fc) := (hc2 _ _ (by simp)).trans (by go_simp)
  simp at hs2
  have z2 : w1.heap.size + 1 + 1 < w2.heap.size := by omega
  have z4 : w1.heap.size + 1 + 1 + 1 + 1 < w2.heap.size := by omega
  have hrl := rep_list ⟨d0, d1, d2, d3, d4, d5, d6, d7, d8, d9, d10, d11, d12⟩ z2 R2.out
  have hrm := rep_map g0 ⟨g1 , g2 , g3 , g4 , g5 , g6 , g7 , g8 , g9 , g10 , g11 , g12 , g13⟩ z4 R2.out
  have RL := Lib.hid hrl
  have RM := Lib.hid hrm
  clear hrl hrm d0 d1 d2 d3 d4 d5 d6 d7 d8 d9 d10 d11 d12 g0 g1 g2 g3 g4 g5 g6 g7 g8 g9 g10 g11 g12 g13
  have y0 : w.heap.size < w2.heap.size := by omega
  have y1 : w1.heap.size < w2.heap.size := by omega
  have y2 : w1.heap.size + 1 < w2.heap.size := by omega
  have y3 : w1.heap.size + 1 + 1 < w2.heap.size := by omega
  have y4 : w1.heap.size + 1 + 1 + 1 < w2.heap.size := by omega
  have y5 : w1.heap.size + 1 + 1 + 1 + 1 < w2.heap.size := by omega
  have y6 : w1.heap.size + 1 + 1 + 1 + 1 + 1 < w2.heap.size := by omega
  go_wp2_with fail
  have h2 := valueP_any (p % 46 + 1 + 1) (q + 1 + 1) 1 0 0 _ _ _ w2 RL.out (by have := HS.out; simp only [sizeF, sizeL]; omega)
  rw [HE2.out] at h2
  refine h2.mono ?_
  clear h2
  rintro e w3 ⟨rfl, hb3⟩
  obtain ⟨hc3, hf3, hs3⟩ := Gr.cells hb3
  have x0 : w.heap.size < w3.heap.size := by omega
  have x1 : w1.heap.size < w3.heap.size := by omega
  have x2 : w1.heap.size + 1 < w3.heap.size := by omega
  have x3 : w1.heap.size + 1 + 1 < w3.heap.size := by omega
  have x4 : w1.heap.size + 1 + 1 + 1 < w3.heap.size := by omega
  have x5 : w1.heap.size + 1 + 1 + 1 + 1 < w3.heap.size := by omega
  have x6 : w1.heap.size + 1 + 1 + 1 + 1 + 1 < w3.heap.size := by omega
  go_wp2_with fail
  have h3 := valueP_any (p % 46 + 1 + 1) (q + 1 + 1) 1 0 0 _ _ _ w3 (VRep.keep hb3 _ _ _ RM.out) (by have := HS.out; simp only [sizeF, sizeL]; omega)
  rw [HE3.out] at h3
  refine h3.mono ?_
  clear h3
  rintro e w4 ⟨rfl, hb4⟩
  go_wp2_with (go_at_call 13; refine (awake_any _).mono ?_; rintro e w5 ⟨rfl, hb5⟩)
  go_ret
  exact ⟨rfl, (by with_reducible (repeat (first | exact Gr.refl _ | assumption | apply Gr.alloc | apply Gr.drew | apply Gr.drewN | refine Gr.setCell ?_ (by first | (simp; done) | (simp; omega)) _ | refine Gr.trans ?_ (by assumption))))⟩

set_option maxRecDepth 100000 in
set_option maxHeartbeats 8000000 in
theorem limitNests_0 (p q : Int) (m : Nat) (v : VD) (t : VT) (w : World) (hp : 0 ≤ p ∧ p ≤ 255) (hq : 0 ≤ q ∧ q ≤ 255) (hr : VRep m w v t) (Z : Int) (hZ : lightF t 40 400 = Z) (hpos : 0 ≤ Z) (hE : valueF (p % 46 + 1) (q + 1) 1 0 0 t = 0) :
    Calls Try.prog 10 #[.int .u8 p, .int .u8 q, .agg #[.int .i64 v.k, .bool v.b1, .bool v.b2, .string v.s1, .int .i64 v.i1, .int .i64 v.i2, .int .i64 v.i3, .int .i64 v.i4, .int .i64 v.i5, .string v.s2, .slice v.bA v.bn v.bc, .slice v.lA v.ln v.lc, .slice v.fA v.fn v.fc]] w (RB true w) := by
  have hs : sizeF t ≤ 400 := by have := lightF_size t 40 400 (by omega); omega
  have HS := Lib.hid hs
  clear hs
  have HE := Lib.hid hE
  have hE2 := (valueF_list (p % 46 + 1) (q + 1) t (by omega) (by omega) (by omega) (by omega)).trans hE
  have hE3 := (valueF_map (p % 46 + 1) (q + 1) t (by omega) (by omega) (by omega) (by omega)).trans hE
  have HE2 := Lib.hid hE2
  have HE3 := Lib.hid hE3
  clear hE hE2 hE3
  have HR := Lib.hid hr
  clear hr
  go_enter Try.func10, Try.ntmps10
  go_wp2_with fail
  refine (light_any m v t 40 400 _ (VRep.keep ((Gr.refl _).alloc _) _ _ _ HR.out) (by omega) (by omega)).mono ?_
  rw [hZ]
  rintro e w1 ⟨rfl, hb1⟩
  obtain ⟨hc1, hf1, hs1⟩ := Gr.cells hb1
  have c1_0 := fun o => hc1 (w.heap.size) o (by first | assumption | (simp; done) | (simp; omega))
  have f1_0 := fun o => hf1 (w.heap.size) o (by first | assumption | (simp; done) | (simp; omega))
  clear hc1 hf1
  try simp at hs1
  have l1_0 : w.heap.size < w1.heap.size := by omega
  have q1 : w.heap.size < w1.heap.size + 1 := by omega
  have q2 : w.heap.size < w1.heap.size + 1 + 1 := by omega
  have q3 : w.heap.size < w1.heap.size + 1 + 1 + 1 := by omega
  have q4 : w.heap.size < w1.heap.size + 1 + 1 + 1 + 1 := by omega
  have q5 : w.heap.size < w1.heap.size + 1 + 1 + 1 + 1 + 1 := by omega
  have q6 : w.heap.size < w1.heap.size + 1 + 1 + 1 + 1 + 1 + 1 := by omega
  go_wp2_with fail
  have hrep1 := (VRep.keep hb1 _ _ _ (VRep.keep ((Gr.refl _).alloc _) _ _ _ HR.out))
  have R1 := Lib.hid hrep1
  clear hrep1
  refine (valueP_in R1.out (by have := HS.out; omega) HE.out (by with_reducible (repeat (first | exact Gr.refl _ | assumption | apply Gr.alloc | apply Gr.drew | apply Gr.drewN | refine Gr.setCell ?_ (by first | (simp; done) | (simp; omega)) _ | refine Gr.trans ?_ (by assumption))))).mono ?_
  rintro e w2 ⟨rfl, hb2⟩
  have hrep2 := VRep.keep (Gr.trans (by with_reducible (repeat (first | exact Gr.refl _ | assumption | apply Gr.alloc | apply Gr.drew | apply Gr.drewN | refine Gr.setCell ?_ (by first | (simp; done) | (simp; omega)) _ | refine Gr.trans ?_ (by assumption)))) hb2) _ _ _ R1.out
  have R2 := Lib.hid hrep2
  clear hrep2
  obtain ⟨hc2, hf2, hs2⟩ := Gr.cells hb2
  have d0 : w2.cell? ⟨w1.heap.size + 1 + 1, 0, none⟩ = some (.int .i64 v.k) := (hc2 _ _ (by simp)).trans (by go_simp)
  have d1 : w2.cell? ⟨w1.heap.size + 1 + 1, 1, none⟩ = some (.bool v.b1) := (hc2 _ _ (by simp)).trans (by go_simp)
  have d2 : w2.cell? ⟨w1.heap.size + 1 + 1, 2, none⟩ = some (.bool v.b2) := (hc2 _ _ (by simp)).trans (by go_simp)
  have d3 : w2.cell? ⟨w1.heap.size + 1 + 1, 3, none⟩ = some (.string v.s1) := (hc2 _ _ (by simp)).trans (by go_simp)
  have d4 : w2.cell? ⟨w1.heap.size + 1 + 1, 4, none⟩ = some (.int .i64 v.i1) := (hc2 _ _ (by simp)).trans (by go_simp)
  have d5 : w2.cell? ⟨w1.heap.size + 1 + 1, 5, none⟩ = some (.int .i64 v.i2) := (hc2 _ _ (by simp)).trans (by go_simp)
  have d6 : w2.cell? ⟨w1.heap.size + 1 + 1, 6, none⟩ = some (.int .i64 v.i3) := (hc2 _ _ (by simp)).trans (by go_simp)
  have d7 : w2.cell? ⟨w1.heap.size + 1 + 1, 7, none⟩ = some (.int .i64 v.i4) := (hc2 _ _ (by simp)).trans (by go_simp)
  have d8 : w2.cell? ⟨w1.heap.size + 1 + 1, 8, none⟩ = some (.int .i64 v.i5) := (hc2 _ _ (by simp)).trans (by go_simp)
  have d9 : w2.cell? ⟨w1.heap.size + 1 + 1, 9, none⟩ = some (.string v.s2) := (hc2 _ _ (by simp)).trans (by go_simp)
  have d10 : w2.cell? ⟨w1.heap.size + 1 + 1, 10, none⟩ = some (.slice v.bA v.bn v.bc) := (hc2 _ _ (by simp)).trans (by go_simp)
  have d11 : w2.cell? ⟨w1.heap.size + 1 + 1, 11, none⟩ = some (.slice v.lA v.ln v.lc) := (hc2 _ _ (by simp)).trans (by go_simp)
  have d12 : w2.cell? ⟨w1.heap.size + 1 + 1, 12, none⟩ = some (.slice v.fA v.fn v.fc) := (hc2 _ _ (by simp)).trans (by go_simp)
  have g0 : w2.cell? ⟨w1.heap.size + 1 + 1 + 1 + 1, 0, none⟩ = some (.string ⟨#[97]⟩) := (hc2 _ _ (by simp)).trans (by go_simp)
  have g1 : w2.cell? ⟨w1.heap.size + 1 + 1 + 1 + 1, 1, none⟩ = some (.int .i64 v.k) := (hc2 _ _ (by simp)).trans (by go_simp)
  have g2 : w2.cell? ⟨w1.heap.size + 1 + 1 + 1 + 1, 2, none⟩ = some (.bool v.b1) := (hc2 _ _ (by simp)).trans (by go_simp)
  have g3 : w2.cell? ⟨w1.heap.size + 1 + 1 + 1 + 1, 3, none⟩ = some (.bool v.b2) := (hc2 _ _ (by simp)).trans (by go_simp)
  have g4 : w2.cell? ⟨w1.heap.size + 1 + 1 + 1 + 1, 4, none⟩ = some (.string v.s1) := (hc2 _ _ (by simp)).trans (by go_simp)
  have g5 : w2.cell? ⟨w1.heap.size + 1 + 1 + 1 + 1, 5, none⟩ = some (.int .i64 v.i1) := (hc2 _ _ (by simp)).trans (by go_simp)
  have g6 : w2.cell? ⟨w1.heap.size + 1 + 1 + 1 + 1, 6, none⟩ = some (.int .i64 v.i2) := (hc2 _ _ (by simp)).trans (by go_simp)
  have g7 : w2.cell? ⟨w1.heap.size + 1 + 1 + 1 + 1, 7, none⟩ = some (.int .i64 v.i3) := (hc2 _ _ (by simp)).trans (by go_simp)
  have g8 : w2.cell? ⟨w1.heap.size + 1 + 1 + 1 + 1, 8, none⟩ = some (.int .i64 v.i4) := (hc2 _ _ (by simp)).trans (by go_simp)
  have g9 : w2.cell? ⟨w1.heap.size + 1 + 1 + 1 + 1, 9, none⟩ = some (.int .i64 v.i5) := (hc2 _ _ (by simp)).trans (by go_simp)
  have g10 : w2.cell? ⟨w1.heap.size + 1 + 1 + 1 + 1, 10, none⟩ = some (.string v.s2) := (hc2 _ _ (by simp)).trans (by go_simp)
  have g11 : w2.cell? ⟨w1.heap.size + 1 + 1 + 1 + 1, 11, none⟩ = some (.slice v.bA v.bn v.bc) := (hc2 _ _ (by simp)).trans (by go_simp)
  have g12 : w2.cell? ⟨w1.heap.size + 1 + 1 + 1 + 1, 12, none⟩ = some (.slice v.lA v.ln v.lc) := (hc2 _ _ (by simp)).trans (by go_simp)
  have g13 : w2.cell? ⟨w1.heap.size + 1 + 1 + 1 + 1, 13, none⟩ = some (.slice v.fA v.fn v.fc) := (hc2 _ _ (by simp)).trans (by go_simp)
  simp at hs2
  have z2 : w1.heap.size + 1 + 1 < w2.heap.size := by omega
  have z4 : w1.heap.size + 1 + 1 + 1 + 1 < w2.heap.size := by omega
  have hrl := rep_list ⟨d0, d1, d2, d3, d4, d5, d6, d7, d8, d9, d10, d11, d12⟩ z2 R2.out
  have hrm := rep_map g0 ⟨g1 , g2 , g3 , g4 , g5 , g6 , g7 , g8 , g9 , g10 , g11 , g12 , g13⟩ z4 R2.out
  have RL := Lib.hid hrl
  have RM := Lib.hid hrm
  clear hrl hrm d0 d1 d2 d3 d4 d5 d6 d7 d8 d9 d10 d11 d12 g0 g1 g2 g3 g4 g5 g6 g7 g8 g9 g10 g11 g12 g13
  have y0 : w.heap.size < w2.heap.size := by omega
  have y1 : w1.heap.size < w2.heap.size := by omega
  have y2 : w1.heap.size + 1 < w2.heap.size := by omega
  have y3 : w1.heap.size + 1 + 1 < w2.heap.size := by omega
  have y4 : w1.heap.size + 1 + 1 + 1 < w2.heap.size := by omega
  have y5 : w1.heap.size + 1 + 1 + 1 + 1 < w2.heap.size := by omega
  have y6 : w1.heap.size + 1 + 1 + 1 + 1 + 1 < w2.heap.size := by omega
  go_wp2_with fail
  have h2 := valueP_any (p % 46 + 1 + 1) (q + 1 + 1) 1 0 0 _ _ _ w2 RL.out (by have := HS.out; simp only [sizeF, sizeL]; omega)
  rw [HE2.out] at h2
  refine h2.mono ?_
  clear h2
  rintro e w3 ⟨rfl, hb3⟩
  obtain ⟨hc3, hf3, hs3⟩ := Gr.cells hb3
  have x0 : w.heap.size < w3.heap.size := by omega
  have x1 : w1.heap.size < w3.heap.size := by omega
  have x2 : w1.heap.size + 1 < w3.heap.size := by omega
  have x3 : w1.heap.size + 1 + 1 < w3.heap.size := by omega
  have x4 : w1.heap.size + 1 + 1 + 1 < w3.heap.size := by omega
  have x5 : w1.heap.size + 1 + 1 + 1 + 1 < w3.heap.size := by omega
  have x6 : w1.heap.size + 1 + 1 + 1 + 1 + 1 < w3.heap.size := by omega
  go_wp2_with fail
  have h3 := valueP_any (p % 46 + 1 + 1) (q + 1 + 1) 1 0 0 _ _ _ w3 (VRep.keep hb3 _ _ _ RM.out) (by have := HS.out; simp only [sizeF, sizeL]; omega)
  rw [HE3.out] at h3
  refine h3.mono ?_
  clear h3
  rintro e w4 ⟨rfl, hb4⟩
  go_wp2_with (go_at_call 13; refine (awake_any _).mono ?_; rintro e w5 ⟨rfl, hb5⟩)
  go_ret
  exact ⟨rfl, (by with_reducible (repeat (first | exact Gr.refl _ | assumption | apply Gr.alloc | apply Gr.drew | apply Gr.drewN | refine Gr.setCell ?_ (by first | (simp; done) | (simp; omega)) _ | refine Gr.trans ?_ (by assumption))))⟩

theorem limitNests_any (p q : Int) (m : Nat) (v : VD) (t : VT) (w : World) (hp : 0 ≤ p ∧ p ≤ 255) (hq : 0 ≤ q ∧ q ≤ 255) (hr : VRep m w v t) : Calls Try.prog 10 #[.int .u8 p, .int .u8 q, .agg #[.int .i64 v.k, .bool v.b1, .bool v.b2, .string v.s1, .int .i64 v.i1, .int .i64 v.i2, .int .i64 v.i3, .int .i64 v.i4, .int .i64 v.i5, .string v.s2, .slice v.bA v.bn v.bc, .slice v.lA v.ln v.lc, .slice v.fA v.fn v.fc]] w (RB true w) := by
  rcases Int.lt_or_le (lightF t 40 400) 0 with h | h
  · exact limitNests_big p q m v t w hp hq hr _ rfl h
  · rcases valueF_three (p % 46 + 1) (q + 1) t (by omega) (by omega) (by omega) (by omega) with hE | hE | hE
    · exact limitNests_9 p q m v t w hp hq hr _ rfl h hE
    · exact limitNests_10 p q m v t w hp hq hr _ rfl h hE
    · exact limitNests_0 p q m v t w hp hq hr _ rfl h hE

namespace LimitNests
set_option maxRecDepth 100000 in
theorem lifted (os : Os) (started : os.Started) (H : Type) (enc : TypeId × Value → H) :
    ReturnsInHanded {} Try.checked os 10 .any (Rows.limitNestsSpec.pre6 enc Try.prog Try.f10 Rows.limitNestsRow.domain false) (Rows.limitNestsSpec.post enc Try.prog Try.f10 false true false false) := by
  refine law_lifted (C := Try.checked) (tb := 4) own started (by kernel_rfl) Try.func10 laidOut rfl rfl Try.underlying4 (by kernel_rfl) ?_
    (ChangeSpec.witness6 (enc := enc) (C := Try.checked) false ⟨#[], #[.int .u8 0, .int .u8 0, .agg #[.int .i64 0, .bool false, .bool false, .string ⟨#[]⟩, .int .i64 0, .int .i64 0, .int .i64 0, .int .i64 0, .int .i64 0, .string ⟨#[]⟩, .slice none 0 0, .slice none 0 0, .slice none 0 0]], []⟩ 8 (by kernel_rfl) (by kernel_rfl) (by kernel_rfl) (by kernel_rfl)) ?_
  · intro ds hl
    match ds, hl with
    | [_, _, _], _ => rfl
  · intro W base args ds ps hval0 hA0 hlt
    have hval : ∀ (j : Nat) t v, Try.f10.params[j]? = some t → args[j]? = some v → Value.okWide Try.prog W .any base t v := hval0
    have hA : DataW.TrodAll enc Try.prog W 0 (fun _ => true) true Try.f10.params.toList args.toList ds ps := hA0
    rw [Try.params10] at hA hval
    obtain ⟨v0, v1, v2, d0, d1, d2, p0, p1, p2, rfl, rfl, rfl, h0, h1, h2⟩ := trodAll_three hA
    obtain ⟨pp, rfl, rfl, rfl, wpp⟩ := open_int Try.underlying5 (hval 0 5 v0 rfl rfl) h0
    obtain ⟨qq, rfl, rfl, rfl, wqq⟩ := open_int Try.underlying5 (hval 1 5 v1 rfl rfl) h1
    obtain ⟨e, t, m, rfl, hrep⟩ := open_value (hval 2 50 v2 rfl rfl) h2
    exact limitNests_any pp qq m e t W (by have h := wpp; simpa [Lit.wf, IntKind.min, IntKind.max, IntKind.signed, IntKind.bits] using h) (by have h := wqq; simpa [Lit.wf, IntKind.min, IntKind.max, IntKind.signed, IntKind.bits] using h) hrep

theorem proved : Rows.LimitNestsSaid :=
  OpenClaim.holds_of_wide 10 Try.f10 rfl rfl rfl rfl rfl rfl rfl ⟨rfl, rfl, rfl, rfl, rfl⟩ rfl rfl rfl rfl rfl (by kernel_rfl) Try.func10 (by kernel_rfl)
    (of_decide_eq_true (by kernel_rfl)) (by unfold Func.isWrapper; first | (rw [if_pos (by decide +kernel)]; kernel_rfl) | (rw [if_neg (by decide +kernel)]; exact ⟨rfl, rfl⟩))
    (fun os started H enc _ => lifted os started H enc)
end LimitNests
end Go.Proofs.Ytlfhiolngpoamaa
