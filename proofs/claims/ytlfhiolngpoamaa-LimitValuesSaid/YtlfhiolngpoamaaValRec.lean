/- The nesting and the number of nodes of a value: what deeper, count and their references return. -/
import Derived.Test.YtlfhiolngpoamaaValSpec
namespace Go.Proofs.Ytlfhiolngpoamaa
open Go.ChangeShapes Go.WideShapes Go.ChangeAt Go.RowKit

/-- The loop of deeper: i. -/
def DeepRel (w : World) (ts : List VT) (n : Int) (R : Bool) (i : Value) (wr : World) : Prop :=
  ∃ j : Nat, j ≤ ts.length ∧ i = .int .i64 j ∧ deepL (ts.drop j) n = R ∧ Gr w wr
/-- The loop of count: n, i. -/
def CountRel (w : World) (ts : List VT) (most : Int) (R : Int) (n i : Value) (wr : World) : Prop :=
  ∃ (j : Nat) (z : Int), j ≤ ts.length ∧ i = .int .i64 j ∧ n = .int .i64 z ∧ 1 ≤ z ∧ z ≤ 1 + nodesL (ts.take j) ∧ countL (ts.drop j) most z = R ∧ Gr w wr
/-- The loop of Nodes: n, i. -/
def NodesRel (w : World) (ts : List VT) (n i : Value) (wr : World) : Prop :=
  ∃ j : Nat, j ≤ ts.length ∧ i = .int .i64 j ∧ n = .int .i64 (1 + nodesL (ts.take j) : Nat) ∧ Gr w wr
theorem nodesL_take_succ {l : List VT} {j : Nat} {x : VT} (h : l[j]? = some x) : nodesL (l.take (j + 1)) = nodesL (l.take j) + nodesF x := by
  rw [List.take_add_one, h]
  generalize l.take j = a
  induction a with
  | nil => simp [nodesL]
  | cons y a ih => simp only [List.cons_append, nodesL]; simp only [Option.toList] at ih ⊢; omega

set_option maxRecDepth 100000 in
set_option maxHeartbeats 4000000 in
theorem deepP_any : ∀ (m : Nat) (v : VD) (t : VT) (n : Int) (w : World), VRep m w v t → sizeF t ≤ 500 → n ≤ 9223372036854775807 →
    Calls Try.prog 33 #[.agg #[.int .i64 v.k, .bool v.b1, .bool v.b2, .string v.s1, .int .i64 v.i1, .int .i64 v.i2, .int .i64 v.i3, .int .i64 v.i4, .int .i64 v.i5, .string v.s2, .slice v.bA v.bn v.bc, .slice v.lA v.ln v.lc, .slice v.fA v.fn v.fc], .int .i64 n] w (RB (deepF t n) w) := by
  intro m
  induction m with
  | zero => intro v t n w h; exact h.elim
  | succ m ih =>
    intro v t n w hr hs hn
    have HI := Lib.hid ih
    have HR := Lib.hid hr
    have HS := Lib.hid hs
    clear ih hr hs
    by_cases c1 : n < 1
    · have hres : deepF t n = true := by rw [deepF_eq, if_pos c1]
      rw [hres]; clear hres
      go_enter Try.func33, Try.ntmps33
      go_wp2_with fail
      go_ret
      exact ⟨rfl, (by with_reducible (repeat (first | exact Gr.refl _ | assumption | apply Gr.alloc | apply Gr.drew | apply Gr.drewN | refine Gr.setCell ?_ (by first | (simp; done) | (simp; omega)) _ | refine Gr.trans ?_ (by assumption))))⟩
    have hres : deepF t n = deepL (partsF t) (n - 1) := by rw [deepF_eq, if_neg c1]
    rw [hres]; clear hres
    generalize hRR : deepL (partsF t) (n - 1) = RR
    have HRR := Lib.hid hRR
    clear hRR
    go_enter Try.func33, Try.ntmps33
    go_wp2_with fail
    refine (partsP_any m v t _ (VRep.keep ((Gr.refl _).alloc _) _ _ _ HR.out) HS.out).mono ?_
    rintro e w1 ⟨A, len, cap, rfl, hP, hb1⟩
    have HG1 : Gr w w1 := Gr.trans ((Gr.refl _).alloc _) hb1
    obtain ⟨hc1, hf1, hs1⟩ := Gr.cells hb1
    simp at hs1
    have hlen : len ≤ 500 := by have h1 := hP.1; have h2 := sizeL_length (partsF t); have h3 := sizeL_parts t; have h4 := HS.out; omega
    have HL := Lib.hid hP.1
    have HPP := Lib.hid hP
    clear hP
    go_wp2_with fail
    go_loopw [12] (fun i wr => DeepRel w1 (partsF t) (n - 1) RR i wr) (fun i _ => len - (intOf i).toNat)
    case atStart => exact ⟨0, Nat.zero_le _, rfl, HRR.out, Gr.refl _⟩
    case round =>
      obtain ⟨j, hj, rfl, hjR, hGw⟩ := hrel
      have HJR := Lib.hid hjR
      clear hjR
      by_cases hlt : j < len
      · obtain ⟨x, hx⟩ : ∃ x, (partsF t)[j]? = some x := ⟨(partsF t)[j]'(by have := HL.out; omega), List.getElem?_eq_getElem _⟩
        have Hx := Lib.hid hx
        obtain ⟨bb, o, e, rfl, hbb, hce, hre⟩ := HPP.out.2 j x hx
        clear hx
        have hre' := VRep.keep hGw _ _ _ hre
        have HE := Lib.hid hre'
        obtain ⟨e0, e1, e2, e3, e4, e5, e6, e7, e8, e9, e10, e11, e12⟩ := hce.keep hGw hbb
        have hlt1 : (j : Int) < (len : Int) := by omega
        clear hre hre' hce
        by_cases hd : deepF x (n - 1) = true
        · have hT : RR = true := by rw [← HJR.out, drop_cons Hx.out, deepL, hd]; rfl
          have HT := Lib.hid hT
          clear hT
          go_wp2_with (go_at_call 33; refine (HI.out _ x _ _ (VRep.keep ((Gr.refl _).alloc _) _ _ _ HE.out) (size_part Hx.out HS.out) (by omega)).mono ?_; rintro e w2 ⟨rfl, hb2⟩)
          go_ret
          exact ⟨ret_bool HT.out.symm, (by with_reducible (repeat (first | exact Gr.refl _ | assumption | apply Gr.alloc | apply Gr.drew | apply Gr.drewN | refine Gr.setCell ?_ (by first | (simp; done) | (simp; omega)) _ | refine Gr.trans ?_ (by assumption))))⟩
        · simp only [Bool.not_eq_true] at hd
          have hT : deepL ((partsF t).drop (j + 1)) (n - 1) = RR := by rw [← HJR.out, drop_cons Hx.out, deepL, hd]; rfl
          have HT := Lib.hid hT
          clear hT
          go_wp2_with (go_at_call 33; refine (HI.out _ x _ _ (VRep.keep ((Gr.refl _).alloc _) _ _ _ HE.out) (size_part Hx.out HS.out) (by omega)).mono ?_; rintro e w2 ⟨rfl, hb2⟩)
          go_roundw
          case rel => exact ⟨j + 1, by have := HL.out; omega, by go_num, HT.out, (by with_reducible (repeat (first | exact Gr.refl _ | assumption | apply Gr.alloc | apply Gr.drew | apply Gr.drewN | refine Gr.setCell ?_ (by first | (simp; done) | (simp; omega)) _ | refine Gr.trans ?_ (by assumption))))⟩
          case measure => simp [intOf]; omega
      · have hj2 : j = (partsF t).length := by have := HL.out; omega
        have HJ := Lib.hid hj2
        clear hj2
        have hT : RR = false := by rw [← HJR.out, List.drop_of_length_le (by rw [HJ.out]; omega), deepL]
        have HT := Lib.hid hT
        clear hT
        go_wp2_with fail
        go_ret
        exact ⟨ret_bool HT.out.symm, (by with_reducible (repeat (first | exact Gr.refl _ | assumption | apply Gr.alloc | apply Gr.drew | apply Gr.drewN | refine Gr.setCell ?_ (by first | (simp; done) | (simp; omega)) _ | refine Gr.trans ?_ (by assumption))))⟩


set_option maxRecDepth 100000 in
set_option maxHeartbeats 4000000 in
theorem deepR_any : ∀ (m : Nat) (v : VD) (t : VT) (n : Int) (w : World), VRep m w v t → sizeF t ≤ 500 → n ≤ 9223372036854775807 →
    Calls Try.prog 35 #[.agg #[.int .i64 v.k, .bool v.b1, .bool v.b2, .string v.s1, .int .i64 v.i1, .int .i64 v.i2, .int .i64 v.i3, .int .i64 v.i4, .int .i64 v.i5, .string v.s2, .slice v.bA v.bn v.bc, .slice v.lA v.ln v.lc, .slice v.fA v.fn v.fc], .int .i64 n] w (RB (deepF t n) w) := by
  intro m
  induction m with
  | zero => intro v t n w h; exact h.elim
  | succ m ih =>
    intro v t n w hr hs hn
    have HI := Lib.hid ih
    have HR := Lib.hid hr
    have HS := Lib.hid hs
    clear ih hr hs
    by_cases c1 : n < 1
    · have hres : deepF t n = true := by rw [deepF_eq, if_pos c1]
      rw [hres]; clear hres
      go_enter Try.func35, Try.ntmps35
      go_wp2_with fail
      go_ret
      exact ⟨rfl, (by with_reducible (repeat (first | exact Gr.refl _ | assumption | apply Gr.alloc | apply Gr.drew | apply Gr.drewN | refine Gr.setCell ?_ (by first | (simp; done) | (simp; omega)) _ | refine Gr.trans ?_ (by assumption))))⟩
    have hres : deepF t n = deepL (partsF t) (n - 1) := by rw [deepF_eq, if_neg c1]
    rw [hres]; clear hres
    generalize hRR : deepL (partsF t) (n - 1) = RR
    have HRR := Lib.hid hRR
    clear hRR
    go_enter Try.func35, Try.ntmps35
    go_wp2_with fail
    refine (partsR_any m v t _ (VRep.keep ((Gr.refl _).alloc _) _ _ _ HR.out) HS.out).mono ?_
    rintro e w1 ⟨A, len, cap, rfl, hP, hb1⟩
    have HG1 : Gr w w1 := Gr.trans ((Gr.refl _).alloc _) hb1
    obtain ⟨hc1, hf1, hs1⟩ := Gr.cells hb1
    simp at hs1
    have hlen : len ≤ 500 := by have h1 := hP.1; have h2 := sizeL_length (partsF t); have h3 := sizeL_parts t; have h4 := HS.out; omega
    have HL := Lib.hid hP.1
    have HPP := Lib.hid hP
    clear hP
    go_wp2_with fail
    go_loopw [6] (fun i wr => DeepRel w1 (partsF t) (n - 1) RR i wr) (fun i _ => len - (intOf i).toNat)
    case atStart => exact ⟨0, Nat.zero_le _, rfl, HRR.out, Gr.refl _⟩
    case round =>
      obtain ⟨j, hj, rfl, hjR, hGw⟩ := hrel
      have HJR := Lib.hid hjR
      clear hjR
      by_cases hlt : j < len
      · obtain ⟨x, hx⟩ : ∃ x, (partsF t)[j]? = some x := ⟨(partsF t)[j]'(by have := HL.out; omega), List.getElem?_eq_getElem _⟩
        have Hx := Lib.hid hx
        obtain ⟨bb, o, e, rfl, hbb, hce, hre⟩ := HPP.out.2 j x hx
        clear hx
        have hre' := VRep.keep hGw _ _ _ hre
        have HE := Lib.hid hre'
        obtain ⟨e0, e1, e2, e3, e4, e5, e6, e7, e8, e9, e10, e11, e12⟩ := hce.keep hGw hbb
        have hlt1 : (j : Int) < (len : Int) := by omega
        clear hre hre' hce
        by_cases hd : deepF x (n - 1) = true
        · have hT : RR = true := by rw [← HJR.out, drop_cons Hx.out, deepL, hd]; rfl
          have HT := Lib.hid hT
          clear hT
          go_wp2_with (go_at_call 35; refine (HI.out _ x _ _ (HE.out) (size_part Hx.out HS.out) (by omega)).mono ?_; rintro e w2 ⟨rfl, hb2⟩)
          go_ret
          exact ⟨ret_bool HT.out.symm, (by with_reducible (repeat (first | exact Gr.refl _ | assumption | apply Gr.alloc | apply Gr.drew | apply Gr.drewN | refine Gr.setCell ?_ (by first | (simp; done) | (simp; omega)) _ | refine Gr.trans ?_ (by assumption))))⟩
        · simp only [Bool.not_eq_true] at hd
          have hT : deepL ((partsF t).drop (j + 1)) (n - 1) = RR := by rw [← HJR.out, drop_cons Hx.out, deepL, hd]; rfl
          have HT := Lib.hid hT
          clear hT
          go_wp2_with (go_at_call 35; refine (HI.out _ x _ _ (HE.out) (size_part Hx.out HS.out) (by omega)).mono ?_; rintro e w2 ⟨rfl, hb2⟩)
          go_roundw
          case rel => exact ⟨j + 1, by have := HL.out; omega, by go_num, HT.out, (by with_reducible (repeat (first | exact Gr.refl _ | assumption | apply Gr.alloc | apply Gr.drew | apply Gr.drewN | refine Gr.setCell ?_ (by first | (simp; done) | (simp; omega)) _ | refine Gr.trans ?_ (by assumption))))⟩
          case measure => simp [intOf]; omega
      · have hj2 : j = (partsF t).length := by have := HL.out; omega
        have HJ := Lib.hid hj2
        clear hj2
        have hT : RR = false := by rw [← HJR.out, List.drop_of_length_le (by rw [HJ.out]; omega), deepL]
        have HT := Lib.hid hT
        clear hT
        go_wp2_with fail
        go_ret
        exact ⟨ret_bool HT.out.symm, (by with_reducible (repeat (first | exact Gr.refl _ | assumption | apply Gr.alloc | apply Gr.drew | apply Gr.drewN | refine Gr.setCell ?_ (by first | (simp; done) | (simp; omega)) _ | refine Gr.trans ?_ (by assumption))))⟩


set_option maxRecDepth 100000 in
set_option maxHeartbeats 4000000 in
theorem countP_any : ∀ (m : Nat) (v : VD) (t : VT) (most : Int) (w : World), VRep m w v t → sizeF t ≤ 500 → -1000 ≤ most → most ≤ 9223372036854775807 →
    Calls Try.prog 34 #[.agg #[.int .i64 v.k, .bool v.b1, .bool v.b2, .string v.s1, .int .i64 v.i1, .int .i64 v.i2, .int .i64 v.i3, .int .i64 v.i4, .int .i64 v.i5, .string v.s2, .slice v.bA v.bn v.bc, .slice v.lA v.ln v.lc, .slice v.fA v.fn v.fc], .int .i64 most] w (RI (countF t most) w) := by
  intro m
  induction m with
  | zero => intro v t most w h; exact h.elim
  | succ m ih =>
    intro v t most w hr hs hm0 hm1
    have HI := Lib.hid ih
    have HR := Lib.hid hr
    have HS := Lib.hid hs
    clear ih hr hs
    have hres := countF_eq t most
    rw [hres]; clear hres
    generalize hRR : countL (partsF t) most 1 = RR
    have HRR := Lib.hid hRR
    clear hRR
    go_enter Try.func34, Try.ntmps34
    go_wp2_with fail
    refine (partsP_any m v t _ (VRep.keep ((Gr.refl _).alloc _) _ _ _ HR.out) HS.out).mono ?_
    rintro e w1 ⟨A, len, cap, rfl, hP, hb1⟩
    have HG1 : Gr w w1 := Gr.trans ((Gr.refl _).alloc _) hb1
    obtain ⟨hc1, hf1, hs1⟩ := Gr.cells hb1
    simp at hs1
    have hlen : len ≤ 500 := by have h1 := hP.1; have h2 := sizeL_length (partsF t); have h3 := sizeL_parts t; have h4 := HS.out; omega
    have HL := Lib.hid hP.1
    have HPP := Lib.hid hP
    clear hP
    go_wp2_with fail
    go_loopw [5, 11] (fun n i wr => CountRel w1 (partsF t) most RR n i wr) (fun _ i _ => len - (intOf i).toNat)
    case atStart => exact ⟨0, 1, Nat.zero_le _, rfl, rfl, by omega, by omega, HRR.out, Gr.refl _⟩
    case round =>
      obtain ⟨j, z, hj, rfl, rfl, hz1, hz2, hjR, hGw⟩ := hrel
      have HJR := Lib.hid hjR
      clear hjR
      by_cases hlt : j < len
      · obtain ⟨x, hx⟩ : ∃ x, (partsF t)[j]? = some x := ⟨(partsF t)[j]'(by have := HL.out; omega), List.getElem?_eq_getElem _⟩
        have Hx := Lib.hid hx
        obtain ⟨bb, o, e, rfl, hbb, hce, hre⟩ := HPP.out.2 j x hx
        clear hx
        have hre' := VRep.keep hGw _ _ _ hre
        have HE := Lib.hid hre'
        obtain ⟨e0, e1, e2, e3, e4, e5, e6, e7, e8, e9, e10, e11, e12⟩ := hce.keep hGw hbb
        have hlt1 : (j : Int) < (len : Int) := by omega
        clear hre hre' hce
        have hsx := size_part Hx.out HS.out
        have hcs := countF_spec x (most - z)
        have hnl := nodesL_get _ _ _ Hx.out
        have hnt := nodesL_le (partsF t)
        have hst := sizeL_parts t
        have hS := HS.out
        by_cases hm : most < z
        · have hT : z = RR := by rw [← HJR.out, countL_over _ _ _ hm]
          have HT := Lib.hid hT
          clear hT
          go_wp2_with fail
          go_ret
          exact ⟨ret_int HT.out, (by with_reducible (repeat (first | exact Gr.refl _ | assumption | apply Gr.alloc | apply Gr.drew | apply Gr.drewN | refine Gr.setCell ?_ (by first | (simp; done) | (simp; omega)) _ | refine Gr.trans ?_ (by assumption))))⟩
        · have hT : countL ((partsF t).drop (j + 1)) most (z + countF x (most - z)) = RR := by rw [← HJR.out, drop_cons Hx.out, countL, if_neg hm]
          have HT := Lib.hid hT
          clear hT
          have hb1 : 1 ≤ countF x (most - z) := hcs.1
          have hb2 : countF x (most - z) ≤ 500 := by have := nodesF_le x; omega
          have hb3 : z ≤ 501 := by omega
          have hb4 : z + countF x (most - z) ≤ 1 + nodesL ((partsF t).take (j + 1)) := by rw [nodesL_take_succ Hx.out]; omega
          have HB4 := Lib.hid hb4
          clear hb4 hcs hnl hnt hst
          go_wp2_with (go_at_call 34; refine (HI.out _ x _ _ (VRep.keep ((Gr.refl _).alloc _) _ _ _ HE.out) hsx (by omega) (by omega)).mono ?_; rintro e w2 ⟨rfl, hb2⟩)
          go_roundw
          case rel => exact ⟨j + 1, z + countF x (most - z), by have := HL.out; omega, by go_num, rfl, by omega, HB4.out, HT.out, (by with_reducible (repeat (first | exact Gr.refl _ | assumption | apply Gr.alloc | apply Gr.drew | apply Gr.drewN | refine Gr.setCell ?_ (by first | (simp; done) | (simp; omega)) _ | refine Gr.trans ?_ (by assumption))))⟩
          case measure => simp [intOf]; omega
      · have hj2 : j = (partsF t).length := by have := HL.out; omega
        have HJ := Lib.hid hj2
        clear hj2
        have hT : z = RR := by rw [← HJR.out, List.drop_of_length_le (by rw [HJ.out]; omega), countL]
        have HT := Lib.hid hT
        clear hT
        go_wp2_with fail
        go_ret
        exact ⟨ret_int HT.out, (by with_reducible (repeat (first | exact Gr.refl _ | assumption | apply Gr.alloc | apply Gr.drew | apply Gr.drewN | refine Gr.setCell ?_ (by first | (simp; done) | (simp; omega)) _ | refine Gr.trans ?_ (by assumption))))⟩


set_option maxRecDepth 100000 in
set_option maxHeartbeats 4000000 in
theorem nodesR_any : ∀ (m : Nat) (v : VD) (t : VT) (w : World), VRep m w v t → sizeF t ≤ 500 → 
    Calls Try.prog 36 #[.agg #[.int .i64 v.k, .bool v.b1, .bool v.b2, .string v.s1, .int .i64 v.i1, .int .i64 v.i2, .int .i64 v.i3, .int .i64 v.i4, .int .i64 v.i5, .string v.s2, .slice v.bA v.bn v.bc, .slice v.lA v.ln v.lc, .slice v.fA v.fn v.fc]] w (RI (nodesF t) w) := by
  intro m
  induction m with
  | zero => intro v t w h; exact h.elim
  | succ m ih =>
    intro v t w hr hs 
    have HI := Lib.hid ih
    have HR := Lib.hid hr
    have HS := Lib.hid hs
    clear ih hr hs
    go_enter Try.func36, Try.ntmps36
    go_wp2_with fail
    refine (partsR_any m v t _ (VRep.keep ((Gr.refl _).alloc _) _ _ _ HR.out) HS.out).mono ?_
    rintro e w1 ⟨A, len, cap, rfl, hP, hb1⟩
    have HG1 : Gr w w1 := Gr.trans ((Gr.refl _).alloc _) hb1
    obtain ⟨hc1, hf1, hs1⟩ := Gr.cells hb1
    simp at hs1
    have hlen : len ≤ 500 := by have h1 := hP.1; have h2 := sizeL_length (partsF t); have h3 := sizeL_parts t; have h4 := HS.out; omega
    have HL := Lib.hid hP.1
    have HPP := Lib.hid hP
    clear hP
    go_wp2_with fail
    go_loopw [3, 5] (fun n i wr => NodesRel w1 (partsF t) n i wr) (fun _ i _ => len - (intOf i).toNat)
    case atStart => exact ⟨0, Nat.zero_le _, rfl, rfl, Gr.refl _⟩
    case round =>
      obtain ⟨j, hj, rfl, rfl, hGw⟩ := hrel
      by_cases hlt : j < len
      · obtain ⟨x, hx⟩ : ∃ x, (partsF t)[j]? = some x := ⟨(partsF t)[j]'(by have := HL.out; omega), List.getElem?_eq_getElem _⟩
        have Hx := Lib.hid hx
        obtain ⟨bb, o, e, rfl, hbb, hce, hre⟩ := HPP.out.2 j x hx
        clear hx
        have hre' := VRep.keep hGw _ _ _ hre
        have HE := Lib.hid hre'
        obtain ⟨e0, e1, e2, e3, e4, e5, e6, e7, e8, e9, e10, e11, e12⟩ := hce.keep hGw hbb
        have hlt1 : (j : Int) < (len : Int) := by omega
        clear hre hre' hce
        have hsx := size_part Hx.out HS.out
        have hnl := nodesL_get _ _ _ Hx.out
        have hnt := nodesL_le (partsF t)
        have hst := sizeL_parts t
        have hS := HS.out
        have hb5 : nodesL ((partsF t).take j) ≤ 500 := by omega
        have hb6 : nodesF x ≤ 500 := by omega
        have hb4 : 1 + nodesL ((partsF t).take j) + nodesF x = 1 + nodesL ((partsF t).take (j + 1)) := by rw [nodesL_take_succ Hx.out]; omega
        have HB4 := Lib.hid hb4
        clear hb4 hnl hnt hst
        go_wp2_with (go_at_call 36; refine (HI.out _ x _ HE.out hsx).mono ?_; rintro e w2 ⟨rfl, hb2⟩)
        go_roundw
        case rel => exact ⟨j + 1, by have := HL.out; omega, by go_num, by rw [← HB4.out]; go_num, (by with_reducible (repeat (first | exact Gr.refl _ | assumption | apply Gr.alloc | apply Gr.drew | apply Gr.drewN | refine Gr.setCell ?_ (by first | (simp; done) | (simp; omega)) _ | refine Gr.trans ?_ (by assumption))))⟩
        case measure => simp [intOf]; omega
      · have hj2 : j = (partsF t).length := by have := HL.out; omega
        have HJ := Lib.hid hj2
        clear hj2
        have hT : ((1 + nodesL ((partsF t).take j) : Nat) : Int) = (nodesF t : Int) := by rw [nodesF_eq, List.take_of_length_le (by rw [HJ.out]; omega)]
        have HT := Lib.hid hT
        clear hT
        go_wp2_with fail
        go_ret
        exact ⟨ret_int HT.out, (by with_reducible (repeat (first | exact Gr.refl _ | assumption | apply Gr.alloc | apply Gr.drew | apply Gr.drewN | refine Gr.setCell ?_ (by first | (simp; done) | (simp; omega)) _ | refine Gr.trans ?_ (by assumption))))⟩

end Go.Proofs.Ytlfhiolngpoamaa
