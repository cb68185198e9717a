/- light returns how many nodes are left: the contract of the law's own size check. -/
import Derived.Test.YtlfhiolngpoamaaVal
namespace Go.Proofs.Ytlfhiolngpoamaa
open Go.ChangeShapes Go.WideShapes Go.ChangeAt Go.RowKit

/-- The loops of light: n, i. -/
def LightRel (w : World) (lA : Option Addr) (ln lc : Nat) (fA : Option Addr) (fn fc : Nat) (l : List VT) (d R : Int) (n i : Value) (wr : World) : Prop :=
  ∃ (j : Nat) (z : Int), j ≤ l.length ∧ i = .int .i64 j ∧ n = .int .i64 z ∧ -1 ≤ z ∧ z ≤ 400 ∧ lightL (l.drop j) d z = R ∧
    wr.cell? ⟨w.heap.size, 11, none⟩ = some (.slice lA ln lc) ∧ wr.cell? ⟨w.heap.size, 12, none⟩ = some (.slice fA fn fc) ∧ Gr w wr ∧ w.heap.size < wr.heap.size

set_option maxRecDepth 100000 in
set_option maxHeartbeats 4000000 in
theorem light_any : ∀ (m : Nat) (v : VD) (t : VT) (d n : Int) (w : World), VRep m w v t → d ≤ 60 → n ≤ 400 →
    Calls Try.prog 28 #[.agg #[.int .i64 v.k, .bool v.b1, .bool v.b2, .string v.s1, .int .i64 v.i1, .int .i64 v.i2, .int .i64 v.i3, .int .i64 v.i4, .int .i64 v.i5, .string v.s2, .slice v.bA v.bn v.bc, .slice v.lA v.ln v.lc, .slice v.fA v.fn v.fc], .int .i64 d, .int .i64 n] w (RI (lightF t d n) w) := by
  intro m
  induction m with
  | zero => intro v t d n w h; exact h.elim
  | succ m ih =>
    intro v t d n w hr hd hn
    obtain ⟨k, l, f⟩ := t
    obtain ⟨k', b1, b2, s1, i1, i2, i3, i4, i5, s2, bA, bn, bc, lA, ln, lc, fA, fn, fc⟩ := v
    obtain ⟨hk, hln, hfn, hl1, hl2, hf1, hf2, hL, hF⟩ := hr
    dsimp only at hk hln hfn hl1 hl2 hf1 hf2 hL hF ⊢
    have Hln := Lib.hid hln
    have Hfn := Lib.hid hfn
    have HL := Lib.hid hL
    have HF := Lib.hid hF
    have HI := Lib.hid ih
    clear hk hln hfn hL hF ih
    by_cases c1 : d < 1
    · have hres : lightF (.mk k l f) d n = -1 := by unfold lightF; rw [if_pos (.inl c1)]
      rw [hres]; clear hres
      go_enter Try.func28, Try.ntmps28
      go_wp2_with fail
      go_ret
      exact ⟨rfl, (by with_reducible (repeat (first | exact Gr.refl _ | assumption | apply Gr.alloc | apply Gr.drew | apply Gr.drewN | refine Gr.setCell ?_ (by first | (simp; done) | (simp; omega)) _ | refine Gr.trans ?_ (by assumption))))⟩
    by_cases c2 : n < 1
    · have hres : lightF (.mk k l f) d n = -1 := by unfold lightF; rw [if_pos (.inr (.inl c2))]
      rw [hres]; clear hres
      go_enter Try.func28, Try.ntmps28
      go_wp2_with fail
      go_ret
      exact ⟨rfl, (by with_reducible (repeat (first | exact Gr.refl _ | assumption | apply Gr.alloc | apply Gr.drew | apply Gr.drewN | refine Gr.setCell ?_ (by first | (simp; done) | (simp; omega)) _ | refine Gr.trans ?_ (by assumption))))⟩
    by_cases c3 : (200 : Int) < ln
    · have hres : lightF (.mk k l f) d n = -1 := by unfold lightF; rw [if_pos (.inr (.inr (.inl (by have := Hln.out; omega))))]
      rw [hres]; clear hres
      go_enter Try.func28, Try.ntmps28
      go_wp2_with fail
      go_ret
      exact ⟨rfl, (by with_reducible (repeat (first | exact Gr.refl _ | assumption | apply Gr.alloc | apply Gr.drew | apply Gr.drewN | refine Gr.setCell ?_ (by first | (simp; done) | (simp; omega)) _ | refine Gr.trans ?_ (by assumption))))⟩
    by_cases c4 : (200 : Int) < fn
    · have hres : lightF (.mk k l f) d n = -1 := by unfold lightF; rw [if_pos (.inr (.inr (.inr (by have := Hfn.out; omega))))]
      rw [hres]; clear hres
      go_enter Try.func28, Try.ntmps28
      go_wp2_with fail
      go_ret
      exact ⟨rfl, (by with_reducible (repeat (first | exact Gr.refl _ | assumption | apply Gr.alloc | apply Gr.drew | apply Gr.drewN | refine Gr.setCell ?_ (by first | (simp; done) | (simp; omega)) _ | refine Gr.trans ?_ (by assumption))))⟩
    have hres : lightF (.mk k l f) d n = lightL f (d - 1) (lightL l (d - 1) (n - 1)) := by
      unfold lightF; rw [if_neg (by have := Hln.out; have := Hfn.out; omega)]
    rw [hres]; clear hres
    have hb1 := lightL_le l (d - 1) (n - 1) (by omega)
    generalize hR2 : lightL f (d - 1) (lightL l (d - 1) (n - 1)) = R2
    generalize hR1 : lightL l (d - 1) (n - 1) = R1 at hR2 hb1
    have HR1 := Lib.hid hR1
    have HR2 := Lib.hid hR2
    clear hR1 hR2
    go_enter Try.func28, Try.ntmps28
    go_wp2_with fail
    go_loopw [2, 7] (fun n i wr => LightRel w lA ln lc fA fn fc l (d - 1) R1 n i wr) (fun _ i _ => ln - (intOf i).toNat)
    case atStart => exact ⟨0, n - 1, Nat.zero_le _, rfl, rfl, by omega, by omega, HR1.out, by simp, by simp, (by with_reducible (repeat (first | exact Gr.refl _ | assumption | apply Gr.alloc | apply Gr.drew | apply Gr.drewN | refine Gr.setCell ?_ (by first | (simp; done) | (simp; omega)) _ | refine Gr.trans ?_ (by assumption)))), by simp⟩
    case round =>
      obtain ⟨j, z, hj, rfl, rfl, hz0, hz1, hz2, hcl, hcf, hG, hB⟩ := hrel
      have HZ := Lib.hid hz2
      clear hz2
      by_cases hlt : j < ln
      · by_cases h0 : (0 : Int) ≤ z
        · obtain ⟨x, hx⟩ : ∃ x, l[j]? = some x := ⟨l[j]'(by have := Hln.out; omega), List.getElem?_eq_getElem _⟩
          have Hx := Lib.hid hx
          obtain ⟨bb, o, e, rfl, hbb, hce, hre⟩ := HL.out j x hx
          clear hx
          have hce' := hce.keep hG hbb
          have hre' := VRep.keep hG _ _ _ hre
          obtain ⟨e0, e1, e2, e3, e4, e5, e6, e7, e8, e9, e10, e11, e12⟩ := hce'
          go_wp2_with (go_at_call 28; refine (HI.out _ _ _ _ _ hre' (by omega) (by omega)).mono ?_; rintro e w1 ⟨rfl, hb1⟩; obtain ⟨hc1, hf1, hs1⟩ := Gr.cells hb1)
          have hle := lightF_le x (d - 1) z (by omega)
          go_roundw
          case rel =>
            refine ⟨j + 1, lightF x (d - 1) z, by have := Hln.out; omega, by go_num, rfl, by omega, by omega, ?_, by rw [hc1 _ _ hB]; exact hcl, by rw [hc1 _ _ hB]; exact hcf, Gr.trans hG hb1, by omega⟩
            rw [← HZ.out, drop_cons Hx.out, lightL, if_pos h0]
          case measure => simp [intOf]; omega
        · have hzR : z = R1 := by rw [← HZ.out, lightL_neg _ _ _ (by omega)]
          have HzR := Lib.hid hzR
          clear hzR
          go_wp2_with fail
          go_loopw [2, 8] (fun n i wr => LightRel w lA ln lc fA fn fc f (d - 1) R2 n i wr) (fun _ i _ => fn - (intOf i).toNat)
          case atStart => exact ⟨0, z, Nat.zero_le _, rfl, rfl, by omega, by omega, by rw [HzR.out]; exact HR2.out, hcl, hcf, hG, hB⟩
          case round =>
            clear hcl hcf hG hB
            obtain ⟨j2, z2, hj2, rfl, rfl, hz20, hz21, hz22, hcl, hcf, hG, hB⟩ := hrel
            have HZ2 := Lib.hid hz22
            clear hz22
            by_cases hlt2 : j2 < fn
            · by_cases h02 : (0 : Int) ≤ z2
              · obtain ⟨x, hx⟩ : ∃ x, f[j2]? = some x := ⟨f[j2]'(by have := Hfn.out; omega), List.getElem?_eq_getElem _⟩
                have Hx := Lib.hid hx
                obtain ⟨bb, o, e, sk, rfl, hbb, hck, hce, hre⟩ := HF.out j2 x hx
                clear hx
                have hce' := hce.keep hG hbb
                have hre' := VRep.keep hG _ _ _ hre
                obtain ⟨e0, e1, e2, e3, e4, e5, e6, e7, e8, e9, e10, e11, e12⟩ := hce'
                go_wp2_with (go_at_call 28; refine (HI.out _ _ _ _ _ hre' (by omega) (by omega)).mono ?_; rintro e w1 ⟨rfl, hb1⟩; obtain ⟨hc1, hf1, hs1⟩ := Gr.cells hb1)
                have hle := lightF_le x (d - 1) z2 (by omega)
                go_roundw
                case rel =>
                  refine ⟨j2 + 1, lightF x (d - 1) z2, by have := Hfn.out; omega, by go_num, rfl, by omega, by omega, ?_, by rw [hc1 _ _ hB]; exact hcl, by rw [hc1 _ _ hB]; exact hcf, Gr.trans hG hb1, by omega⟩
                  rw [← HZ2.out, drop_cons Hx.out, lightL, if_pos h02]
                case measure => simp [intOf]; omega
              · have hzR2 : z2 = R2 := by rw [← HZ2.out, lightL_neg _ _ _ (by omega)]
                have HzR2 := Lib.hid hzR2
                clear hzR2
                go_wp2_with fail
                go_ret
                exact ⟨ret_int HzR2.out, hG⟩
            · have hzR2 : z2 = R2 := by rw [← HZ2.out, List.drop_of_length_le (by have := Hfn.out; omega), lightL]
              have HzR2 := Lib.hid hzR2
              clear hzR2
              go_wp2_with fail
              go_ret
              exact ⟨ret_int HzR2.out, hG⟩
      · have hzR : z = R1 := by rw [← HZ.out, List.drop_of_length_le (by have := Hln.out; omega), lightL]
        have HzR := Lib.hid hzR
        clear hzR
        go_wp2_with fail
        go_loopw [2, 8] (fun n i wr => LightRel w lA ln lc fA fn fc f (d - 1) R2 n i wr) (fun _ i _ => fn - (intOf i).toNat)
        case atStart => exact ⟨0, z, Nat.zero_le _, rfl, rfl, by omega, by omega, by rw [HzR.out]; exact HR2.out, hcl, hcf, hG, hB⟩
        case round =>
          clear hcl hcf hG hB
          obtain ⟨j2, z2, hj2, rfl, rfl, hz20, hz21, hz22, hcl, hcf, hG, hB⟩ := hrel
          have HZ2 := Lib.hid hz22
          clear hz22
          by_cases hlt2 : j2 < fn
          · by_cases h02 : (0 : Int) ≤ z2
            · obtain ⟨x, hx⟩ : ∃ x, f[j2]? = some x := ⟨f[j2]'(by have := Hfn.out; omega), List.getElem?_eq_getElem _⟩
              have Hx := Lib.hid hx
              obtain ⟨bb, o, e, sk, rfl, hbb, hck, hce, hre⟩ := HF.out j2 x hx
              clear hx
              have hce' := hce.keep hG hbb
              have hre' := VRep.keep hG _ _ _ hre
              obtain ⟨e0, e1, e2, e3, e4, e5, e6, e7, e8, e9, e10, e11, e12⟩ := hce'
              go_wp2_with (go_at_call 28; refine (HI.out _ _ _ _ _ hre' (by omega) (by omega)).mono ?_; rintro e w1 ⟨rfl, hb1⟩; obtain ⟨hc1, hf1, hs1⟩ := Gr.cells hb1)
              have hle := lightF_le x (d - 1) z2 (by omega)
              go_roundw
              case rel =>
                refine ⟨j2 + 1, lightF x (d - 1) z2, by have := Hfn.out; omega, by go_num, rfl, by omega, by omega, ?_, by rw [hc1 _ _ hB]; exact hcl, by rw [hc1 _ _ hB]; exact hcf, Gr.trans hG hb1, by omega⟩
                rw [← HZ2.out, drop_cons Hx.out, lightL, if_pos h02]
              case measure => simp [intOf]; omega
            · have hzR2 : z2 = R2 := by rw [← HZ2.out, lightL_neg _ _ _ (by omega)]
              have HzR2 := Lib.hid hzR2
              clear hzR2
              go_wp2_with fail
              go_ret
              exact ⟨ret_int HzR2.out, hG⟩
          · have hzR2 : z2 = R2 := by rw [← HZ2.out, List.drop_of_length_le (by have := Hfn.out; omega), lightL]
            have HzR2 := Lib.hid hzR2
            clear hzR2
            go_wp2_with fail
            go_ret
            exact ⟨ret_int HzR2.out, hG⟩
end Go.Proofs.Ytlfhiolngpoamaa
