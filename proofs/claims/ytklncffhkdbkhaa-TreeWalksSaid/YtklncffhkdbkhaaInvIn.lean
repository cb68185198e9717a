/- A region that draws its order inside the fence, by an invariant over what has been carried out. -/
import Derived.Test.YtklncffhkdbkhaaInv
import Derived.OrdersIn
namespace Go.Proofs.Ytklncffhkdbkhaa
open Go.ChangeShapes Go.WideShapes Go.ChangeAt Go.RowKit

section
variable {Fc : Fence} {n : Nat} {P : Program} {ops : Array Oper} {Q : Exit → Act → World → Prop} {md : Region.Mode}
theorem wpAnyIn_inv (hro : ∀ (o : Oper) (w : World) (ρ : Operand → Value) f, o.about P w ρ = some f → Fc.fn f) (hd : depsDown md ops = true) (I : (Nat → Bool) → Act → World → Prop)
    (hstep : ∀ L a w i o, I L a w → ops[i]? = some o → L i = false → (∀ e ∈ o.after, Region.binds md e = true → L e.on = true) →
      if Region.wanted o (yielded ops a.tmps) = true then o.wpIn Fc n P a w (fun a' w' => I (upB L i) a' w') Q else I (upB L i) (a.put o.dst undef) w)
    (hdone : ∀ L a w, I L a w → (∀ i, i < ops.size → L i = true) → Q .normal a w) :
    ∀ (fuel : Nat) (listed : Array Bool) (a : Act) (w : World), listed.size = ops.size → listed.toList.count false ≤ fuel → I (fun k => listed.getD k false) a w → wpAnyIn Fc n P md ops Q fuel listed a w := by
  have hall : ∀ (listed : Array Bool), listed.size = ops.size → Region.ready md ops listed = [] → ∀ i, i < ops.size → listed.getD i false = true := by
    intro listed hs hr i
    induction i using Nat.strongRecOn with
    | _ i ih =>
      intro hi
      cases hx : listed.getD i false with
      | true => rfl
      | false =>
        have hx2 : listed.getD i true = false := by
          rw [Array.getD_eq_getD_getElem?] at hx ⊢
          rw [Array.getElem?_eq_getElem (by omega)] at hx ⊢
          exact hx
        obtain ⟨e, he, hb, hf⟩ := not_ready hr (Array.getElem?_eq_getElem hi) hx2
        have hlt := depsDown_spec hd (Array.getElem?_eq_getElem hi) he hb
        rw [ih e.on hlt (by omega)] at hf
        cases hf
  intro fuel
  induction fuel with
  | zero =>
    intro listed a w hs hc hI
    have hr : Region.ready md ops listed = [] := by
      apply List.eq_nil_iff_forall_not_mem.2
      intro i hi
      obtain ⟨o, ho, hl, _⟩ := Go.Proofs.Ytklncffhkdbkhaa.mem_ready hi
      have hi2 := (Array.getElem?_eq_some_iff.1 ho).1
      rw [Array.getD_eq_getD_getElem?, Array.getElem?_eq_getElem (by omega)] at hl
      have hm : false ∈ listed.toList := by
        rw [← hl]
        simp
      have := List.count_pos_iff.2 hm
      omega
    exact ⟨hr, hdone _ a w hI (hall listed hs hr)⟩
  | succ fuel ih =>
    intro listed a w hs hc hI
    refine ⟨fun hr => hdone _ a w hI (hall listed hs hr), fun i hi => ?_⟩
    obtain ⟨o, ho, hl, hdp⟩ := Go.Proofs.Ytklncffhkdbkhaa.mem_ready hi
    have hi2 := (Array.getElem?_eq_some_iff.1 ho).1
    have hl2 : listed.getD i false = false := by
      rw [Array.getD_eq_getD_getElem?] at hl ⊢
      rw [Array.getElem?_eq_getElem (by omega)] at hl ⊢
      exact hl
    have hst := hstep _ a w i o hI ho hl2 hdp
    have hnext : ∀ a' w', I (upB (fun k => listed.getD k false) i) a' w' → wpAnyIn Fc n P md ops Q fuel (listed.setIfInBounds i true) a' w' := by
      intro a' w' h
      refine ih _ a' w' (by simpa using hs) ?_ ?_
      · have hl3 : listed.toList[i]'(by simpa using (by omega : i < listed.size)) = false := by
          rw [Array.getD_eq_getD_getElem?, Array.getElem?_eq_getElem (by omega)] at hl2
          simpa using hl2
        have hil : i < listed.toList.length := by simpa using (by omega : i < listed.size)
        have hp : 0 < listed.toList.count false := List.count_pos_iff.2 (by rw [← hl3]; exact List.getElem_mem hil)
        have h5 : ((listed.toList).set i true).count false = listed.toList.count false - (if (listed.toList[i]'hil == false) = true then 1 else 0) + (if (true == false) = true then 1 else 0) := List.count_set hil
        rw [hl3] at h5
        have e1 : (if (false == false) = true then 1 else 0 : Nat) = 1 := rfl
        have e2 : (if (true == false) = true then 1 else 0 : Nat) = 0 := rfl
        rw [e1, e2] at h5
        rw [Array.toList_setIfInBounds, h5]
        omega
      · have he : (fun k => (listed.setIfInBounds i true).getD k false) = upB (fun k => listed.getD k false) i := by
          funext k
          unfold upB
          rw [Array.getD_eq_getD_getElem?, Array.getElem?_setIfInBounds]
          by_cases hk : i = k
          · subst hk
            rw [if_pos rfl, if_pos (by omega), if_pos rfl]
            rfl
          · rw [if_neg hk, if_neg (fun h => hk h.symm)]
            exact (Array.getD_eq_getD_getElem? ..).symm
        rw [he]
        exact h
    unfold wpOpIn
    rw [ho]
    by_cases hw : Region.wanted o (yielded ops a.tmps) = true
    · simp only [hw, if_true] at hst ⊢
      exact Oper.wpIn_mono hnext hst
    · simp only [hw] at hst ⊢
      exact ⟨fun f hf => hro o w _ f hf, hnext _ _ hst⟩
theorem wpIn_region_inv {id : Nat} {a : Act} {w : World} (hro : ∀ (o : Oper) (w : World) (ρ : Operand → Value) f, o.about P w ρ = some f → Fc.fn f) (hm : P.follows .mixedOrders = true) (hd : depsDown .any ops = true) (I : (Nat → Bool) → Act → World → Prop) (h0 : I (fun _ => false) a w.drew)
    (hstep : ∀ L a w i o, I L a w → ops[i]? = some o → L i = false → (∀ e ∈ o.after, Region.binds .any e = true → L e.on = true) →
      if Region.wanted o (yielded ops a.tmps) = true then o.wpIn Fc n P a w (fun a' w' => I (upB L i) a' w') Q else I (upB L i) (a.put o.dst undef) w)
    (hdone : ∀ L a w, I L a w → (∀ i, i < ops.size → L i = true) → Q .normal a w) : (Code.region id ops true).wpIn Fc n P Q a w := by
  refine wpIn_region_any hm (wpAnyIn_inv hro hd I hstep hdone ops.size _ a _ (by simp) ?_ ?_)
  · simp
  · have he : (fun k => (Array.replicate ops.size false).getD k false) = fun _ => false := by
      funext k
      rw [Array.getD_eq_getD_getElem?, Array.getElem?_replicate]
      split <;> rfl
    rw [he]
    exact h0
theorem wpIn_region_frame {id : Nat} {a : Act} {w : World} (hro : ∀ (o : Oper) (w : World) (ρ : Operand → Value) f, o.about P w ρ = some f → Fc.fn f) (hm : P.follows .mixedOrders = true) (hd : depsDown .any ops = true) (SS : List Nat) (hSS : ∀ s ∈ SS, s < a.tmps.size) (F : (Nat → Bool) → (Nat → Value) → World → Prop) (h0 : F (fun _ => false) (slot a) w.drew)
    (hstep : ∀ B a' w' i o, FrameOf a a' SS → F B (slot a') w' → ops[i]? = some o → B i = false → (∀ e ∈ o.after, Region.binds .any e = true → B e.on = true) →
      if Region.wanted o (yielded ops a'.tmps) = true then o.wpIn Fc n P a' w' (fun a'' w'' => FrameOf a a'' SS ∧ F (upB B i) (slot a'') w'') Q else FrameOf a (a'.put o.dst undef) SS ∧ F (upB B i) (slot (a'.put o.dst undef)) w')
    (hdone : ∀ B u w', (∀ i, i < ops.size → B i = true) → F B u w' → Q .normal (SS.foldl (fun b s => b.put (some s) (u s)) a) w') : (Code.region id ops true).wpIn Fc n P Q a w := by
  refine wpIn_region_inv hro hm hd (fun B a' w' => FrameOf a a' SS ∧ F B (slot a') w') ⟨FrameOf.refl _ _, h0⟩ (fun B a' w' i o hI ho hi hdp => hstep B a' w' i o hI.1 hI.2 ho hi hdp) (fun B a' w' hI hall => ?_)
  rw [hI.1.eq hSS]
  exact hdone B (slot a') w' hall hI.2
end
theorem wpIn_hideK {Fc : Fence} {n : Nat} {P : Program} {Q : Exit → Act → World → Prop} {o : Oper} {a : Act} {w : World} {R : Act → World → Prop} (H : ∀ K : Act → World → Prop, Hid (∀ a w, R a w → K a w) → o.wpIn Fc n P a w K Q) : o.wpIn Fc n P a w R Q := H R (Lib.hid fun _ _ h => h)
end Go.Proofs.Ytklncffhkdbkhaa
