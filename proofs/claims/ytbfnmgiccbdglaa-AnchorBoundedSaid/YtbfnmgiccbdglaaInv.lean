/- A region that draws its order, by an invariant over what has been carried out: each operation is walked once. -/
import Derived.Test.YtbfnmgiccbdglaaBase
import Derived.Orders
namespace Go.Proofs.Ytbfnmgiccbdglaa
open Go.ChangeShapes Go.WideShapes Go.ChangeAt Go.RowKit

def upB (L : Nat → Bool) (i : Nat) : Nat → Bool := fun k => if k = i then true else L k
def upV (u : Nat → Value) (d : Nat) (v : Value) : Nat → Value := fun k => if k = d then v else u k
/-- Each operation waits for earlier ones alone. -/
def depsDown (md : Region.Mode) (ops : Array Oper) : Bool := (List.range ops.size).all fun i => match ops[i]? with
  | some o => o.after.all fun e => !Region.binds md e || decide (e.on < i)
  | none => true
theorem depsDown_spec {md : Region.Mode} {ops : Array Oper} (h : depsDown md ops = true) {i : Nat} {o : Oper} (ho : ops[i]? = some o) {e : _} (he : e ∈ o.after) (hb : Region.binds md e = true) : e.on < i := by
  unfold depsDown at h
  rw [List.all_eq_true] at h
  have hi := (Array.getElem?_eq_some_iff.1 ho).1
  have h1 := h i (List.mem_range.2 hi)
  rw [ho] at h1
  simp only [Array.all_eq_true'] at h1
  have h2 := h1 e he
  rw [hb] at h2
  simpa using h2
section
variable {P : Program} {ops : Array Oper} {Q : Exit → Act → World → Prop} {md : Region.Mode}
theorem mem_ready {L : Array Bool} {i : Nat} (h : i ∈ Region.ready md ops L) : ∃ o, ops[i]? = some o ∧ L.getD i true = false ∧ ∀ e ∈ o.after, Region.binds md e = true → L.getD e.on false = true := by
  unfold Region.ready at h
  rw [List.mem_filter, List.mem_range] at h
  obtain ⟨hi, h1⟩ := h
  have ho : ops[i]? = some ops[i] := Array.getElem?_eq_getElem hi
  rw [ho] at h1
  simp only [Option.map_some, Option.getD_some, Bool.and_eq_true, Bool.not_eq_true', Array.all_eq_true'] at h1
  refine ⟨_, ho, h1.1, fun e he hb => ?_⟩
  have := h1.2 e he
  rw [hb] at this
  simpa using this
theorem not_ready {L : Array Bool} (h : Region.ready md ops L = []) {i : Nat} {o : Oper} (ho : ops[i]? = some o) (hl : L.getD i true = false) : ∃ e ∈ o.after, Region.binds md e = true ∧ L.getD e.on false = false := by
  have hi := (Array.getElem?_eq_some_iff.1 ho).1
  have hn : ¬ i ∈ Region.ready md ops L := by rw [h]; simp
  apply Classical.byContradiction
  intro hne
  apply hn
  unfold Region.ready
  rw [List.mem_filter, List.mem_range]
  refine ⟨hi, ?_⟩
  rw [ho]
  simp only [Option.map_some, Option.getD_some, Bool.and_eq_true, Bool.not_eq_true', Array.all_eq_true']
  refine ⟨hl, fun e he => ?_⟩
  cases hb : Region.binds md e with
  | false => rfl
  | true =>
    cases hx : L.getD e.on false with
    | true => rfl
    | false => exact absurd ⟨e, he, hb, hx⟩ hne
theorem wpAny_inv (hd : depsDown md ops = true) (I : (Nat → Bool) → Act → World → Prop)
    (hstep : ∀ L a w i o, I L a w → ops[i]? = some o → L i = false → (∀ e ∈ o.after, Region.binds md e = true → L e.on = true) →
      if Region.wanted o (yielded ops a.tmps) = true then o.wp P a w (fun a' w' => I (upB L i) a' w') Q else I (upB L i) (a.put o.dst undef) w)
    (hdone : ∀ L a w, I L a w → (∀ i, i < ops.size → L i = true) → Q .normal a w) :
    ∀ (fuel : Nat) (listed : Array Bool) (a : Act) (w : World), listed.size = ops.size → listed.toList.count false ≤ fuel → I (fun k => listed.getD k false) a w → wpAny P md ops Q fuel listed a w := by
  have hall : ∀ (listed : Array Bool), listed.size = ops.size → Region.ready md ops listed = [] → ∀ i, i < ops.size → listed.getD i false = true := by
    intro listed hs hr i
    induction i using Nat.strongRecOn with
    | _ i ih =>
      intro hi
      cases hx : listed.getD i false with
      | true => rfl
      | false =>
        have hx2 : listed.getD i true = false := by
          rw [Array.getD_eq_getD_getElem?] at hx ⊢
          rw [Array.getElem?_eq_getElem (by omega)] at hx ⊢
          exact hx
        obtain ⟨e, he, hb, hf⟩ := not_ready hr (Array.getElem?_eq_getElem hi) hx2
        have hlt := depsDown_spec hd (Array.getElem?_eq_getElem hi) he hb
        rw [ih e.on hlt (by omega)] at hf
        cases hf
  intro fuel
  induction fuel with
  | zero =>
    intro listed a w hs hc hI
    have hr : Region.ready md ops listed = [] := by
      apply List.eq_nil_iff_forall_not_mem.2
      intro i hi
      obtain ⟨o, ho, hl, _⟩ := mem_ready hi
      have hi2 := (Array.getElem?_eq_some_iff.1 ho).1
      rw [Array.getD_eq_getD_getElem?, Array.getElem?_eq_getElem (by omega)] at hl
      have hm : false ∈ listed.toList := by
        rw [← hl]
        simp
      have := List.count_pos_iff.2 hm
      omega
    exact ⟨hr, hdone _ a w hI (hall listed hs hr)⟩
  | succ fuel ih =>
    intro listed a w hs hc hI
    refine ⟨fun hr => hdone _ a w hI (hall listed hs hr), fun i hi => ?_⟩
    obtain ⟨o, ho, hl, hdp⟩ := mem_ready hi
    have hi2 := (Array.getElem?_eq_some_iff.1 ho).1
    have hl2 : listed.getD i false = false := by
      rw [Array.getD_eq_getD_getElem?] at hl ⊢
      rw [Array.getElem?_eq_getElem (by omega)] at hl ⊢
      exact hl
    have hst := hstep _ a w i o hI ho hl2 hdp
    have hnext : ∀ a' w', I (upB (fun k => listed.getD k false) i) a' w' → wpAny P md ops Q fuel (listed.setIfInBounds i true) a' w' := by
      intro a' w' h
      refine ih _ a' w' (by simpa using hs) ?_ ?_
      · have hl3 : listed.toList[i]'(by simpa using (by omega : i < listed.size)) = false := by
          rw [Array.getD_eq_getD_getElem?, Array.getElem?_eq_getElem (by omega)] at hl2
          simpa using hl2
        have hil : i < listed.toList.length := by simpa using (by omega : i < listed.size)
        have hp : 0 < listed.toList.count false := List.count_pos_iff.2 (by rw [← hl3]; exact List.getElem_mem hil)
        have h5 : ((listed.toList).set i true).count false = listed.toList.count false - (if (listed.toList[i]'hil == false) = true then 1 else 0) + (if (true == false) = true then 1 else 0) := List.count_set hil
        rw [hl3] at h5
        have e1 : (if (false == false) = true then 1 else 0 : Nat) = 1 := rfl
        have e2 : (if (true == false) = true then 1 else 0 : Nat) = 0 := rfl
        rw [e1, e2] at h5
        rw [Array.toList_setIfInBounds, h5]
        omega
      · have he : (fun k => (listed.setIfInBounds i true).getD k false) = upB (fun k => listed.getD k false) i := by
          funext k
          unfold upB
          rw [Array.getD_eq_getD_getElem?, Array.getElem?_setIfInBounds]
          by_cases hk : i = k
          · subst hk
            rw [if_pos rfl, if_pos (by omega), if_pos rfl]
            rfl
          · rw [if_neg hk, if_neg (fun h => hk h.symm)]
            exact (Array.getD_eq_getD_getElem? ..).symm
        rw [he]
        exact h
    unfold wpOp
    rw [ho]
    by_cases hw : Region.wanted o (yielded ops a.tmps) = true
    · simp only [hw, if_true] at hst ⊢
      exact .inl (Oper.wp_mono hnext hst)
    · simp only [hw] at hst ⊢
      exact hnext _ _ hst
theorem wp_region_inv {id : Nat} {a : Act} {w : World} (hm : P.follows .mixedOrders = true) (hd : depsDown .any ops = true) (I : (Nat → Bool) → Act → World → Prop) (h0 : I (fun _ => false) a w.drew)
    (hstep : ∀ L a w i o, I L a w → ops[i]? = some o → L i = false → (∀ e ∈ o.after, Region.binds .any e = true → L e.on = true) →
      if Region.wanted o (yielded ops a.tmps) = true then o.wp P a w (fun a' w' => I (upB L i) a' w') Q else I (upB L i) (a.put o.dst undef) w)
    (hdone : ∀ L a w, I L a w → (∀ i, i < ops.size → L i = true) → Q .normal a w) : (Code.region id ops true).wp P Q a w := by
  refine wp_region_any hm (wpAny_inv hd I hstep hdone ops.size _ a _ (by simp) ?_ ?_)
  · simp
  · have he : (fun k => (Array.replicate ops.size false).getD k false) = fun _ => false := by
      funext k
      rw [Array.getD_eq_getD_getElem?, Array.getElem?_replicate]
      split <;> rfl
    rw [he]
    exact h0
end
/-- The slot s of a frame. -/
def slot (a : Act) (s : Nat) : Value := a.tmps.getD s undef
theorem slot_spell {a : Act} {s : Nat} {v : Value} (h : slot a s = v) : a.tmps[s]?.getD undef = v := (Array.getD_eq_getD_getElem? ..).symm.trans h
theorem eval_tmp (a : Act) (s : Nat) : a.eval (.tmp s) = slot a s := rfl
/-- The frame a is a₀ but for these slots. -/
def FrameOf (a₀ a : Act) (ss : List Nat) : Prop := a.defers = a₀.defers ∧ a.tmps.size = a₀.tmps.size ∧ ∀ s, s ∉ ss → a.tmps[s]? = a₀.tmps[s]?
theorem FrameOf.refl (a : Act) (ss : List Nat) : FrameOf a a ss := ⟨rfl, rfl, fun _ _ => rfl⟩
theorem FrameOf.put {a₀ a : Act} {ss : List Nat} (h : FrameOf a₀ a ss) {d : Nat} (hd : d ∈ ss) (v : Value) : FrameOf a₀ (a.put (some d) v) ss := by
  obtain ⟨h1, h2, h3⟩ := h
  refine ⟨h1, by simpa [Act.put] using h2, fun s hs => ?_⟩
  have hne : d ≠ s := fun e => hs (e ▸ hd)
  rw [← h3 s hs]
  simp [Act.put, Array.getElem?_setIfInBounds_ne hne]
theorem slot_put {a₀ a : Act} {ss : List Nat} (h : FrameOf a₀ a ss) {d : Nat} (hd : d < a₀.tmps.size) (v : Value) : slot (a.put (some d) v) = upV (slot a) d v := by
  funext s
  unfold slot upV
  have hd2 : d < a.tmps.size := by rw [h.2.1]; exact hd
  by_cases hs : s = d
  · subst hs
    rw [if_pos rfl, Array.getD_eq_getD_getElem?]
    simp [Act.put, hd2]
  · rw [if_neg hs]
    simp [Act.put, Array.getElem?_setIfInBounds_ne (fun e => hs e.symm), Array.getD_eq_getD_getElem?]
theorem wp_hideK {P : Program} {Q : Exit → Act → World → Prop} {o : Oper} {a : Act} {w : World} {R : Act → World → Prop} (H : ∀ K : Act → World → Prop, Hid (∀ a w, R a w → K a w) → o.wp P a w K Q) : o.wp P a w R Q := H R (Lib.hid fun _ _ h => h)
theorem close_put {a₀ a : Act} {ss : List Nat} (hfr : FrameOf a₀ a ss) {d : Nat} (hd : d ∈ ss) (hlt : d < a₀.tmps.size) (v : Value) {F : (Nat → Value) → Prop} (h : F (upV (slot a) d v)) : FrameOf a₀ (a.put (some d) v) ss ∧ F (slot (a.put (some d) v)) :=
  ⟨hfr.put hd v, by rw [slot_put hfr hlt v]; exact h⟩
/-- Such a frame, written out. -/
theorem FrameOf.eq {a₀ : Act} : ∀ {ss : List Nat} {a : Act}, FrameOf a₀ a ss → (∀ s ∈ ss, s < a₀.tmps.size) → a = ss.foldl (fun b s => b.put (some s) (slot a s)) a₀ := by
  intro ss a h hss
  have key : ∀ (l : List Nat) (b : Act), b.defers = a.defers → b.tmps.size = a.tmps.size → (∀ s ∈ l, s < a.tmps.size) → (∀ s, s ∉ l → b.tmps[s]? = a.tmps[s]?) → a = l.foldl (fun b s => b.put (some s) (slot a s)) b := by
    intro l
    induction l with
    | nil =>
      intro b h1 h2 _ h4
      have ht : a.tmps = b.tmps := Array.ext_getElem? (fun s => (h4 s (by simp)).symm)
      obtain ⟨at', ad⟩ := a
      obtain ⟨bt, bd⟩ := b
      simp only at h1 ht
      rw [List.foldl_nil, h1, ht]
    | cons x l ih =>
      intro b h1 h2 h3 h4
      rw [List.foldl_cons]
      refine ih _ h1 (by simpa [Act.put] using h2) (fun s hs => h3 s (by simp [hs])) (fun s hs => ?_)
      by_cases hx : x = s
      · subst hx
        have hlt := h3 x (by simp)
        have hlt2 : x < b.tmps.size := by omega
        simp [Act.put, hlt2, slot, hlt]
      · simp only [Act.put, Array.getElem?_setIfInBounds_ne hx]
        exact h4 s (by rw [List.mem_cons]; intro h; rcases h with h | h; exact hx h.symm; exact hs h)
  exact key ss a₀ h.1.symm h.2.1.symm (fun s hs => by rw [h.2.1]; exact hss s hs) (fun s hs => (h.2.2 s hs).symm)
section
variable {P : Program} {ops : Array Oper} {Q : Exit → Act → World → Prop}
theorem wp_region_frame {id : Nat} {a : Act} {w : World} (hm : P.follows .mixedOrders = true) (hd : depsDown .any ops = true) (SS : List Nat) (hSS : ∀ s ∈ SS, s < a.tmps.size) (F : (Nat → Bool) → (Nat → Value) → World → Prop) (h0 : F (fun _ => false) (slot a) w.drew)
    (hstep : ∀ B a' w' i o, FrameOf a a' SS → F B (slot a') w' → ops[i]? = some o → B i = false → (∀ e ∈ o.after, Region.binds .any e = true → B e.on = true) →
      if Region.wanted o (yielded ops a'.tmps) = true then o.wp P a' w' (fun a'' w'' => FrameOf a a'' SS ∧ F (upB B i) (slot a'') w'') Q else FrameOf a (a'.put o.dst undef) SS ∧ F (upB B i) (slot (a'.put o.dst undef)) w')
    (hdone : ∀ B u w', (∀ i, i < ops.size → B i = true) → F B u w' → Q .normal (SS.foldl (fun b s => b.put (some s) (u s)) a) w') : (Code.region id ops true).wp P Q a w := by
  refine wp_region_inv hm hd (fun B a' w' => FrameOf a a' SS ∧ F B (slot a') w') ⟨FrameOf.refl _ _, h0⟩ (fun B a' w' i o hI ho hi hdp => hstep B a' w' i o hI.1 hI.2 ho hi hdp) (fun B a' w' hI hall => ?_)
  rw [hI.1.eq hSS]
  exact hdone B (slot a') w' hall hI.2
end
end Go.Proofs.Ytbfnmgiccbdglaa
