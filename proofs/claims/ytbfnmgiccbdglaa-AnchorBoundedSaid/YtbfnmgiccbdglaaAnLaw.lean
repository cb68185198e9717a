/- What limits do to a visit: with limits that are just used it goes as before, with less it ends at the first alias beyond. -/
import Derived.Test.YtbfnmgiccbdglaaAnPlain
namespace Go.Proofs.Ytbfnmgiccbdglaa
open Go.ChangeShapes Go.WideShapes Go.ChangeAt Go.RowKit

def VL (L : U5) : Prop := 1 ≤ L.d ∧ L.d ≤ 48 ∧ 1 ≤ L.n ∧ L.n ≤ 65536 ∧ 1 ≤ L.b ∧ L.b ≤ 1048576 ∧ 0 ≤ L.a ∧ L.a ≤ 1024 ∧ 0 ≤ L.x ∧ L.x ≤ 65536
def WL (L u : U5) : Prop := 0 ≤ u.d ∧ u.d ≤ L.d ∧ 0 ≤ u.n ∧ u.n ≤ L.n ∧ 0 ≤ u.b ∧ u.b ≤ L.b ∧ 0 ≤ u.a ∧ u.a ≤ L.a ∧ 0 ≤ u.x ∧ u.x ≤ L.x
theorem valid_VL {L : U5} : validB L.d L.n L.b L.a L.x = true ↔ VL L := by
  unfold validB VL
  rw [decide_eq_true_eq]
theorem aliasU_cases (L u : U5) (k : Int) :
    (¬(VL L ∧ WL L u ∧ 0 ≤ k) ∧ aliasU L u k = ⟨0, 0, 0, 0, 0, 1⟩) ∨ ((VL L ∧ WL L u ∧ 0 ≤ k) ∧ u.a = L.a ∧ aliasU L u k = ⟨0, 0, 0, 0, 0, 11⟩) ∨
    ((VL L ∧ WL L u ∧ 0 ≤ k) ∧ u.a ≠ L.a ∧ L.x - u.x < k ∧ aliasU L u k = ⟨0, 0, 0, 0, 0, 12⟩) ∨ ((VL L ∧ WL L u ∧ 0 ≤ k) ∧ u.a ≠ L.a ∧ k ≤ L.x - u.x ∧ aliasU L u k = ⟨u.d, u.n, u.b, u.a + 1, u.x + k, 0⟩) := by
  have hr : readyB L.d L.n L.b L.a L.x u.d u.n u.b u.a u.x k = true ↔ VL L ∧ WL L u ∧ 0 ≤ k := by
    unfold readyB validB withinB VL WL
    simp only [Bool.and_eq_true, decide_eq_true_eq, and_assoc]
  unfold aliasU aliasF
  by_cases h : readyB L.d L.n L.b L.a L.x u.d u.n u.b u.a u.x k = true
  · rw [if_neg (by rw [h]; decide)]
    have h2 := hr.1 h
    by_cases ha : u.a = L.a
    · rw [if_pos ha]
      exact .inr (.inl ⟨h2, ha, rfl⟩)
    · rw [if_neg ha]
      by_cases hx : L.x - u.x < k
      · rw [if_pos hx]
        exact .inr (.inr (.inl ⟨h2, ha, hx, rfl⟩))
      · rw [if_neg hx]
        exact .inr (.inr (.inr ⟨h2, ha, by omega, rfl⟩))
  · rw [if_pos (by simpa using h)]
    exact .inl ⟨fun h3 => h (hr.2 h3), rfl⟩
theorem aliasU_ok {L u : U5} {k : Int} (h : (aliasU L u k).c = 0) : (VL L ∧ WL L u ∧ 0 ≤ k) ∧ u.a ≠ L.a ∧ k ≤ L.x - u.x ∧ aliasU L u k = ⟨u.d, u.n, u.b, u.a + 1, u.x + k, 0⟩ := by
  rcases aliasU_cases L u k with ⟨_, h1⟩ | ⟨_, _, h1⟩ | ⟨_, _, _, h1⟩ | h1
  · rw [h1] at h; cases h
  · rw [h1] at h; cases h
  · rw [h1] at h; cases h
  · exact h1
/-- What a visit without an error does to the usage. -/
def Inv (L u u' : U5) : Prop := u'.d = u.d ∧ u'.n = u.n ∧ u'.b = u.b ∧ (WL L u → WL L u') ∧ ((u'.a = u.a ∧ u'.x = u.x) ∨ (u.a < u'.a ∧ u.x ≤ u'.x))
theorem Inv.refl (L u : U5) : Inv L u u := ⟨rfl, rfl, rfl, id, .inl ⟨rfl, rfl⟩⟩
theorem Inv.trans {L a b c : U5} (h : Inv L a b) (k : Inv L b c) : Inv L a c := by
  obtain ⟨h1, h2, h3, h4, h5⟩ := h
  obtain ⟨k1, k2, k3, k4, k5⟩ := k
  exact ⟨k1.trans h1, k2.trans h2, k3.trans h3, fun x => k4 (h4 x), by omega⟩
theorem Inv.alias {L u : U5} {k : Int} (h : (aliasU L u k).c = 0) : Inv L u ⟨(aliasU L u k).d, (aliasU L u k).n, (aliasU L u k).b, (aliasU L u k).a, (aliasU L u k).x⟩ := by
  obtain ⟨⟨_, hw, hk⟩, h2, h3, h4⟩ := aliasU_ok h
  rw [h4]
  refine ⟨rfl, rfl, rfl, fun _ => ?_, .inr ⟨by simp only; omega, by simp only; omega⟩⟩
  unfold WL at hw ⊢
  simp only
  omega
mutual
theorem invF (L : U5) : ∀ (t : NT) (st : AS), (visF L t st).2.1 = 0 → Inv L st.u (visF L t st).2.2.u
  | .mk k l x ks e, st, h => by
    rw [visF] at h ⊢
    by_cases h9 : k = 9
    · rw [if_pos h9] at h ⊢
      by_cases hE : (st.E (x.drop 1)).isSome = true
      · rw [if_pos hE] at h; cases h
      · rw [if_neg hE] at h ⊢
        exact invA L (x.drop 1) ks st h
    · rw [if_neg h9] at h ⊢
      by_cases h10 : k = 10
      · rw [if_pos h10] at h ⊢
        cases hE : st.E (x.drop 1) with
        | none => rw [hE] at h; cases h
        | some p =>
          obtain ⟨kt, co⟩ := p
          cases co with
          | none => rw [hE] at h; cases h
          | some c =>
            rw [hE] at h
            simp only at h ⊢
            by_cases hc : (aliasU L st.u c).c = 0
            · rw [if_pos hc]
              exact Inv.alias hc
            · rw [if_neg hc] at h
              exact absurd h hc
      · rw [if_neg h10] at h ⊢
        exact invL L ks st _ h
theorem invA (L : U5) (nm : List UInt8) : ∀ (ks : List NT) (st : AS), (visA L nm ks st).2.1 = 0 → Inv L st.u (visA L nm ks st).2.2.u
  | [], st, _ => by rw [visA]; exact Inv.refl L st.u
  | y :: r, st, h => by
    rw [visA] at h ⊢
    exact invF L y (st.add nm y none) h
theorem invL (L : U5) : ∀ (ks : List NT) (st : AS) (acc : Int), (visL L ks st acc).2.1 = 0 → Inv L st.u (visL L ks st acc).2.2.u
  | [], st, acc, _ => by rw [visL]; exact Inv.refl L st.u
  | y :: r, st, acc, h => by
    rw [visL] at h ⊢
    by_cases hy : (visF L y st).2.1 = 0
    · rw [if_pos hy] at h ⊢
      exact (invF L y st hy).trans (invL L r _ _ h)
    · rw [if_neg hy] at h
      exact absurd h hy
end
theorem WL.down {L' L u u' : U5} (h : WL L' u') (hw : WL L u) (hi : Inv L u u') : WL L' u := by
  obtain ⟨h1, h2, h3, _, h5⟩ := hi
  unfold WL at h hw ⊢
  omega
/-- Where the limits L' first do not suffice an alias ends with the error E. -/
structure Cross (L' U : U5) (E : Int) : Prop where
  val : VL L'
  ne : E ≠ 0
  cr : ∀ (u : U5) (k : Int), WL L' u → 0 ≤ k → u.a + 1 ≤ U.a → u.x + k ≤ U.x → ¬(u.a + 1 ≤ L'.a ∧ u.x + k ≤ L'.x) → (aliasU L' u k).c = E
def Crs (_L L' : U5) (E : Int) (_u : U5) (q q' : Int × Int × AS) : Prop := (WL L' q.2.2.u → q' = q) ∧ (¬WL L' q.2.2.u → q'.2.1 = E)
mutual
theorem crF {L L' U : U5} {E : Int} (C : Cross L' U E) : ∀ (t : NT) (st : AS), (visF L t st).2.1 = 0 → WL L st.u → WL L' st.u → (visF L t st).2.2.u.a ≤ U.a ∧ (visF L t st).2.2.u.x ≤ U.x → Crs L L' E st.u (visF L t st) (visF L' t st)
  | .mk k l x ks e, st, h, hw, hw', hU => by
    rw [visF] at h hU
    rw [visF, visF]
    by_cases h9 : k = 9
    · rw [if_pos h9] at h hU
      rw [if_pos h9, if_pos h9]
      by_cases hE : (st.E (x.drop 1)).isSome = true
      · rw [if_pos hE] at h; cases h
      · rw [if_neg hE] at h hU
        rw [if_neg hE, if_neg hE]
        exact crA C (x.drop 1) ks st h hw hw' hU
    · rw [if_neg h9] at h hU
      rw [if_neg h9, if_neg h9]
      by_cases h10 : k = 10
      · rw [if_pos h10] at h hU
        rw [if_pos h10, if_pos h10]
        cases hE : st.E (x.drop 1) with
        | none => rw [hE] at h; cases h
        | some p =>
          obtain ⟨kt, co⟩ := p
          cases co with
          | none => rw [hE] at h; cases h
          | some c =>
            rw [hE] at h hU
            simp only at h hU ⊢
            by_cases hc : (aliasU L st.u c).c = 0
            · rw [if_pos hc] at hU ⊢
              obtain ⟨⟨_, _, hk⟩, h2, h3, h4⟩ := aliasU_ok hc
              rw [h4] at hU ⊢
              simp only at hU ⊢
              refine ⟨fun hq => ?_, fun hq => ?_⟩
              · rcases aliasU_cases L' st.u c with ⟨hn, _⟩ | ⟨_, ha, _⟩ | ⟨_, _, hx, _⟩ | ⟨_, _, _, h5⟩
                · exact absurd ⟨C.val, hw', hk⟩ hn
                · unfold WL at hq; simp only at hq; omega
                · unfold WL at hq; simp only at hq; omega
                · rw [h5]
                  rfl
              · have hcr := C.cr st.u c hw' hk hU.1 hU.2 (fun hh => hq (by
                  unfold WL at hw hw' ⊢
                  simp only
                  omega))
                rw [if_neg (by rw [hcr]; exact C.ne)]
                exact hcr
            · rw [if_neg hc] at h
              exact absurd h hc
      · rw [if_neg h10] at h hU
        rw [if_neg h10, if_neg h10]
        exact crL C ks st _ h hw hw' hU
theorem crA {L L' U : U5} {E : Int} (C : Cross L' U E) (nm : List UInt8) : ∀ (ks : List NT) (st : AS), (visA L nm ks st).2.1 = 0 → WL L st.u → WL L' st.u → (visA L nm ks st).2.2.u.a ≤ U.a ∧ (visA L nm ks st).2.2.u.x ≤ U.x → Crs L L' E st.u (visA L nm ks st) (visA L' nm ks st)
  | [], st, _, _, hw', _ => by
    rw [visA, visA]
    exact ⟨fun _ => rfl, fun h => absurd hw' h⟩
  | y :: r, st, h, hw, hw', hU => by
    rw [visA] at h hU
    rw [visA, visA]
    have hy := crF C y (st.add nm y none) h hw hw' hU
    exact ⟨fun hq => by rw [hy.1 hq], fun hq => hy.2 hq⟩
theorem crL {L L' U : U5} {E : Int} (C : Cross L' U E) : ∀ (ks : List NT) (st : AS) (acc : Int), (visL L ks st acc).2.1 = 0 → WL L st.u → WL L' st.u → (visL L ks st acc).2.2.u.a ≤ U.a ∧ (visL L ks st acc).2.2.u.x ≤ U.x → Crs L L' E st.u (visL L ks st acc) (visL L' ks st acc)
  | [], st, acc, _, _, hw', _ => by
    rw [visL, visL]
    exact ⟨fun _ => rfl, fun h => absurd hw' h⟩
  | y :: r, st, acc, h, hw, hw', hU => by
    rw [visL] at h hU
    rw [visL, visL]
    by_cases hy : (visF L y st).2.1 = 0
    · rw [if_pos hy] at h hU
      rw [if_pos hy]
      have hi1 := invF L y st hy
      have hi2 := invL L r _ _ h
      have hw1 := hi1.2.2.2.1 hw
      have hb := crF C y st hy hw hw' (by obtain ⟨_, _, _, _, h5⟩ := hi2; omega)
      by_cases hq1 : WL L' (visF L y st).2.2.u
      · rw [hb.1 hq1, if_pos hy]
        have hr := crL C r _ _ h hw1 hq1 hU
        exact ⟨hr.1, hr.2⟩
      · have he := hb.2 hq1
        rw [if_neg (by rw [he]; exact C.ne)]
        exact ⟨fun hq => absurd (hq.down hw1 hi2) hq1, fun _ => he⟩
    · rw [if_neg hy] at h
      exact absurd h hy
end
theorem WL.zero {L : U5} (h : VL L) : WL L st0.u := by
  unfold VL at h
  unfold WL
  simp only [st0, U5.zero]
  omega
/-- What Check says with the limits that are just used, and with less. -/
theorem limits_law {t : NT} {u : U5} (h : chkF usual t = (u, 0)) :
    u.d = 0 ∧ u.n = 0 ∧ u.b = 0 ∧ 0 ≤ u.a ∧ u.a ≤ 1024 ∧ 0 ≤ u.x ∧ u.x ≤ 65536 ∧ chkF ⟨48, 65536, 1048576, u.a, u.x⟩ t = (u, 0) ∧ (u.a = 0 → u.x = 0) ∧
    (u.a ≠ 0 → (chkF ⟨48, 65536, 1048576, u.a - 1, u.x⟩ t).2 = 11) ∧ (u.a ≠ 0 → u.x ≠ 0 → (chkF ⟨48, 65536, 1048576, u.a, u.x - 1⟩ t).2 = 12) ∧ (u.x = 0 → (chkF ⟨48, 65536, 1048576, u.a, u.x - 1⟩ t).2 = 1) := by
  have hVU : VL usual := valid_VL.1 (by decide)
  unfold chkF at h
  by_cases hg : (validB usual.d usual.n usual.b usual.a usual.x && properB t) = false
  · rw [if_pos hg] at h; cases h
  rw [if_neg hg] at h
  by_cases hv : (visF usual t st0).2.1 = 0
  case neg => rw [if_neg hv] at h; exact absurd (congrArg Prod.snd h) hv
  rw [if_pos hv] at h
  have hp : properB t = true := by
    simp only [Bool.not_eq_false, Bool.and_eq_true] at hg
    exact hg.2
  simp only [Prod.mk.injEq, and_true] at h
  have hi := invF usual t st0 hv
  have hw0 : WL usual st0.u := WL.zero hVU
  rw [h] at hi
  have hwu := hi.2.2.2.1 hw0
  have hu : u.d = 0 ∧ u.n = 0 ∧ u.b = 0 := ⟨hi.1, hi.2.1, hi.2.2.1⟩
  have hb : 0 ≤ u.a ∧ u.a ≤ 1024 ∧ 0 ≤ u.x ∧ u.x ≤ 65536 := by
    unfold WL at hwu
    simp only [usual] at hwu
    omega
  have hc0 : ∀ (L' : U5), chkF L' t = if validB L'.d L'.n L'.b L'.a L'.x = false then (U5.zero, 1) else if (visF L' t st0).2.1 = 0 then ((visF L' t st0).2.2.u, 0) else (U5.zero, (visF L' t st0).2.1) := by
    intro L'
    unfold chkF
    rw [hp, Bool.and_true]
  have hcross : ∀ (L' : U5) (E : Int), Cross L' u E → (WL L' u → visF L' t st0 = visF usual t st0) ∧ (¬WL L' u → (visF L' t st0).2.1 = E) := by
    intro L' E C
    have hc := crF C t st0 hv hw0 (WL.zero C.val) (by rw [h]; exact ⟨Int.le_refl _, Int.le_refl _⟩)
    unfold Crs at hc
    rw [h] at hc
    exact hc
  refine ⟨hu.1, hu.2.1, hu.2.2, hb.1, hb.2.1, hb.2.2.1, hb.2.2.2, ?_, ?_, ?_, ?_, ?_⟩
  · have hV : VL ⟨48, 65536, 1048576, u.a, u.x⟩ := by unfold VL; simp only; omega
    have hC : Cross ⟨48, 65536, 1048576, u.a, u.x⟩ u 1 := ⟨hV, by decide, fun u' k _ _ h1 h2 h3 => absurd ⟨h1, h2⟩ h3⟩
    have hs := (hcross _ _ hC).1 (by unfold WL; simp only; omega)
    rw [hc0, if_neg (by rw [valid_VL.2 hV]; decide), hs, if_pos hv, h]
  · intro ha
    have h5 := hi.2.2.2.2
    have e1 : st0.u.a = 0 := rfl
    have e2 : st0.u.x = 0 := rfl
    omega
  · intro ha
    have hV : VL ⟨48, 65536, 1048576, u.a - 1, u.x⟩ := by unfold VL; simp only; omega
    have hC : Cross ⟨48, 65536, 1048576, u.a - 1, u.x⟩ u 11 := ⟨hV, by decide, fun u' k hw hk h1 h2 h3 => by
      rcases aliasU_cases ⟨48, 65536, 1048576, u.a - 1, u.x⟩ u' k with ⟨hn, _⟩ | ⟨_, _, h4⟩ | ⟨_, hne, _, _⟩ | ⟨_, hne, _, _⟩
      · exact absurd ⟨hV, hw, hk⟩ hn
      · rw [h4]
      · unfold WL at hw; simp only at hw hne h3; omega
      · unfold WL at hw; simp only at hw hne h3; omega⟩
    have hs := (hcross _ _ hC).2 (by unfold WL; simp only; omega)
    rw [hc0, if_neg (by rw [valid_VL.2 hV]; decide), if_neg (by rw [hs]; decide)]
    exact hs
  · intro ha hx
    have hV : VL ⟨48, 65536, 1048576, u.a, u.x - 1⟩ := by unfold VL; simp only; omega
    have hC : Cross ⟨48, 65536, 1048576, u.a, u.x - 1⟩ u 12 := ⟨hV, by decide, fun u' k hw hk h1 h2 h3 => by
      rcases aliasU_cases ⟨48, 65536, 1048576, u.a, u.x - 1⟩ u' k with ⟨hn, _⟩ | ⟨_, he, _⟩ | ⟨_, _, _, h4⟩ | ⟨_, _, h5, _⟩
      · exact absurd ⟨hV, hw, hk⟩ hn
      · simp only at he h3; omega
      · rw [h4]
      · simp only at h5 h3; omega⟩
    have hs := (hcross _ _ hC).2 (by unfold WL; simp only; omega)
    rw [hc0, if_neg (by rw [valid_VL.2 hV]; decide), if_neg (by rw [hs]; decide)]
    exact hs
  · intro hx
    have hV : ¬VL ⟨48, 65536, 1048576, u.a, u.x - 1⟩ := by unfold VL; simp only; omega
    rw [hc0, if_pos (by
      cases hb : validB 48 65536 1048576 u.a (u.x - 1) with
      | false => rfl
      | true => exact absurd ((valid_VL (L := ⟨48, 65536, 1048576, u.a, u.x - 1⟩)).1 hb) hV)]
end Go.Proofs.Ytbfnmgiccbdglaa
