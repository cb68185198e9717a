/- What an expansion has: neither anchors nor aliases, as many values as it costs; and it is its own expansion. Plain Lean. -/
import Derived.Test.YtbfnmgiccbdglaaAnXLaw
import Derived.Test.YtbfnmgiccbdglaaAnLaw
namespace Go.Proofs.Ytbfnmgiccbdglaa
open Go.ChangeShapes Go.WideShapes Go.ChangeAt Go.RowKit

/-- Anchors and aliases; scalars, lists and maps. -/
def mkF (t : NT) : Int := kindF 9 t + kindF 10 t
def mkL (l : List NT) : Int := kindL 9 l + kindL 10 l
def vaF (t : NT) : Int := kindF 2 t + kindF 3 t + kindF 4 t
def vaL (l : List NT) : Int := kindL 2 l + kindL 3 l + kindL 4 l
def mk0 (k : Int) : Int := if k = 9 ∨ k = 10 then 1 else 0
theorem mkF_eq (t : NT) : mkF t = mk0 t.k + mkL t.ks := by
  unfold mkF mkL mk0
  rw [kindF_eq, kindF_eq]
  by_cases h9 : t.k = 9
  · rw [if_pos h9, if_neg (by omega), if_pos (.inl h9)]; omega
  · by_cases h10 : t.k = 10
    · rw [if_neg h9, if_pos h10, if_pos (.inr h10)]; omega
    · rw [if_neg h9, if_neg h10, if_neg (by omega)]; omega
theorem vaF_eq (t : NT) : vaF t = cost0 t.k + vaL t.ks := by
  unfold vaF vaL cost0
  rw [kindF_eq, kindF_eq, kindF_eq]
  by_cases h2 : t.k = 2
  · rw [if_pos h2, if_neg (by omega), if_neg (by omega), if_pos (.inl h2)]; omega
  · by_cases h3 : t.k = 3
    · rw [if_neg h2, if_pos h3, if_neg (by omega), if_pos (.inr (.inl h3))]; omega
    · by_cases h4 : t.k = 4
      · rw [if_neg h2, if_neg h3, if_pos h4, if_pos (.inr (.inr h4))]; omega
      · rw [if_neg h2, if_neg h3, if_neg h4, if_neg (by omega)]; omega
theorem mkL_nil : mkL [] = 0 := rfl
theorem vaL_nil : vaL [] = 0 := rfl
theorem mkL_cons (y : NT) (r : List NT) : mkL (y :: r) = mkF y + mkL r := by unfold mkL mkF; rw [kindL, kindL]; omega
theorem vaL_cons (y : NT) (r : List NT) : vaL (y :: r) = vaF y + vaL r := by unfold vaL vaF; rw [kindL, kindL, kindL]; omega
theorem mkL_app (a b : List NT) : mkL (a ++ b) = mkL a + mkL b := by unfold mkL; rw [kindL_app, kindL_app]; omega
theorem vaL_app (a b : List NT) : vaL (a ++ b) = vaL a + vaL b := by unfold vaL; rw [kindL_app, kindL_app, kindL_app]; omega
mutual
theorem va_le : ∀ t : NT, 0 ≤ vaF t ∧ vaF t ≤ countF t ∧ 0 ≤ mkF t ∧ mkF t ≤ countF t
  | .mk k l x ks e => by
    have h := vaL_le ks
    rw [vaF_eq, mkF_eq, countF]
    simp only [NT.k, NT.ks]
    unfold cost0 mk0
    split <;> split <;> omega
theorem vaL_le : ∀ l : List NT, 0 ≤ vaL l ∧ vaL l ≤ countL l ∧ 0 ≤ mkL l ∧ mkL l ≤ countL l
  | [] => by rw [vaL_nil, mkL_nil, countL]; omega
  | y :: r => by
    have h1 := va_le y
    have h2 := vaL_le r
    rw [vaL_cons, mkL_cons, countL]; omega
end
/- ## What tree.Check asks of each node -/
mutual
def okN : NT → Prop
  | .mk k _ _ ks e => (1 ≤ k ∧ k ≤ 11 ∧ (leafB k = true → ks = [] ∧ e = [])) ∧ okL ks
def okL : List NT → Prop
  | [] => True
  | y :: r => okN y ∧ okL r
end
theorem okL_app : ∀ a b : List NT, okL (a ++ b) ↔ okL a ∧ okL b
  | [], b => by simp [okL]
  | y :: a, b => by rw [List.cons_append, okL, okL, okL_app a b, and_assoc]
mutual
theorem look_ok : ∀ (t : NT) (d s : Int), (lookF t d s).2 = 0 → okN t
  | .mk k l x ks e, d, s, h => by
    rw [lookF] at h
    split at h
    · cases h
    · split at h
      · cases h
      · split at h
        · cases h
        · split at h
          · cases h
          · rename_i h1 h2 h3 h4
            rw [okN]
            refine ⟨⟨by omega, by omega, fun hl => ?_⟩, lookL_ok ks _ _ h⟩
            refine ⟨?_, ?_⟩
            · cases ks with
              | nil => rfl
              | cons a b => exact absurd ⟨hl, .inl (by simp)⟩ h4
            · cases e with
              | nil => rfl
              | cons a b => exact absurd ⟨hl, .inr (by simp)⟩ h4
theorem lookL_ok : ∀ (l : List NT) (d s : Int), (lookL l d s).2 = 0 → okL l
  | [], _, _, _ => by rw [okL]; trivial
  | y :: r, d, s, h => by
    rw [lookL] at h
    split at h
    · rename_i hn
      exact absurd h hn
    · rename_i hn
      rw [okL]
      exact ⟨look_ok y d s (by omega), lookL_ok r _ _ h⟩
end
mutual
theorem look_go : ∀ (t : NT) (d s : Int), okN t → d + depthF t ≤ 193 → s + countF t ≤ 524288 → lookF t d s = (s + countF t, 0)
  | .mk k l x ks e, d, s, h, hd, hs => by
    rw [okN] at h
    rw [depthF] at hd
    rw [countF] at hs
    obtain ⟨⟨h1, h2, h3⟩, h4⟩ := h
    rw [lookF, if_neg (by omega), if_neg (by omega), if_neg (by omega), if_neg (fun hq => by
      obtain ⟨q1, q2⟩ := h3 hq.1
      rcases hq.2 with h5 | h5
      · exact h5 q1
      · exact h5 q2), lookL_go ks (d + 1) (s + 1) h4 (by omega) (by omega), countF]
    simp only [Prod.mk.injEq, and_true]
    omega
theorem lookL_go : ∀ (l : List NT) (d s : Int), okL l → d + depthL l ≤ 193 → s + countL l ≤ 524288 → lookL l d s = (s + countL l, 0)
  | [], d, s, _, _, _ => by rw [lookL, countL]; simp
  | y :: r, d, s, h, hd, hs => by
    rw [okL] at h
    rw [depthL] at hd
    rw [countL] at hs
    rw [lookL, look_go y d s h.1 (by omega) (by omega), if_neg (fun hn => hn rfl), lookL_go r d _ h.2 (by omega) (by omega), countL]
    simp only [Prod.mk.injEq, and_true]
    omega
end
theorem check_ok {t : NT} (h : checkT t = 0) : okN t := by
  unfold checkT at h
  split at h
  · cases h
  · exact look_ok t 1 0 h
theorem check_go {t : NT} (h : okN t) (hd : depthF t ≤ 192) (hc : countF t ≤ 524288) (hl : lenF t ≤ 1048576) : checkT t = 0 := by
  have h1 := look_go t 1 0 h (by omega) (by omega)
  unfold checkT
  rw [h1, if_neg (by omega)]
/- ## The cost: own values, and what the aliases add -/
mutual
theorem costF_own (L : U5) : ∀ (t : NT) (st : AS), (visF L t st).2.1 = 0 → markedB t = true → okN t → WL L st.u → countF t ≤ 1000000000 → L.x ≤ 65536 →
    (visF L t st).1 = vaF t + ((visF L t st).2.2.u.x - st.u.x) ∧ (visF L t st).2.2.u.a = st.u.a + kindF 10 t
  | .mk k l x ks e, st, h, hm, ho, hw, hc, hl => by
    have hv := vaF_eq (.mk k l x ks e)
    have hk := kindF_eq 10 (.mk k l x ks e)
    have hmb := marked_bad hm
    rw [show (NT.mk k l x ks e).k = k from rfl, show (NT.mk k l x ks e).ks = ks from rfl] at hv hk
    rw [show (NT.mk k l x ks e).ks = ks from rfl] at hmb
    rw [countF] at hc
    rw [okN] at ho
    have hwx : 0 ≤ st.u.x ∧ st.u.x ≤ L.x := by unfold WL at hw; omega
    rw [visF] at h ⊢
    by_cases h9 : k = 9
    · rw [if_pos h9] at h ⊢
      have hm0 : cost0 k = 0 := by unfold cost0; rw [if_neg (by omega)]
      have hk9 : kindF 10 (.mk k l x ks e) = kindL 10 ks := by rw [hk, if_neg (show ¬k = 10 by omega)]; omega
      rw [hv, hm0, hk9]
      have hl1 : ks.length = 1 := (marked_anchor hm h9).2
      by_cases hE : (st.E (x.drop 1)).isSome = true
      · rw [if_pos hE] at h; cases h
      · rw [if_neg hE] at h ⊢
        match ks, hl1, hmb, h with
        | [y], _, hmb, h =>
          rw [countL, countL] at hc
          rw [okL] at ho
          have hmy : markedB y = true := markedL_get _ 0 y hmb.2 rfl
          rw [visA] at h ⊢
          obtain ⟨i1, i2⟩ := costF_own L y (st.add (x.drop 1) y none) h hmy ho.2.1 hw (by omega) hl
          rw [vaL_cons, vaL_nil, kindL, kindL]
          refine ⟨?_, ?_⟩
          · show (visF L y (st.add (x.drop 1) y none)).1 = 0 + (vaF y + 0) + ((visF L y (st.add (x.drop 1) y none)).2.2.u.x - st.u.x)
            rw [i1]
            show _ = _
            have e1 : (st.add (x.drop 1) y none).u.x = st.u.x := rfl
            omega
          · show (visF L y (st.add (x.drop 1) y none)).2.2.u.a = _
            rw [i2]
            have e1 : (st.add (x.drop 1) y none).u.a = st.u.a := rfl
            omega
    · rw [if_neg h9] at h ⊢
      by_cases h10 : k = 10
      · rw [if_pos h10] at h ⊢
        have hm0 : cost0 k = 0 := by unfold cost0; rw [if_neg (by omega)]
        have hks : ks = [] := (ho.1.2.2 (by unfold leafB; rw [h10]; decide)).1
        rw [hv, hm0, hk, if_pos h10, hks, vaL_nil, kindL]
        cases hE : st.E (x.drop 1) with
        | none => rw [hE] at h; cases h
        | some p =>
          obtain ⟨kt, co⟩ := p
          cases co with
          | none => rw [hE] at h; cases h
          | some c =>
            rw [hE] at h
            simp only at h ⊢
            by_cases ha : (aliasU L st.u c).c = 0
            · rw [if_pos ha]
              obtain ⟨_, _, _, h4⟩ := aliasU_ok ha
              rw [h4]
              simp only
              omega
            · rw [if_neg ha] at h
              exact absurd h ha
      · rw [if_neg h10] at h ⊢
        have h01 : 0 ≤ cost0 k ∧ cost0 k ≤ 1 := by unfold cost0; split <;> omega
        obtain ⟨i1, i2⟩ := costL_own L ks st (cost0 k) h hmb.2 ho.2 hw (by omega) hl h01.1 (by omega)
        rw [hv, hk, if_neg h10]
        exact ⟨i1, by rw [show (visL L ks st (if k = 2 ∨ k = 3 ∨ k = 4 then 1 else 0)).2.2.u.a = st.u.a + kindL 10 ks from i2]; omega⟩
theorem costL_own (L : U5) : ∀ (l : List NT) (st : AS) (acc : Int), (visL L l st acc).2.1 = 0 → markedL l = true → okL l → WL L st.u → countL l ≤ 1000000000 → L.x ≤ 65536 → 0 ≤ acc → acc + countL l + (L.x - st.u.x) ≤ 1152921504606846976 →
    (visL L l st acc).1 = acc + vaL l + ((visL L l st acc).2.2.u.x - st.u.x) ∧ (visL L l st acc).2.2.u.a = st.u.a + kindL 10 l
  | [], st, acc, _, _, _, _, _, _, _, _ => by
    rw [visL, vaL_nil, kindL]
    simp only
    omega
  | y :: r, st, acc, h, hm, ho, hw, hc, hl, ha, hb => by
    have hmy : markedB y = true := markedL_get _ 0 y hm rfl
    have hmr : markedL r = true := by
      rw [markedL, if_pos hmy] at hm
      exact hm
    rw [okL] at ho
    rw [countL] at hc hb
    rw [visL] at h ⊢
    by_cases hy : (visF L y st).2.1 = 0
    · rw [if_pos hy] at h ⊢
      obtain ⟨i1, i2⟩ := costF_own L y st hy hmy ho.1 hw (by omega) hl
      have hi := invF L y st hy
      have hw1 := hi.2.2.2.1 hw
      have hv := va_le y
      have hx1 : 0 ≤ (visF L y st).2.2.u.x ∧ (visF L y st).2.2.u.x ≤ L.x := by unfold WL at hw1; omega
      have hx0 : 0 ≤ st.u.x ∧ st.u.x ≤ (visF L y st).2.2.u.x := by
        unfold WL at hw
        have h5 := hi.2.2.2.2
        omega
      have hwr : wrap64 (acc + (visF L y st).1) = acc + (visF L y st).1 := wrap64_inX _ ⟨by omega, by omega⟩
      rw [hwr] at h ⊢
      obtain ⟨j1, j2⟩ := costL_own L r (visF L y st).2.2 (acc + (visF L y st).1) h hmr ho.2 hw1 (by omega) hl (by omega) (by omega)
      rw [vaL_cons, kindL]
      exact ⟨by omega, by omega⟩
    · rw [if_neg hy] at h
      exact absurd h hy
end
/- ## The values of an expansion -/
def CstR (r : RSt) : Prop := ∀ e ∈ r.done, vaF e.2.1 = e.2.2 ∧ mkF e.2.1 = 0 ∧ okN e.2.1
mutual
theorem xvF (L : U5) : ∀ (t : NT) (r : RSt), markedB t = true → okN t → r.err = 0 → CstR r → (visR true L t r).1.err = 0 → countF (visR true L t r).2.1 ≤ 1152921504606846976 →
    (visR true L t r).2.2 = vaF (visR true L t r).2.1 ∧ mkF (visR true L t r).2.1 = 0 ∧ okN (visR true L t r).2.1 ∧ CstR (visR true L t r).1
  | .mk k l x ks e, r, hm, ho, he, hC, hz, hc => by
    have hmb := marked_bad hm
    rw [show (NT.mk k l x ks e).ks = ks from rfl] at hmb
    have ho2 := ho
    rw [okN] at ho
    rw [visR, if_neg (show ¬r.err ≠ 0 from fun h => h he)] at hz hc ⊢
    by_cases h10 : k = 10
    · rw [if_pos h10] at hz ⊢
      unfold aliR at hz ⊢
      cases hf : findD r.done ((NT.mk k l x ks e).x.drop 1) with
      | none => rw [hf] at hz; exact absurd hz (show ¬(11 : Int) = 0 by decide)
      | some q =>
        obtain ⟨s, t', c⟩ := q
        rw [hf] at hz
        simp only at hz ⊢
        by_cases ha : (aliasU L r.u c).c = 0
        · rw [if_pos ha]
          obtain ⟨q1, q2, q3⟩ := hC _ (findD_mem hf)
          exact ⟨q1.symm, q2, q3, hC⟩
        · rw [if_neg ha] at hz
          exact absurd hz ha
    · rw [if_neg h10] at hz hc ⊢
      by_cases h9 : k = 9
      · rw [if_pos h9] at hz hc ⊢
        by_cases hin : x.drop 1 ∈ r.names
        · rw [if_pos hin] at hz
          exact absurd hz (show ¬(8 : Int) = 0 by decide)
        · rw [if_neg hin] at hz hc ⊢
          exact xvA L (x.drop 1) ks (addN r (x.drop 1)) hmb.2 (marked_anchor hm h9).2 ho.2 he hC hz hc
      · rw [if_neg h9] at hz hc ⊢
        have h01 : 0 ≤ cost0 k ∧ cost0 k ≤ 1 := by unfold cost0; split <;> omega
        have hc1 : countF (.mk k l x (visRL true L ks r (cost0 k)).2.1 e) ≤ 1152921504606846976 := hc
        rw [countF] at hc1
        obtain ⟨i1, i2, i3, i4, i5⟩ := xvL L ks r (cost0 k) hmb.2 ho.2 he hC hz h01.1 (by omega)
        refine ⟨?_, ?_, ?_, i4⟩
        · show (visRL true L ks r (cost0 k)).2.2 = vaF (.mk k l x (visRL true L ks r (cost0 k)).2.1 e)
          rw [vaF_eq, i1]
          rfl
        · show mkF (.mk k l x (visRL true L ks r (cost0 k)).2.1 e) = 0
          rw [mkF_eq]
          show mk0 k + mkL (visRL true L ks r (cost0 k)).2.1 = 0
          unfold mk0
          rw [if_neg (by omega), i2]
          rfl
        · show okN (.mk k l x (visRL true L ks r (cost0 k)).2.1 e)
          rw [okN]
          exact ⟨⟨ho.1.1, ho.1.2.1, fun hlf => ⟨i5 (ho.1.2.2 hlf).1, (ho.1.2.2 hlf).2⟩⟩, i3⟩
theorem xvA (L : U5) (nm : List UInt8) : ∀ (l : List NT) (r : RSt), markedL l = true → l.length = 1 → okL l → r.err = 0 → CstR r → (visRA true L nm l r).1.err = 0 → countF (visRA true L nm l r).2.1 ≤ 1152921504606846976 →
    (visRA true L nm l r).2.2 = vaF (visRA true L nm l r).2.1 ∧ mkF (visRA true L nm l r).2.1 = 0 ∧ okN (visRA true L nm l r).2.1 ∧ CstR (visRA true L nm l r).1
  | [], _, _, hl, _, _, _, _, _ => by cases hl
  | y :: rest, r, hm, _, ho, he, hC, hz, hc => by
    rw [okL] at ho
    rw [visRA] at hz hc ⊢
    obtain ⟨i1, i2, i3, i4⟩ := xvF L y r (markedL_get _ 0 y hm rfl) ho.1 he hC hz hc
    refine ⟨i1, i2, i3, fun e he => ?_⟩
    rcases List.mem_append.1 (show e ∈ (visR true L y r).1.done ++ [(nm, (visR true L y r).2.1, (visR true L y r).2.2)] from he) with he | he
    · exact i4 e he
    · rw [List.mem_singleton.1 he]
      exact ⟨i1.symm, i2, i3⟩
theorem xvL (L : U5) : ∀ (l : List NT) (r : RSt) (acc : Int), markedL l = true → okL l → r.err = 0 → CstR r → (visRL true L l r acc).1.err = 0 → 0 ≤ acc → acc + countL (visRL true L l r acc).2.1 ≤ 1152921504606846976 →
    (visRL true L l r acc).2.2 = acc + vaL (visRL true L l r acc).2.1 ∧ mkL (visRL true L l r acc).2.1 = 0 ∧ okL (visRL true L l r acc).2.1 ∧ CstR (visRL true L l r acc).1 ∧ (l = [] → (visRL true L l r acc).2.1 = [])
  | [], r, acc, _, _, he, hC, hz, ha, hb => by
    rw [visRL]
    refine ⟨?_, mkL_nil, by rw [okL]; trivial, hC, fun _ => rfl⟩
    show acc = acc + vaL []
    rw [vaL_nil]
    omega
  | y :: rest, r, acc, hm, ho, he, hC, hz, ha, hb => by
    have hmy : markedB y = true := markedL_get _ 0 y hm rfl
    have hmr : markedL rest = true := by
      rw [markedL, if_pos hmy] at hm
      exact hm
    rw [okL] at ho
    rw [visRL] at hz hb
    have hb1 : acc + countL ([(visR true L y r).2.1] ++ (visRL true L rest (visR true L y r).1 (wrap64 (acc + (visR true L y r).2.2))).2.1) ≤ 1152921504606846976 := hb
    rw [countL_app] at hb1
    simp only [countL, Nat.add_zero] at hb1
    have hz1 := visRL_was true L rest _ _ hz
    obtain ⟨i1, i2, i3, i4⟩ := xvF L y r hmy ho.1 he hC hz1 (by have := countF_pos (visR true L y r).2.1; omega)
    have hv := va_le (visR true L y r).2.1
    have hwr : wrap64 (acc + (visR true L y r).2.2) = acc + (visR true L y r).2.2 := wrap64_inX _ ⟨by omega, by omega⟩
    rw [hwr] at hz hb1
    obtain ⟨j1, j2, j3, j4, _⟩ := xvL L rest (visR true L y r).1 (acc + (visR true L y r).2.2) hmr ho.2 hz1 i4 hz (by omega) (by omega)
    rw [visRL, hwr]
    refine ⟨?_, ?_, ?_, j4, fun h => by cases h⟩
    · show (visRL true L rest (visR true L y r).1 (acc + (visR true L y r).2.2)).2.2 = acc + vaL ([(visR true L y r).2.1] ++ (visRL true L rest (visR true L y r).1 (acc + (visR true L y r).2.2)).2.1)
      rw [vaL_app, vaL_cons, vaL_nil, j1, i1]
      omega
    · show mkL ([(visR true L y r).2.1] ++ (visRL true L rest (visR true L y r).1 (acc + (visR true L y r).2.2)).2.1) = 0
      rw [mkL_app, mkL_cons, mkL_nil, i2, j2]
      rfl
    · show okL ([(visR true L y r).2.1] ++ (visRL true L rest (visR true L y r).1 (acc + (visR true L y r).2.2)).2.1)
      rw [okL_app, okL, okL]
      exact ⟨⟨i3, trivial⟩, j3⟩
end
/- ## A tree without marks -/
theorem mk_parts {k : Int} {l x e : List UInt8} {ks : List NT} (h : mkF (.mk k l x ks e) = 0) : k ≠ 9 ∧ k ≠ 10 ∧ mkL ks = 0 := by
  rw [mkF_eq] at h
  have h1 : mk0 k + mkL ks = 0 := h
  have h2 := vaL_le ks
  unfold mk0 at h1
  split at h1
  · omega
  · exact ⟨by omega, by omega, by omega⟩
theorem mkL_parts {y : NT} {r : List NT} (h : mkL (y :: r) = 0) : mkF y = 0 ∧ mkL r = 0 := by
  rw [mkL_cons] at h
  have h1 := va_le y
  have h2 := vaL_le r
  omega
mutual
theorem nmB : ∀ t : NT, mkF t = 0 → markedB t = true
  | .mk k l x ks e, h => by
    obtain ⟨h9, h10, hk⟩ := mk_parts h
    rw [markedB, if_neg (by unfold badB; simp [h9, h10])]
    exact nmL ks hk
theorem nmL : ∀ l : List NT, mkL l = 0 → markedL l = true
  | [], _ => by rw [markedL]
  | y :: r, h => by
    obtain ⟨h1, h2⟩ := mkL_parts h
    rw [markedL, if_pos (nmB y h1)]
    exact nmL r h2
end
mutual
theorem nmV (L : U5) : ∀ (t : NT) (st : AS), mkF t = 0 → (visF L t st).2 = (0, st)
  | .mk k l x ks e, st, h => by
    obtain ⟨h9, h10, hk⟩ := mk_parts h
    rw [visF, if_neg h9, if_neg h10]
    exact nmVL L ks st _ hk
theorem nmVL (L : U5) : ∀ (l : List NT) (st : AS) (acc : Int), mkL l = 0 → (visL L l st acc).2 = (0, st)
  | [], st, acc, _ => by rw [visL]
  | y :: r, st, acc, h => by
    obtain ⟨h1, h2⟩ := mkL_parts h
    have hy := nmV L y st h1
    rw [visL, hy, if_pos rfl]
    exact nmVL L r st _ h2
end
mutual
theorem nmR (L : U5) : ∀ (t : NT) (r : RSt), mkF t = 0 → r.err = 0 → (visR true L t r).1 = r ∧ (visR true L t r).2.1 = t
  | .mk k l x ks e, r, h, he => by
    obtain ⟨h9, h10, hk⟩ := mk_parts h
    rw [visR, if_neg (show ¬r.err ≠ 0 from fun h => h he), if_neg h10, if_neg h9]
    obtain ⟨i1, i2⟩ := nmRL L ks r (cost0 k) hk he
    exact ⟨i1, by show NT.mk k l x (visRL true L ks r (cost0 k)).2.1 e = _; rw [i2]⟩
theorem nmRL (L : U5) : ∀ (l : List NT) (r : RSt) (acc : Int), mkL l = 0 → r.err = 0 → (visRL true L l r acc).1 = r ∧ (visRL true L l r acc).2.1 = l
  | [], r, acc, _, _ => by rw [visRL]; exact ⟨rfl, rfl⟩
  | y :: rest, r, acc, h, he => by
    obtain ⟨h1, h2⟩ := mkL_parts h
    obtain ⟨i1, i2⟩ := nmR L y r h1 he
    rw [visRL, i1, i2]
    obtain ⟨j1, j2⟩ := nmRL L rest r (wrap64 (acc + (visR true L y r).2.2)) h2 he
    refine ⟨j1, ?_⟩
    show [y] ++ (visRL true L rest r (wrap64 (acc + (visR true L y r).2.2))).2.1 = _
    rw [j2]
    rfl
end
/- ## The law -/
theorem xpQ_ok {x x' : NT} (h : xpQ x = (x', 0)) : x' = x ∧ depthF x ≤ 192 ∧ countF x ≤ 524288 ∧ lenF x ≤ 1048576 := by
  unfold xpQ at h
  split at h
  · cases h
  · split at h
    · cases h
    · simp only [Prod.mk.injEq, and_true] at h
      exact ⟨h.symm, by omega, by omega, by omega⟩
theorem xpQ_er (x : NT) : (xpQ x).2 = 0 ∨ (xpQ x).2 = 9 ∨ (xpQ x).2 = 10 := by
  unfold xpQ
  split
  · exact .inr (.inl rfl)
  · split
    · exact .inr (.inr rfl)
    · exact .inl rfl
theorem bounded_bad {L : U5} {t : NT} (h : (chkF L t).2 ≠ 0) : (chkF L t).1 = U5.zero ∧ xpE L t = (zT, (chkF L t).2) := by
  refine ⟨?_, by unfold xpE; rw [if_neg h]⟩
  unfold chkF at h ⊢
  split
  · rfl
  · rename_i h1
    rw [if_neg h1] at h
    split
    · rename_i h2
      rw [if_pos h2] at h
      exact absurd rfl h
    · rfl
structure BLaw (L : U5) (t : NT) (u : U5) : Prop where
  pr : properB t = true
  a : u.a ≤ L.a
  x : u.x ≤ L.x
  x0 : 0 ≤ u.x ∧ u.x ≤ 65536
  al : u.a = kindF 10 t
  z : u.d = 0 ∧ u.n = 0 ∧ u.b = 0
  cost : costF t = (vaF t + u.x, 0)
  fin : xpE L t = xpQ (xpT L t)
  er : (xpE L t).2 = 0 ∨ (xpE L t).2 = 9 ∨ (xpE L t).2 = 10
  ok : (xpE L t).2 = 0 → mkF (xpE L t).1 = 0 ∧ vaF (xpE L t).1 = vaF t + u.x ∧ xpE L (xpE L t).1 = ((xpE L t).1, 0) ∧ XOk L (xpE L t).1
theorem bounded_law {L : U5} {t : NT} (hx : XOk L t) (h : (chkF L t).2 = 0) : BLaw L t (chkF L t).1 := by
  have hfin : xpE L t = xpQ (xpT L t) := by unfold xpE; rw [if_pos h]
  unfold chkF at h
  by_cases hg : (validB L.d L.n L.b L.a L.x && properB t) = false
  · rw [if_pos hg] at h; cases h
  rw [if_neg hg] at h
  by_cases hv : (visF L t st0).2.1 = 0
  case neg => rw [if_neg hv] at h; exact absurd h hv
  have hchk : (chkF L t).1 = (visF L t st0).2.2.u := by
    unfold chkF
    rw [if_neg hg, if_pos hv]
  rw [Bool.not_eq_false, Bool.and_eq_true] at hg
  obtain ⟨hval, hp⟩ := hg
  have hVL : VL L := valid_VL.1 hval
  have hm := proper_marked hp
  have hok : okN t := check_ok (by
    unfold properB at hp
    rw [Bool.and_eq_true, decide_eq_true_eq] at hp
    exact hp.1)
  have hi := invF L t st0 hv
  have hw0 : WL L st0.u := WL.zero hVL
  have hwu := hi.2.2.2.1 hw0
  have hLx : L.x ≤ 65536 := by unfold VL at hVL; omega
  obtain ⟨c1, c2⟩ := costF_own L t st0 hv hm hok hw0 (by have := hx.c; omega) hLx
  have e1 : st0.u.x = 0 := rfl
  have e2 : st0.u.a = 0 := rfl
  rw [hchk]
  generalize hu : (visF L t st0).2.2.u = u at *
  have hub : 0 ≤ u.a ∧ u.a ≤ L.a ∧ 0 ≤ u.x ∧ u.x ≤ L.x := by unfold WL at hwu; omega
  have hVU : VL usual := valid_VL.1 (by decide)
  have hcross : Cross usual u 1 := ⟨hVU, by decide, fun u' k _ _ h1 h2 h3 => absurd ⟨by unfold VL at hVL; simp only [usual]; omega, by simp only [usual]; omega⟩ h3⟩
  have hcr := crF hcross t st0 hv hw0 (WL.zero hVU) (by rw [hu]; exact ⟨Int.le_refl _, Int.le_refl _⟩)
  have hsame : visF usual t st0 = visF L t st0 := hcr.1 (by
    rw [hu]
    have h1 := hi.1
    have h2 := hi.2.1
    have h3 := hi.2.2.1
    have e3 : st0.u.d = 0 := rfl
    have e4 : st0.u.n = 0 := rfl
    have e5 : st0.u.b = 0 := rfl
    unfold WL
    unfold VL at hVL
    simp only [usual]
    omega)
  have hcost : costF t = (vaF t + u.x, 0) := by
    unfold costF
    rw [if_neg (by rw [hp]; decide), hsame, if_pos hv, c1]
    simp only [Prod.mk.injEq, and_true]
    omega
  obtain ⟨l1, l2⟩ := (visR_law true L t st0 r0 hm r0_inv).1 hv
  obtain ⟨x1, x2, x3, _⟩ := xvF L t r0 hm hok rfl (fun e he => by cases he) l1.err hx.x
  refine ⟨hp, hub.2.1, hub.2.2.2, ⟨hub.2.2.1, by omega⟩, by omega, ⟨hi.1, hi.2.1, hi.2.2.1⟩, hcost, hfin, by rw [hfin]; exact xpQ_er _, fun hz => ?_⟩
  rw [hfin] at hz ⊢
  have hq : xpQ (xpT L t) = ((xpQ (xpT L t)).1, 0) := by rw [← hz]
  obtain ⟨q1, q2, q3, q4⟩ := xpQ_ok hq
  rw [q1]
  have hmx : mkF (xpT L t) = 0 := x2
  have hvx : vaF (xpT L t) = vaF t + u.x := by
    rw [← show (visR true L t r0).2.2 = vaF (xpT L t) from x1, l2, c1]
    omega
  have hchx : checkT (xpT L t) = 0 := check_go x3 q2 q3 q4
  have hpx : properB (xpT L t) = true := by
    unfold properB
    rw [hchx, nmB _ hmx]
    rfl
  have hxx : xpT L (xpT L t) = xpT L t := (nmR L (xpT L t) r0 hmx rfl).2
  have hckx : (chkF L (xpT L t)).2 = 0 := by
    unfold chkF
    rw [if_neg (by rw [hval, hpx]; decide), nmV L _ st0 hmx, if_pos rfl]
  refine ⟨hmx, hvx, ?_, ⟨by omega, by omega, by rw [hxx]; exact hx.x⟩⟩
  unfold xpE
  rw [if_pos hckx, hxx, hq, q1]
end Go.Proofs.Ytbfnmgiccbdglaa
