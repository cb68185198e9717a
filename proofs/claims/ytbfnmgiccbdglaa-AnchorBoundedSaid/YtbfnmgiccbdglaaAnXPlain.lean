/- What measure and expand of anchor find, in plain Lean, and that it is what the reference's visit gives. -/
import Derived.Test.YtbfnmgiccbdglaaAnRPlain
namespace Go.Proofs.Ytbfnmgiccbdglaa
open Go.ChangeShapes Go.WideShapes Go.ChangeAt Go.RowKit

/-- The nesting, the nodes, the bytes. -/
structure Sz where
  (d n b : Int)
def Sz.zero : Sz := ⟨0, 0, 0⟩
def szF (t : NT) : Sz := ⟨depthF t, countF t, wrap64 (lenF t)⟩
def Sz.join (s q : Sz) : Sz := ⟨if s.d < wrap64 (q.d + 1) then wrap64 (q.d + 1) else s.d, wrap64 (s.n + q.n), wrap64 (s.b + q.b)⟩
def updS (D : List UInt8 → Sz) (nm : List UInt8) (s : Sz) : List UInt8 → Sz := fun k => if k = nm then s else D k
mutual
/-- What measure finds, and the sizes of the anchors afterwards. -/
def msF : NT → (List UInt8 → Sz) → Sz × (List UInt8 → Sz)
  | .mk k l x ks e, D =>
    if k = 9 then msA (x.drop 1) ks D
    else if k = 10 then (D (x.drop 1), D)
    else msL ks D ⟨1, 1, wrap64 ((l.length + x.length + e.length : Nat) : Int)⟩
def msA (nm : List UInt8) : List NT → (List UInt8 → Sz) → Sz × (List UInt8 → Sz)
  | [], D => (Sz.zero, D)
  | y :: _, D => ((msF y D).1, updS (msF y D).2 nm (msF y D).1)
def msL : List NT → (List UInt8 → Sz) → Sz → Sz × (List UInt8 → Sz)
  | [], D, s => (s, D)
  | y :: r, D, s => msL r (msF y D).2 (s.join (msF y D).1)
end
theorem msF_eq (t : NT) (D : List UInt8 → Sz) : msF t D = if t.k = 9 then msA (t.x.drop 1) t.ks D
    else if t.k = 10 then (D (t.x.drop 1), D)
    else msL t.ks D ⟨1, 1, wrap64 ((t.l.length + t.x.length + t.e.length : Nat) : Int)⟩ := by
  obtain ⟨k, l, x, ks, e⟩ := t; rw [msF]; rfl
theorem msL_drop {l : List NT} {j : Nat} {y : NT} (h : l[j]? = some y) (D : List UInt8 → Sz) (s : Sz) : msL (l.drop j) D s = msL (l.drop (j + 1)) (msF y D).2 (s.join (msF y D).1) := by
  rw [drop_at h, msL]
/- ## How large an expansion can be -/
theorem findD_mem {α : Type} {l : List (List UInt8 × α)} {s : List UInt8} {e : List UInt8 × α} (h : findD l s = some e) : e ∈ l := List.mem_of_find?_eq_some h
def Cnt (B : Nat) (r : RSt) : Prop := ∀ e ∈ r.done, countF e.2.1 ≤ B
theorem Cnt.mono {B B' : Nat} {r : RSt} (h : Cnt B r) (hb : B ≤ B') : Cnt B' r := fun e he => Nat.le_trans (h e he) hb
theorem two_pos (n : Nat) : 0 < 2 ^ n := Nat.pow_pos (by decide)
theorem two_le {a b : Nat} (h : a ≤ b) : 2 ^ a ≤ 2 ^ b := Nat.pow_le_pow_right (by decide) h
theorem lt_two (n : Nat) : n ≤ 2 ^ n := Nat.le_of_lt Nat.lt_two_pow_self
theorem Cnt.alias {B : Nat} {r : RSt} (h : Cnt B r) (L : U5) (t : NT) (ht : countF t ≤ B) : Cnt B (aliR L t r).1 ∧ countF (aliR L t r).2.1 ≤ B := by
  unfold aliR
  split
  · exact ⟨h, ht⟩
  · rename_i s t' c hf
    split
    · exact ⟨h, h _ (findD_mem hf)⟩
    · exact ⟨h, ht⟩
mutual
theorem cntF (L : U5) : ∀ (t : NT) (r : RSt) (s : Nat), Cnt (2 ^ s) r → Cnt (2 ^ (s + countF t)) (visR true L t r).1 ∧ countF (visR true L t r).2.1 ≤ 2 ^ (s + countF t)
  | .mk k l x ks e, r, s, h => by
    have hup : Cnt (2 ^ (s + countF (.mk k l x ks e))) r := h.mono (two_le (Nat.le_add_right _ _))
    have hself : countF (.mk k l x ks e) ≤ 2 ^ (s + countF (.mk k l x ks e)) := Nat.le_trans (lt_two _) (two_le (Nat.le_add_left _ _))
    rw [visR]
    split
    · exact ⟨hup, hself⟩
    · split
      · exact hup.alias L _ hself
      · split
        · split
          · exact ⟨hup, hself⟩
          · have hA := cntA L (x.drop 1) ks (addN r (x.drop 1)) s h
            rw [countF]
            exact ⟨hA.1.mono (two_le (by omega)), Nat.le_trans hA.2 (two_le (by omega))⟩
        · obtain ⟨h1, h2⟩ := cntL L ks r (cost0 k) s h
          refine ⟨h1.mono (two_le (by rw [countF]; omega)), ?_⟩
          show countF (.mk k l x (visRL true L ks r (cost0 k)).2.1 e) ≤ _
          rw [countF, countF]
          have h3 := two_pos s
          rw [show s + (1 + countL ks) = s + countL ks + 1 by omega]
          rw [Nat.pow_succ 2 s] at h2
          omega
theorem cntA (L : U5) (nm : List UInt8) : ∀ (l : List NT) (r : RSt) (s : Nat), Cnt (2 ^ s) r → Cnt (2 ^ (s + countL l)) (visRA true L nm l r).1 ∧ countF (visRA true L nm l r).2.1 ≤ 2 ^ (s + countL l + 1)
  | [], r, s, h => by
    rw [visRA, countL]
    refine ⟨h, ?_⟩
    have := two_pos (s + 0 + 1)
    rw [countF, countL]
    omega
  | y :: rest, r, s, h => by
    obtain ⟨h1, h2⟩ := cntF L y r s h
    rw [visRA, countL]
    refine ⟨fun e he => ?_, Nat.le_trans h2 (two_le (by omega))⟩
    rcases List.mem_append.1 (show e ∈ (visR true L y r).1.done ++ [(nm, (visR true L y r).2.1, (visR true L y r).2.2)] from he) with he | he
    · exact Nat.le_trans (h1 e he) (two_le (by omega))
    · rw [List.mem_singleton.1 he]
      exact Nat.le_trans h2 (two_le (by omega))
theorem cntL (L : U5) : ∀ (l : List NT) (r : RSt) (acc : Int) (s : Nat), Cnt (2 ^ s) r → Cnt (2 ^ (s + countL l)) (visRL true L l r acc).1 ∧ countL (visRL true L l r acc).2.1 + 2 ^ (s + 1) ≤ 2 ^ (s + countL l + 1)
  | [], r, acc, s, h => by
    simp only [visRL, countL]
    exact ⟨h, by simp⟩
  | y :: rest, r, acc, s, h => by
    obtain ⟨h1, h2⟩ := cntF L y r s h
    obtain ⟨h3, h4⟩ := cntL L rest (visR true L y r).1 (wrap64 (acc + (visR true L y r).2.2)) (s + countF y) h1
    have hp := countF_pos y
    rw [visRL, countL]
    refine ⟨h3.mono (two_le (by omega)), ?_⟩
    show countL ((if true = true then [(visR true L y r).2.1] else []) ++ _) + _ ≤ _
    rw [if_pos rfl, countL_app, countL, countL, Nat.add_zero]
    have h5 : 2 ^ (s + 1) ≤ 2 ^ (s + countF y) := two_le (by omega)
    rw [Nat.pow_succ 2 (s + countF y)] at h4
    rw [show s + (countF y + countL rest) + 1 = s + countF y + countL rest + 1 by omega]
    omega
end
theorem cnt_zero (L : U5) (t : NT) (h : countF t ≤ 60) : countF (visR true L t r0).2.1 ≤ 1152921504606846976 := by
  have h1 := (cntF L t r0 0 (fun e he => by cases he)).2
  have h2 : 2 ^ (0 + countF t) ≤ 2 ^ 60 := two_le (by omega)
  exact Nat.le_trans h1 h2
/- ## No error at the end: none on the way -/
theorem visR_stay (g : Bool) (L : U5) (t : NT) (r : RSt) (h : r.err ≠ 0) : (visR g L t r).1 = r := by rw [visR_eq, if_pos h]
theorem visRL_was (g : Bool) (L : U5) (l : List NT) (r : RSt) (acc : Int) (h : (visRL g L l r acc).1.err = 0) : r.err = 0 := by
  by_cases hr : r.err = 0
  · exact hr
  · rw [visRL_err g L l r acc hr] at h
    exact absurd h hr
/- ## The measure is that of the expansion -/
def DInv (D : List UInt8 → Sz) (r : RSt) : Prop := ∀ s e, findD r.done s = some e → D s = szF e.2.1
mutual
theorem depthF_le_count : ∀ t : NT, depthF t ≤ countF t
  | .mk k l x ks e => by
    have h := depthL_le_count ks
    rw [depthF, countF]; omega
theorem depthL_le_count : ∀ l : List NT, depthL l ≤ countL l
  | [] => by rw [depthL]; exact Nat.zero_le _
  | y :: r => by
    have h1 := depthF_le_count y
    have h2 := depthL_le_count r
    rw [depthL, countL]; omega
end
theorem wrap64_inX (n : Int) (h : -9223372036854775808 ≤ n ∧ n ≤ 9223372036854775807) : wrap64 n = n := by unfold wrap64; omega
theorem wrap64_addX (a b : Int) : wrap64 (wrap64 a + wrap64 b) = wrap64 (a + b) := by unfold wrap64; omega
def szN (b : Nat) (kd : List NT) : Sz := ⟨(depthL kd + 1 : Nat), (1 + countL kd : Nat), wrap64 ((b + lenL kd : Nat) : Int)⟩
theorem szN_join (b : Nat) (kd : List NT) (y : NT) (h : 1 + countL (kd ++ [y]) ≤ 1152921504606846976) : (szN b kd).join (szF y) = szN b (kd ++ [y]) := by
  have h1 := depthL_le_count kd
  have h2 := depthF_le_count y
  rw [countL_app] at h
  simp only [countL, Nat.add_zero] at h
  have e1 : wrap64 ((depthF y : Int) + 1) = (depthF y : Int) + 1 := wrap64_inX _ ⟨by omega, by omega⟩
  have e2 : wrap64 (((1 + countL kd : Nat) : Int) + (countF y : Int)) = ((1 + countL kd : Nat) : Int) + (countF y : Int) := wrap64_inX _ ⟨by omega, by omega⟩
  have e3 : wrap64 (wrap64 ((b + lenL kd : Nat) : Int) + wrap64 (lenF y : Int)) = wrap64 (((b + lenL kd : Nat) : Int) + (lenF y : Int)) := wrap64_addX _ _
  unfold szN szF Sz.join
  simp only [Sz.mk.injEq]
  rw [e1, e2, e3, depthL_app, countL_app, lenL_app]
  simp only [depthL, countL, lenL, Nat.add_zero]
  refine ⟨?_, by omega, congrArg wrap64 (by omega)⟩
  split <;> omega
mutual
theorem ms_lawF (L : U5) : ∀ (t : NT) (r : RSt) (D : List UInt8 → Sz), markedB t = true → r.err = 0 → DInv D r → (visR true L t r).1.err = 0 → (∀ s e, findD r.done s = some e → s ∈ r.names) → countF (visR true L t r).2.1 ≤ 1152921504606846976 →
    (msF t D).1 = szF (visR true L t r).2.1 ∧ DInv (msF t D).2 (visR true L t r).1 ∧ (∀ s e, findD (visR true L t r).1.done s = some e → s ∈ (visR true L t r).1.names) ∧ (∀ s, s ∈ r.names → s ∈ (visR true L t r).1.names)
  | .mk k l x ks e, r, D, hm, he, hD, hz, hn, hc => by
    rw [visR, if_neg (show ¬r.err ≠ 0 from fun h => h he)] at hz hc
    rw [visR, if_neg (show ¬r.err ≠ 0 from fun h => h he), msF]
    by_cases h10 : k = 10
    · have h9 : ¬k = 9 := by omega
      rw [if_pos h10] at hz
      rw [if_neg h9, if_pos h10, if_pos h10]
      unfold aliR at hz ⊢
      cases hf : findD r.done ((NT.mk k l x ks e).x.drop 1) with
      | none => rw [hf] at hz; exact absurd hz (show ¬(11 : Int) = 0 by decide)
      | some q =>
        obtain ⟨s, t', c⟩ := q
        rw [hf] at hz
        simp only at hz ⊢
        by_cases ha : (aliasU L r.u c).c = 0
        · rw [if_pos ha]
          exact ⟨hD _ _ hf, hD, hn, fun s hs => hs⟩
        · rw [if_neg ha] at hz
          exact absurd hz ha
    · rw [if_neg h10] at hz hc
      by_cases h9 : k = 9
      · rw [if_pos h9] at hz hc
        rw [if_pos h9, if_neg h10, if_pos h9]
        by_cases hin : x.drop 1 ∈ r.names
        · rw [if_pos hin] at hz
          exact absurd hz (show ¬(8 : Int) = 0 by decide)
        · rw [if_neg hin] at hz hc ⊢
          exact ms_lawA L (x.drop 1) ks r D (marked_bad hm).2 (marked_anchor hm h9).2 he hD hz hin hn hc
      · rw [if_neg h9] at hz hc
        simp only [if_neg h9, if_neg h10]
        have hcd : ∀ z, countF (NT.mk k l x z e) = 1 + countL z := fun z => by rw [countF]
        rw [hcd] at hc
        obtain ⟨i1, i2, i3, i4⟩ := ms_lawL L ks r D (cost0 k) [] (l.length + x.length + e.length) (marked_bad hm).2 he hD hz hn hc
        refine ⟨?_, i2, i3, i4⟩
        show (msL ks D (szN (l.length + x.length + e.length) [])).1 = _
        rw [i1, List.nil_append]
        show szN _ _ = szF (.mk k l x _ e)
        unfold szN szF
        rw [depthF, countF, lenF]
theorem ms_lawA (L : U5) (nm : List UInt8) : ∀ (l : List NT) (r : RSt) (D : List UInt8 → Sz), markedL l = true → l.length = 1 → r.err = 0 → DInv D r → (visRA true L nm l (addN r nm)).1.err = 0 → nm ∉ r.names → (∀ s e, findD r.done s = some e → s ∈ r.names) → countF (visRA true L nm l (addN r nm)).2.1 ≤ 1152921504606846976 →
    (msA nm l D).1 = szF (visRA true L nm l (addN r nm)).2.1 ∧ DInv (msA nm l D).2 (visRA true L nm l (addN r nm)).1 ∧ (∀ s e, findD (visRA true L nm l (addN r nm)).1.done s = some e → s ∈ (visRA true L nm l (addN r nm)).1.names) ∧ (∀ s, s ∈ r.names → s ∈ (visRA true L nm l (addN r nm)).1.names)
  | [], _, _, _, hl, _, _, _, _, _, _ => by cases hl
  | y :: rest, r, D, hm, _, he, hD, hz, hin, hn, hc => by
    rw [visRA] at hz hc
    obtain ⟨i1, i2, i3, i4⟩ := ms_lawF L y (addN r nm) D (markedL_get _ 0 y hm rfl) he hD hz (fun s e hs => List.mem_append_left _ (hn s e hs)) hc
    have hnin : nm ∈ (visR true L y (addN r nm)).1.names := i4 nm (List.mem_append_right _ (List.mem_singleton.2 rfl))
    rw [visRA, msA]
    refine ⟨i1, fun s e hs => ?_, fun s e hs => ?_, fun s hs => i4 s (List.mem_append_left _ hs)⟩
    · show (if s = nm then _ else _) = _
      have hs1 : findD ((visR true L y (addN r nm)).1.done ++ [(nm, (visR true L y (addN r nm)).2.1, (visR true L y (addN r nm)).2.2)]) s = some e := hs
      rw [findD_app] at hs1
      cases hf : findD (visR true L y (addN r nm)).1.done s with
      | some e' =>
        rw [hf] at hs1
        cases hs1
        by_cases hsn : s = nm
        · exact absurd hf (by
            intro hf
            subst hsn
            exact absurd hf (ms_none L y (addN r s) s (List.mem_append_right _ (List.mem_singleton.2 rfl)) (by
              cases hg : findD r.done s with
              | none => exact hg
              | some e0 => exact absurd (hn s e0 hg) hin) _))
        · rw [if_neg hsn]
          exact i2 s e hf
      | none =>
        rw [hf, Option.none_or] at hs1
        by_cases hsn : nm = s
        · rw [if_pos hsn] at hs1
          cases hs1
          rw [if_pos hsn.symm]
          exact i1
        · rw [if_neg hsn] at hs1
          cases hs1
    · have hs1 : findD ((visR true L y (addN r nm)).1.done ++ [(nm, (visR true L y (addN r nm)).2.1, (visR true L y (addN r nm)).2.2)]) s = some e := hs
      rw [findD_app] at hs1
      show s ∈ (visR true L y (addN r nm)).1.names
      cases hf : findD (visR true L y (addN r nm)).1.done s with
      | some e' => exact i3 s e' hf
      | none =>
        rw [hf, Option.none_or] at hs1
        by_cases hsn : nm = s
        · rw [← hsn]; exact hnin
        · rw [if_neg hsn] at hs1
          cases hs1
theorem ms_lawL (L : U5) : ∀ (l : List NT) (r : RSt) (D : List UInt8 → Sz) (acc : Int) (kd : List NT) (b : Nat), markedL l = true → r.err = 0 → DInv D r → (visRL true L l r acc).1.err = 0 → (∀ s e, findD r.done s = some e → s ∈ r.names) → 1 + countL (kd ++ (visRL true L l r acc).2.1) ≤ 1152921504606846976 →
    (msL l D (szN b kd)).1 = szN b (kd ++ (visRL true L l r acc).2.1) ∧ DInv (msL l D (szN b kd)).2 (visRL true L l r acc).1 ∧ (∀ s e, findD (visRL true L l r acc).1.done s = some e → s ∈ (visRL true L l r acc).1.names) ∧ (∀ s, s ∈ r.names → s ∈ (visRL true L l r acc).1.names)
  | [], r, D, acc, kd, b, _, he, hD, hz, hn, hc => by
    rw [visRL, msL, List.append_nil]
    exact ⟨rfl, hD, hn, fun s hs => hs⟩
  | y :: rest, r, D, acc, kd, b, hm, he, hD, hz, hn, hc => by
    have hmy : markedB y = true := markedL_get _ 0 y hm rfl
    have hmr : markedL rest = true := by
      rw [markedL, if_pos hmy] at hm
      exact hm
    rw [visRL] at hz hc
    have hc1 : 1 + countL (kd ++ ([(visR true L y r).2.1] ++ (visRL true L rest (visR true L y r).1 (wrap64 (acc + (visR true L y r).2.2))).2.1)) ≤ 1152921504606846976 := hc
    rw [← List.append_assoc] at hc1
    have hc2 := hc1
    rw [countL_app] at hc2
    have hc3 : 1 + countL (kd ++ [(visR true L y r).2.1]) ≤ 1152921504606846976 := by omega
    have hc4 := hc3
    rw [countL_app] at hc4
    simp only [countL, Nat.add_zero] at hc4
    have hz1 := visRL_was true L rest _ _ hz
    obtain ⟨i1, i2, i3, i4⟩ := ms_lawF L y r D hmy he hD hz1 hn (by omega)
    obtain ⟨j1, j2, j3, j4⟩ := ms_lawL L rest (visR true L y r).1 (msF y D).2 (wrap64 (acc + (visR true L y r).2.2)) (kd ++ [(visR true L y r).2.1]) b hmr hz1 i2 hz i3 hc1
    rw [visRL, msL, i1, szN_join b kd _ hc3]
    refine ⟨?_, j2, j3, fun s hs => j4 s (i4 s hs)⟩
    rw [j1]
    show _ = szN b (kd ++ ([(visR true L y r).2.1] ++ _))
    rw [List.append_assoc]
/-- A name that is known already is not made complete. -/
theorem ms_none (L : U5) : ∀ (t : NT) (r : RSt) (s : List UInt8), s ∈ r.names → findD r.done s = none → ∀ q, findD (visR true L t r).1.done s ≠ some q
  | .mk k l x ks e, r, s, hs, hf, q => by
    rw [visR]
    split
    · rw [hf]; intro h; cases h
    · split
      · rw [(aliR_len L _ r).1, hf]; intro h; cases h
      · split
        · split
          · show findD r.done s ≠ _
            rw [hf]; intro h; cases h
          · rename_i hin
            exact ms_noneA L (x.drop 1) ks (addN r (x.drop 1)) s (List.mem_append_left _ hs) hf (fun he => hin (he ▸ hs)) q
        · exact ms_noneL L ks r _ s hs hf q
theorem ms_noneA (L : U5) (nm : List UInt8) : ∀ (l : List NT) (r : RSt) (s : List UInt8), s ∈ r.names → findD r.done s = none → s ≠ nm → ∀ q, findD (visRA true L nm l r).1.done s ≠ some q
  | [], r, s, _, hf, _, q => by
    rw [visRA, hf]; intro h; cases h
  | y :: rest, r, s, hs, hf, hn, q => by
    rw [visRA]
    show findD ((visR true L y r).1.done ++ [_]) s ≠ _
    rw [findD_app, if_neg (fun he => hn he.symm), Option.or_none]
    exact ms_none L y r s hs hf q
theorem ms_noneL (L : U5) : ∀ (l : List NT) (r : RSt) (acc : Int) (s : List UInt8), s ∈ r.names → findD r.done s = none → ∀ q, findD (visRL true L l r acc).1.done s ≠ some q
  | [], r, acc, s, _, hf, q => by
    rw [visRL, hf]; intro h; cases h
  | y :: rest, r, acc, s, hs, hf, q => by
    rw [visRL]
    refine ms_noneL L rest _ _ s ?_ ?_ q
    · exact ms_names L y r s hs
    · cases hg : findD (visR true L y r).1.done s with
      | none => rfl
      | some q' => exact absurd hg (ms_none L y r s hs hf q')
theorem ms_names (L : U5) : ∀ (t : NT) (r : RSt) (s : List UInt8), s ∈ r.names → s ∈ (visR true L t r).1.names
  | .mk k l x ks e, r, s, hs => by
    rw [visR]
    split
    · exact hs
    · split
      · rw [(aliR_len L _ r).2]; exact hs
      · split
        · split
          · exact hs
          · exact ms_namesA L (x.drop 1) ks (addN r (x.drop 1)) s (List.mem_append_left _ hs)
        · exact ms_namesL L ks r _ s hs
theorem ms_namesA (L : U5) (nm : List UInt8) : ∀ (l : List NT) (r : RSt) (s : List UInt8), s ∈ r.names → s ∈ (visRA true L nm l r).1.names
  | [], r, s, hs => by rw [visRA]; exact hs
  | y :: rest, r, s, hs => by
    rw [visRA]
    exact ms_names L y r s hs
theorem ms_namesL (L : U5) : ∀ (l : List NT) (r : RSt) (acc : Int) (s : List UInt8), s ∈ r.names → s ∈ (visRL true L l r acc).1.names
  | [], r, acc, s, hs => by rw [visRL]; exact hs
  | y :: rest, r, acc, s, hs => by
    rw [visRL]
    exact ms_namesL L rest _ _ s (ms_names L y r s hs)
end
end Go.Proofs.Ytbfnmgiccbdglaa
