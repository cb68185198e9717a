/- What expand of anchor makes, in plain Lean, and that it is what the reference's visit gives. -/
import Derived.Test.YtbfnmgiccbdglaaAnXPlain
namespace Go.Proofs.Ytbfnmgiccbdglaa
open Go.ChangeShapes Go.WideShapes Go.ChangeAt Go.RowKit

/-- The second tree is the expansion of the first, where E tells what the anchors name. -/
def Exp (E : List UInt8 → Option NT) : Nat → NT → NT → Prop
  | 0, _, _ => False
  | m + 1, t, t' => if t.k = 9 then ∃ y, t.ks[0]? = some y ∧ Exp E m y t' else if t.k = 10 then ∃ y, 1 ≤ t.x.length ∧ E (t.x.drop 1) = some y ∧ Exp E m y t'
      else t.ks.length ≤ 1000000 ∧ ∃ ks', t' = .mk t.k t.l t.x ks' t.e ∧ ks'.length = t.ks.length ∧ ∀ (i : Nat) (y y' : NT), t.ks[i]? = some y → ks'[i]? = some y' → Exp E m y y'
theorem Exp.mono {E E' : List UInt8 → Option NT} (hE : ∀ s y, E s = some y → E' s = some y) : ∀ {m : Nat} {t t' : NT}, Exp E m t t' → Exp E' m t t'
  | 0, _, _, h => h
  | m + 1, t, t', h => by
    rw [Exp] at h ⊢
    split at h
    · rename_i h9
      rw [if_pos h9]
      obtain ⟨y, h1, h2⟩ := h
      exact ⟨y, h1, Exp.mono hE h2⟩
    · rename_i h9
      rw [if_neg h9]
      split at h
      · rename_i h10
        rw [if_pos h10]
        obtain ⟨y, h0, h1, h2⟩ := h
        exact ⟨y, h0, hE _ _ h1, Exp.mono hE h2⟩
      · rename_i h10
        rw [if_neg h10]
        obtain ⟨h0, ks', h1, h2, h3⟩ := h
        exact ⟨h0, ks', h1, h2, fun i y y' hy hy' => Exp.mono hE (h3 i y y' hy hy')⟩
theorem Exp.up {E : List UInt8 → Option NT} : ∀ {m : Nat} {t t' : NT}, Exp E m t t' → Exp E (m + 1) t t'
  | 0, _, _, h => h.elim
  | m + 1, t, t', h => by
    rw [Exp] at h ⊢
    split at h
    · rename_i h9
      rw [if_pos h9]
      obtain ⟨y, h1, h2⟩ := h
      exact ⟨y, h1, Exp.up h2⟩
    · rename_i h9
      rw [if_neg h9]
      split at h
      · rename_i h10
        rw [if_pos h10]
        obtain ⟨y, h0, h1, h2⟩ := h
        exact ⟨y, h0, h1, Exp.up h2⟩
      · rename_i h10
        rw [if_neg h10]
        obtain ⟨h0, ks', h1, h2, h3⟩ := h
        exact ⟨h0, ks', h1, h2, fun i y y' hy hy' => Exp.up (h3 i y y' hy hy')⟩
theorem Exp.ups {E : List UInt8 → Option NT} {m : Nat} {t t' : NT} (h : Exp E m t t') : ∀ n, m ≤ n → Exp E n t t'
  | 0, hn => by
    have : m = 0 := by omega
    subst this; exact h
  | n + 1, hn => by
    rcases Nat.lt_or_ge m (n + 1) with hlt | hge
    · exact Exp.up (h.ups n (by omega))
    · have : m = n + 1 := by omega
      subst this; exact h
/-- What the anchors name. -/
def EM (st : AS) : List UInt8 → Option NT := fun s => (st.E s).map Prod.fst
theorem EM.some {st : AS} {s : List UInt8} {y : NT} (h : EM st s = some y) : ∃ c, st.E s = some (y, c) := by
  unfold EM at h
  obtain ⟨p, h1, h2⟩ := Option.map_eq_some_iff.1 h
  exact ⟨p.2, by rw [h1, ← h2]⟩
theorem EM_visF (L : U5) (t : NT) (st : AS) (s : List UInt8) (y : NT) (h : EM st s = some y) : EM (visF L t st).2.2 s = some y := by
  obtain ⟨c, hc⟩ := EM.some h
  unfold EM
  rw [visF_keep L t st s (by rw [hc]; rfl), hc]
  rfl
theorem EM_visL (L : U5) (l : List NT) (st : AS) (acc : Int) (s : List UInt8) (y : NT) (h : EM st s = some y) : EM (visL L l st acc).2.2 s = some y := by
  obtain ⟨c, hc⟩ := EM.some h
  unfold EM
  rw [visL_keep L l st acc s (by rw [hc]; rfl), hc]
  rfl
def XInv (st : AS) (r : RSt) : Prop := ∀ s e, findD r.done s = some e → ∃ y, EM st s = some y ∧ ∃ m, Exp (EM st) m y e.2.1
mutual
theorem ex_lawF (L : U5) : ∀ (t : NT) (st : AS) (r : RSt), markedB t = true → countF t ≤ 1000000 → RInv st r → XInv st r → (visF L t st).2.1 = 0 →
    XInv (visF L t st).2.2 (visR true L t r).1 ∧ ∃ m, Exp (EM (visF L t st).2.2) m t (visR true L t r).2.1
  | .mk k l x ks e, st, r, hm, hc, h, hX, hz => by
    rw [countF] at hc
    have he : ¬r.err ≠ 0 := by rw [h.err]; decide
    by_cases h10 : k = 10
    · have h9 : ¬k = 9 := by omega
      have hx := (named_len (marked_alias hm h10)).1
      rw [visF, if_neg h9, if_pos h10] at hz ⊢
      rw [visR, if_neg he, if_pos h10]
      have hd := h.done (x.drop 1)
      unfold costE at hd
      unfold aliR
      cases hE : st.E (x.drop 1) with
      | none => rw [hE] at hz; exact absurd hz (show ¬(11 : Int) = 0 by decide)
      | some p =>
        obtain ⟨kt, co⟩ := p
        cases co with
        | none => rw [hE] at hz; exact absurd hz (show ¬(11 : Int) = 0 by decide)
        | some c =>
          rw [hE] at hz hd
          simp only at hz hd ⊢
          obtain ⟨q, hq, hc⟩ := Option.map_eq_some_iff.1 hd
          obtain ⟨s, t', c'⟩ := q
          simp only at hc
          subst hc
          by_cases ha : (aliasU L st.u c').c = 0
          · rw [if_pos ha]
            rw [show (NT.mk k l x ks e).x.drop 1 = x.drop 1 from rfl, hq]
            simp only
            rw [h.u, if_pos ha]
            refine ⟨hX, ?_⟩
            obtain ⟨y, h1, m, h2⟩ := hX _ _ hq
            refine ⟨m + 1, ?_⟩
            rw [Exp, if_neg (show ¬(NT.mk k l x ks e).k = 9 from h9), if_pos (show (NT.mk k l x ks e).k = 10 from h10)]
            exact ⟨y, Nat.le_trans (by decide) hx, h1, h2⟩
          · rw [if_neg ha] at hz
            exact absurd hz ha
    · by_cases h9 : k = 9
      · rw [visF, if_pos h9] at hz ⊢
        rw [visR, if_neg he, if_neg h10, if_pos h9]
        by_cases hs : (st.E (x.drop 1)).isSome = true
        · rw [if_pos hs] at hz; exact absurd hz (show ¬(8 : Int) = 0 by decide)
        · rw [if_neg hs] at hz ⊢
          rw [if_neg (fun hn => hs ((h.names _).2 hn))]
          obtain ⟨i1, y, i2, m, i3⟩ := ex_lawA L (x.drop 1) ks st r (marked_bad hm).2 (marked_anchor hm h9).2 (by omega) hs h hX hz
          refine ⟨i1, m + 1, ?_⟩
          rw [Exp, if_pos (show (NT.mk k l x ks e).k = 9 from h9)]
          exact ⟨y, i2, i3⟩
      · rw [visF, if_neg h9, if_neg h10] at hz ⊢
        rw [visR, if_neg he, if_neg h10, if_neg h9]
        obtain ⟨i1, i2, m, i3⟩ := ex_lawL L ks st r _ (cost0 k) (marked_bad hm).2 (by omega) h hX hz
        refine ⟨i1, m + 1, ?_⟩
        rw [Exp, if_neg (show ¬(NT.mk k l x ks e).k = 9 from h9), if_neg (show ¬(NT.mk k l x ks e).k = 10 from h10)]
        exact ⟨Nat.le_trans (ks_count ks) (by omega), _, rfl, i2, i3⟩
theorem ex_lawA (L : U5) (nm : List UInt8) : ∀ (l : List NT) (st : AS) (r : RSt), markedL l = true → l.length = 1 → countL l ≤ 1000000 → ¬(st.E nm).isSome = true → RInv st r → XInv st r → (visA L nm l st).2.1 = 0 →
    XInv (visA L nm l st).2.2 (visRA true L nm l (addN r nm)).1 ∧ ∃ y, l[0]? = some y ∧ ∃ m, Exp (EM (visA L nm l st).2.2) m y (visRA true L nm l (addN r nm)).2.1
  | [], _, _, _, hl, _, _, _, _, _ => by cases hl
  | y :: rest, st, r, hm, _, hc, hs, h, hX, hz => by
    rw [countL] at hc
    have hmy : markedB y = true := markedL_get _ 0 y hm rfl
    rw [visA] at hz ⊢
    have hX0 : XInv (st.add nm y none) (addN r nm) := fun s e he => by
      obtain ⟨z, h1, m, h2⟩ := hX s e he
      have hup : ∀ s z, EM st s = some z → EM (st.add nm y none) s = some z := fun s z hz => by
        obtain ⟨c, hc⟩ := EM.some hz
        have hsn : s ≠ nm := fun he => hs (by rw [← he, hc]; rfl)
        show Option.map Prod.fst (if s = nm then _ else _) = _
        rw [if_neg hsn]
        exact hz
      exact ⟨z, hup s z h1, m, h2.mono hup⟩
    obtain ⟨i1, m, i2⟩ := ex_lawF L y (st.add nm y none) (addN r nm) hmy (by omega) (h.add hs y) hX0 hz
    have hE : (visF L y (st.add nm y none)).2.2.E nm = some (y, none) := by
      have h0 : (st.add nm y none).E nm = some (y, none) := if_pos rfl
      rw [visF_keep L y _ nm (by rw [h0]; rfl), h0]
    have hEM : EM ((visF L y (st.add nm y none)).2.2.done nm (visF L y (st.add nm y none)).1) = EM (visF L y (st.add nm y none)).2.2 := by
      funext s
      show Option.map Prod.fst (if s = nm then ((visF L y (st.add nm y none)).2.2.E s).map (fun p => (p.1, some _)) else _) = _
      by_cases hsn : s = nm
      · rw [if_pos hsn, hsn, hE]
        unfold EM
        rw [hE]
        rfl
      · rw [if_neg hsn]
        rfl
    rw [visRA]
    simp only
    rw [hEM]
    refine ⟨fun s e he => ?_, y, rfl, m, i2⟩
    rw [hEM]
    have he1 : findD ((visR true L y (addN r nm)).1.done ++ [(nm, (visR true L y (addN r nm)).2.1, (visR true L y (addN r nm)).2.2)]) s = some e := he
    rw [findD_app] at he1
    cases hf : findD (visR true L y (addN r nm)).1.done s with
    | some e' =>
      rw [hf] at he1
      cases he1
      exact i1 s e hf
    | none =>
      rw [hf, Option.none_or] at he1
      by_cases hsn : nm = s
      · rw [if_pos hsn] at he1
        cases he1
        refine ⟨y, ?_, m, i2⟩
        rw [← hsn]
        unfold EM
        rw [hE]
        rfl
      · rw [if_neg hsn] at he1
        cases he1
theorem ex_lawL (L : U5) : ∀ (l : List NT) (st : AS) (r : RSt) (acc acc' : Int), markedL l = true → countL l ≤ 1000000 → RInv st r → XInv st r → (visL L l st acc).2.1 = 0 →
    XInv (visL L l st acc).2.2 (visRL true L l r acc').1 ∧ (visRL true L l r acc').2.1.length = l.length ∧ ∃ m, ∀ (i : Nat) (y y' : NT), l[i]? = some y → (visRL true L l r acc').2.1[i]? = some y' → Exp (EM (visL L l st acc).2.2) m y y'
  | [], st, r, acc, acc', _, _, h, hX, hz => by
    rw [visL, visRL]
    exact ⟨hX, rfl, 0, fun i y y' hy => by simp at hy⟩
  | y :: rest, st, r, acc, acc', hm, hc, h, hX, hz => by
    rw [countL] at hc
    have hmy : markedB y = true := markedL_get _ 0 y hm rfl
    have hmr : markedL rest = true := by
      rw [markedL, if_pos hmy] at hm
      exact hm
    rw [visL] at hz ⊢
    by_cases hy : (visF L y st).2.1 = 0
    · rw [if_pos hy] at hz ⊢
      obtain ⟨j1, j2⟩ := (visR_law true L y st r hmy h).1 hy
      obtain ⟨i1, m1, i2⟩ := ex_lawF L y st r hmy (by omega) h hX hy
      obtain ⟨k1, k2, m2, k3⟩ := ex_lawL L rest (visF L y st).2.2 (visR true L y r).1 (wrap64 (acc + (visF L y st).1)) (wrap64 (acc' + (visR true L y r).2.2)) hmr (by omega) j1 i1 hz
      rw [visRL]
      refine ⟨k1, ?_, m1 + m2, fun i z z' hz1 hz2 => ?_⟩
      · show ((if true = true then [(visR true L y r).2.1] else []) ++ _).length = _
        rw [if_pos rfl, List.length_append, k2]
        simp only [List.length_cons, List.length_nil]
        omega
      · have hz2 : ([(visR true L y r).2.1] ++ (visRL true L rest (visR true L y r).1 (wrap64 (acc' + (visR true L y r).2.2))).2.1)[i]? = some z' := hz2
        cases i with
        | zero =>
          simp only [List.getElem?_cons_zero, Option.some.injEq, List.singleton_append] at hz1 hz2
          rw [← hz1, ← hz2]
          exact (i2.mono (fun s y => EM_visL L rest _ _ s y)).ups _ (by omega)
        | succ i =>
          simp only [List.getElem?_cons_succ, List.singleton_append] at hz1 hz2
          exact (k3 i z z' hz1 hz2).ups _ (by omega)
    · rw [if_neg hy] at hz
      exact absurd hz hy
end
/- ## The bytes of an expansion -/
mutual
/-- No node's own texts have more bytes. -/
def ownB (B : Nat) : NT → Prop
  | .mk _ l x ks e => l.length + x.length + e.length ≤ B ∧ ownL B ks
def ownL (B : Nat) : List NT → Prop
  | [] => True
  | y :: r => ownB B y ∧ ownL B r
end
theorem ownL_app (B : Nat) : ∀ a b : List NT, ownL B (a ++ b) ↔ ownL B a ∧ ownL B b
  | [], b => by simp [ownL]
  | y :: a, b => by rw [List.cons_append, ownL, ownL, ownL_app B a b, and_assoc]
mutual
theorem own_len (B : Nat) : ∀ t : NT, ownB B t → lenF t ≤ countF t * B
  | .mk k l x ks e, h => by
    rw [ownB] at h
    have h1 := ownL_len B ks h.2
    rw [lenF, countF, Nat.add_mul]
    omega
theorem ownL_len (B : Nat) : ∀ l : List NT, ownL B l → lenL l ≤ countL l * B
  | [], _ => by rw [lenL]; exact Nat.zero_le _
  | y :: r, h => by
    rw [ownL] at h
    have h1 := own_len B y h.1
    have h2 := ownL_len B r h.2
    rw [lenL, countL, Nat.add_mul]
    omega
end
mutual
theorem own_of (B : Nat) : ∀ t : NT, lenF t ≤ B → ownB B t
  | .mk k l x ks e, h => by
    rw [lenF] at h
    rw [ownB]
    exact ⟨by omega, ownL_of B ks (by omega)⟩
theorem ownL_of (B : Nat) : ∀ l : List NT, lenL l ≤ B → ownL B l
  | [], _ => by rw [ownL]; trivial
  | y :: r, h => by
    rw [lenL] at h
    rw [ownL]
    exact ⟨own_of B y (by omega), ownL_of B r (by omega)⟩
end
def OwnR (B : Nat) (r : RSt) : Prop := ∀ e ∈ r.done, ownB B e.2.1
mutual
theorem own_visF (B : Nat) (L : U5) : ∀ (t : NT) (r : RSt), ownB B t → OwnR B r → OwnR B (visR true L t r).1 ∧ ownB B (visR true L t r).2.1
  | .mk k l x ks e, r, ht, hr => by
    have ht2 := ht
    rw [ownB] at ht
    rw [visR]
    split
    · exact ⟨hr, ht2⟩
    · split
      · unfold aliR
        split
        · exact ⟨hr, ht2⟩
        · rename_i s t' c hf
          split
          · exact ⟨hr, hr _ (findD_mem hf)⟩
          · exact ⟨hr, ht2⟩
      · split
        · split
          · exact ⟨hr, ht2⟩
          · exact own_visA B L (x.drop 1) ks (addN r (x.drop 1)) ht.2 hr
        · obtain ⟨h1, h2⟩ := own_visL B L ks r (cost0 k) ht.2 hr
          refine ⟨h1, ?_⟩
          show ownB B (.mk k l x (visRL true L ks r (cost0 k)).2.1 e)
          rw [ownB]
          exact ⟨ht.1, h2⟩
theorem own_visA (B : Nat) (L : U5) (nm : List UInt8) : ∀ (l : List NT) (r : RSt), ownL B l → OwnR B r → OwnR B (visRA true L nm l r).1 ∧ ownB B (visRA true L nm l r).2.1
  | [], r, _, hr => by
    rw [visRA]
    refine ⟨hr, ?_⟩
    rw [ownB, ownL]
    exact ⟨Nat.zero_le _, trivial⟩
  | y :: rest, r, hl, hr => by
    rw [ownL] at hl
    obtain ⟨h1, h2⟩ := own_visF B L y r hl.1 hr
    rw [visRA]
    refine ⟨fun e he => ?_, h2⟩
    rcases List.mem_append.1 (show e ∈ (visR true L y r).1.done ++ [(nm, (visR true L y r).2.1, (visR true L y r).2.2)] from he) with he | he
    · exact h1 e he
    · rw [List.mem_singleton.1 he]
      exact h2
theorem own_visL (B : Nat) (L : U5) : ∀ (l : List NT) (r : RSt) (acc : Int), ownL B l → OwnR B r → OwnR B (visRL true L l r acc).1 ∧ ownL B (visRL true L l r acc).2.1
  | [], r, acc, _, hr => by
    rw [visRL]
    refine ⟨hr, ?_⟩
    show ownL B []
    rw [ownL]
    trivial
  | y :: rest, r, acc, hl, hr => by
    rw [ownL] at hl
    obtain ⟨h1, h2⟩ := own_visF B L y r hl.1 hr
    obtain ⟨h3, h4⟩ := own_visL B L rest (visR true L y r).1 (wrap64 (acc + (visR true L y r).2.2)) hl.2 h1
    rw [visRL]
    refine ⟨h3, ?_⟩
    show ownL B ((if true = true then [(visR true L y r).2.1] else []) ++ _)
    rw [if_pos rfl, ownL_app, ownL, ownL]
    exact ⟨⟨h2, trivial⟩, h4⟩
end
/- ## What Expand answers -/
def zT : NT := .mk 0 [] [] [] []
def xpQ (x : NT) : NT × Int := if 192 < depthF x then (zT, 9) else if 524288 < countF x ∨ 1048576 < lenF x then (zT, 10) else (x, 0)
/-- The expansion. -/
def xpT (L : U5) (t : NT) : NT := (visR true L t r0).2.1
def xpE (L : U5) (t : NT) : NT × Int := if (chkF L t).2 = 0 then xpQ (xpT L t) else (zT, (chkF L t).2)
/-- Sizes that the walks need. -/
structure XOk (L : U5) (t : NT) : Prop where
  c : countF t ≤ 1000000
  l : lenF t ≤ 1000000000
  x : countF (xpT L t) ≤ 1152921504606846976
theorem XOk.small {L : U5} {t : NT} (hc : countF t ≤ 60) (hl : lenF t ≤ 1000000000) : XOk L t := ⟨by omega, hl, cnt_zero L t hc⟩
theorem XOk.len {L : U5} {t : NT} (h : XOk L t) : lenF (xpT L t) ≤ countF (xpT L t) * 1000000000 := own_len _ _ (own_visF 1000000000 L t r0 (own_of _ t h.l) (fun e he => by cases he)).2
theorem xp_law {L : U5} {t : NT} (hm : markedB t = true) (hz : (visF L t st0).2.1 = 0) (hx : XOk L t) :
    (msF t (fun _ => Sz.zero)).1 = szF (xpT L t) ∧ ∃ m, Exp (EM (visF L t st0).2.2) m t (xpT L t) := by
  obtain ⟨i1, _⟩ := (visR_law true L t st0 r0 hm r0_inv).1 hz
  exact ⟨(ms_lawF L t r0 (fun _ => Sz.zero) hm rfl (fun s e he => by cases he) i1.err (fun s e he => by cases he) hx.x).1,
    (ex_lawF L t st0 r0 hm hx.c r0_inv (fun s e he => by cases he) hz).2⟩
/-- What the program asks of the sizes. -/
theorem xpQ_sz {L : U5} {t : NT} (hx : XOk L t) : xpQ (xpT L t) = if 192 < (szF (xpT L t)).d then (zT, 9) else if 524288 < (szF (xpT L t)).n ∨ 1048576 < (szF (xpT L t)).b then (zT, 10) else (xpT L t, 0) := by
  have h1 := hx.len
  have h2 := hx.x
  generalize xpT L t = x at *
  unfold xpQ
  have ed : (szF x).d = (depthF x : Int) := rfl
  have en : (szF x).n = (countF x : Int) := rfl
  have eb : (szF x).b = wrap64 (lenF x : Int) := rfl
  rw [ed, en, eb]
  by_cases hd : 192 < depthF x
  · rw [if_pos hd, if_pos (show (192 : Int) < (depthF x : Int) by omega)]
  · rw [if_neg hd, if_neg (show ¬(192 : Int) < (depthF x : Int) by omega)]
    by_cases hn : 524288 < countF x
    · rw [if_pos (show 524288 < countF x ∨ 1048576 < lenF x from .inl hn), if_pos (show (524288 : Int) < (countF x : Int) ∨ (1048576 : Int) < wrap64 (lenF x : Int) from .inl (by omega))]
    · have h3 : countF x * 1000000000 ≤ 524288 * 1000000000 := Nat.mul_le_mul_right _ (by omega)
      have hw : wrap64 (lenF x : Int) = (lenF x : Int) := wrap64_inX _ ⟨by omega, by omega⟩
      rw [hw]
      by_cases hl : 1048576 < lenF x
      · rw [if_pos (show 524288 < countF x ∨ 1048576 < lenF x from .inr hl), if_pos (show (524288 : Int) < (countF x : Int) ∨ (1048576 : Int) < (lenF x : Int) from .inr (by omega))]
      · rw [if_neg (show ¬(524288 < countF x ∨ 1048576 < lenF x) by omega), if_neg (show ¬((524288 : Int) < (countF x : Int) ∨ (1048576 : Int) < (lenF x : Int)) by omega)]
end Go.Proofs.Ytbfnmgiccbdglaa
