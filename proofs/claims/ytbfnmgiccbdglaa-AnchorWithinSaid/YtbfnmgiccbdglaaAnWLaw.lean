/- Aliases within, before and after an anchor: what Check says. -/
import Derived.Test.YtbfnmgiccbdglaaAnAwake
import Derived.Test.YtbfnmgiccbdglaaAnLaw
namespace Go.Proofs.Ytbfnmgiccbdglaa
open Go.ChangeShapes Go.WideShapes Go.ChangeAt Go.RowKit

/-- An alias within so many lists. -/
def innT (nm : List UInt8) : Nat → NT
  | 0 => .mk 10 [] (42 :: nm) [] []
  | d + 1 => .mk 3 [] [] [entT (innT nm d)] []
def scT : NT := .mk 2 [] [49] [] []
def oneT (nm : List UInt8) : NT := .mk 9 [] (38 :: nm) [scT] []
def wT1 (nm : List UInt8) (d : Nat) : NT := .mk 9 [] (38 :: nm) [innT nm d] []
def wT2 (a b : NT) : NT := .mk 3 [] [] [entT a, entT b] []
structure GoodN (nm : List UInt8) : Prop where
  ne : nm ≠ []
  le : nm.length ≤ 64
  ok : nm.all ncB = true
theorem GoodN.named {nm : List UInt8} (h : GoodN nm) (c : UInt8) : namedB (c :: nm) c.toNat = true := by
  unfold namedB
  have h1 : 0 < nm.length := List.length_pos_iff.2 h.ne
  have h2 := h.le
  rw [Bool.and_eq_true, decide_eq_true_eq]
  exact ⟨⟨by simp; omega, by simp; omega, rfl⟩, h.ok⟩
theorem inn_marked {nm : List UInt8} (h : GoodN nm) : ∀ d, markedB (innT nm d) = true
  | 0 => by
    have h1 := h.named 42
    rw [innT, markedB_eq, if_neg]
    · rw [NT.ks, markedL]
    · simp only [NT.k, NT.x, NT.ks]
      unfold badB
      rw [show namedB (42 :: nm) 42 = true from h1]
      simp
  | d + 1 => by
    rw [innT, markedB_eq, if_neg (by simp only [NT.k, NT.x, NT.ks]; unfold badB; simp), NT.ks, markedL, if_pos, markedL]
    rw [entT, markedB_eq, if_neg (by simp only [NT.k, NT.x, NT.ks]; unfold badB; simp), NT.ks, markedL, if_pos (inn_marked h d), markedL]
theorem ent_marked {t : NT} (h : markedB t = true) : markedB (entT t) = true := by
  rw [entT, markedB_eq, if_neg (by simp only [NT.k, NT.x, NT.ks]; unfold badB; simp), NT.ks, markedL, if_pos h, markedL]
theorem anc_marked {nm : List UInt8} (h : GoodN nm) {t : NT} (ht : markedB t = true) : markedB (.mk 9 [] (38 :: nm) [t] []) = true := by
  have h1 := h.named 38
  rw [markedB_eq, if_neg]
  · rw [NT.ks, markedL, if_pos ht, markedL]
  · simp only [NT.k, NT.x, NT.ks]
    unfold badB
    rw [show namedB (38 :: nm) 38 = true from h1]
    simp
theorem sc_marked : markedB scT = true := by decide
theorem two_marked {a b : NT} (ha : markedB a = true) (hb : markedB b = true) : markedB (wT2 a b) = true := by
  rw [wT2, markedB_eq, if_neg (by simp only [NT.k, NT.x, NT.ks]; unfold badB; simp), NT.ks, markedL, if_pos (ent_marked ha), markedL, if_pos (ent_marked hb), markedL]
/-- A tree of so many nodes and levels is valid, wherever it stands. -/
def LookOk (t : NT) (c l : Int) : Prop := ∀ d s : Int, d + l ≤ 192 → s + c ≤ 524288 → lookF t d s = (s + c, 0)
theorem LookOk.bare {k : Int} {l x : List UInt8} (hk : 1 ≤ k ∧ k ≤ 11) : LookOk (.mk k l x [] []) 1 0 := fun d s h1 h2 => by
  rw [lookF, if_neg (by omega), if_neg (by omega), if_neg (by omega), if_neg (by simp), lookL]
theorem LookOk.one {k : Int} {l x e : List UInt8} {t : NT} {c n : Int} (hk : 1 ≤ k ∧ k ≤ 11) (hf : leafB k = false) (h : LookOk t c n) (hn : 0 ≤ n) (hc : 0 < c) : LookOk (.mk k l x [t] e) (c + 1) (n + 1) := fun d s h1 h2 => by
  rw [lookF, if_neg (by omega), if_neg (by omega), if_neg (by omega), if_neg (by rw [hf]; simp), lookL, h (d + 1) (s + 1) (by omega) (by omega), if_neg (by simp), lookL]
  simp only [Prod.mk.injEq, and_true]
  omega
theorem LookOk.two {k : Int} {l x e : List UInt8} {t t' : NT} {c n c' n' : Int} (hk : 1 ≤ k ∧ k ≤ 11) (hf : leafB k = false) (h : LookOk t c n) (h' : LookOk t' c' n') (hn : 0 ≤ n) (hc : 0 < c) (hn' : 0 ≤ n') (hc' : 0 < c') : LookOk (.mk k l x [t, t'] e) (c + c' + 1) (n + n' + 1) := fun d s h1 h2 => by
  rw [lookF, if_neg (by omega), if_neg (by omega), if_neg (by omega), if_neg (by rw [hf]; simp), lookL, h (d + 1) (s + 1) (by omega) (by omega), if_neg (by simp), lookL]
  simp only
  rw [h' (d + 1) (s + 1 + c) (by omega) (by omega), if_neg (by simp), lookL]
  simp only [Prod.mk.injEq, and_true]
  omega
theorem inn_look (nm : List UInt8) : ∀ d : Nat, LookOk (innT nm d) (1 + 2 * d) (2 * d)
  | 0 => LookOk.bare (by decide)
  | d + 1 => by
    have h := LookOk.one (k := 3) (l := []) (x := []) (e := []) (by decide) (by decide) (LookOk.one (k := 5) (l := []) (x := []) (e := []) (by decide) (by decide) (inn_look nm d) (by omega) (by omega)) (by omega) (by omega)
    have e1 : (1 + 2 * (d : Int) + 1 + 1) = 1 + 2 * ((d + 1 : Nat) : Int) := by omega
    have e2 : (2 * (d : Int) + 1 + 1) = 2 * ((d + 1 : Nat) : Int) := by omega
    rw [e1, e2] at h
    exact h
theorem one_look (nm : List UInt8) : LookOk (oneT nm) 2 1 := LookOk.one (by decide) (by decide) (LookOk.bare (by decide)) (by omega) (by omega)
theorem ent_look {t : NT} {c n : Int} (h : LookOk t c n) (hn : 0 ≤ n) (hc : 0 < c) : LookOk (entT t) (c + 1) (n + 1) := LookOk.one (by decide) (by decide) h hn hc
theorem inn_len (nm : List UInt8) : ∀ d : Nat, lenF (innT nm d) = nm.length + 1
  | 0 => by simp [innT, lenF, lenL]
  | d + 1 => by simp [innT, entT, lenF, lenL, inn_len nm d]
theorem inn_count (nm : List UInt8) : ∀ d : Nat, countF (innT nm d) = 1 + 2 * d
  | 0 => by simp [innT, countF, countL]
  | d + 1 => by
    simp [innT, entT, countF, countL, inn_count nm d]
    omega
theorem one_len (nm : List UInt8) : lenF (oneT nm) = nm.length + 2 := by simp [oneT, scT, lenF, lenL]
theorem one_count (nm : List UInt8) : countF (oneT nm) = 2 := by simp [oneT, scT, countF, countL]
theorem two_len (a b : NT) : lenF (wT2 a b) = lenF a + lenF b := by simp [wT2, entT, lenF, lenL]
theorem two_count (a b : NT) : countF (wT2 a b) = countF a + countF b + 3 := by
  simp [wT2, entT, countF, countL]
  omega
theorem w1_len (nm : List UInt8) (d : Nat) : lenF (wT1 nm d) = 2 * nm.length + 2 := by
  simp [wT1, lenF, lenL, inn_len]
  omega
theorem w1_count (nm : List UInt8) (d : Nat) : countF (wT1 nm d) = 2 + 2 * d := by
  simp [wT1, countF, countL, inn_count]
  omega
theorem proper_of {t : NT} {c n : Int} (hm : markedB t = true) (hl : LookOk t c n) (hn : n ≤ 191) (hc : c ≤ 524288) (hle : lenF t ≤ 1048576) : properB t = true := by
  unfold properB checkT
  rw [hl 1 0 (by omega) (by omega), hm, Bool.and_true, decide_eq_true_eq, if_neg (by simp; omega)]
theorem inn_err (L : U5) (nm : List UInt8) : ∀ (d : Nat) (st : AS), (∀ kt c, st.E nm ≠ some (kt, some c)) → (visF L (innT nm d) st).2.1 = 11
  | 0, st, h => by
    rw [innT, visF, if_neg (by decide), if_pos rfl]
    show (match st.E nm with
      | some (_, some c) => _
      | _ => _ : Int × Int × AS).2.1 = 11
    cases hE : st.E nm with
    | none => rfl
    | some p =>
      obtain ⟨kt, co⟩ := p
      cases co with
      | none => rfl
      | some c => exact absurd hE (h kt c)
  | d + 1, st, h => by
    have h1 := inn_err L nm d st h
    have h2 : (visF L (entT (innT nm d)) st).2.1 = 11 := by
      rw [entT, visF, if_neg (by decide), if_neg (by decide), visL, if_neg (by rw [h1]; decide)]
      exact h1
    rw [innT, visF, if_neg (by decide), if_neg (by decide), visL, if_neg (by rw [h2]; decide)]
    exact h2
theorem inn_ok (L : U5) (nm : List UInt8) (kt : NT) (c : Int) (r : U5) : ∀ (d : Nat) (st : AS), st.E nm = some (kt, some c) → aliasU L st.u c = ⟨r.d, r.n, r.b, r.a, r.x, 0⟩ → (visF L (innT nm d) st).2 = (0, { st with u := r })
  | 0, st, h, ha => by
    rw [innT, visF, if_neg (by decide), if_pos rfl]
    show (match st.E nm with
      | some (_, some c) => _
      | _ => _ : Int × Int × AS).2 = _
    rw [h]
    simp only
    rw [ha, if_pos rfl]
  | d + 1, st, h, ha => by
    have h1 := inn_ok L nm kt c r d st h ha
    have h2 : (visF L (entT (innT nm d)) st).2 = (0, { st with u := r }) := by
      rw [entT, visF, if_neg (by decide), if_neg (by decide), visL, if_pos (by rw [h1]), visL, h1]
    rw [innT, visF, if_neg (by decide), if_neg (by decide), visL, if_pos (by rw [h2]), visL, h2]
theorem one_vis (L : U5) (nm : List UInt8) (st : AS) (h : st.E nm = none) : (visF L (entT (oneT nm)) st).2.1 = 0 ∧ (visF L (entT (oneT nm)) st).2.2.u = st.u ∧ (visF L (entT (oneT nm)) st).2.2.E nm = some (scT, some 1) := by
  have h1 : visF L (oneT nm) st = (1, 0, (st.add nm scT none).done nm 1) := by
    rw [oneT, visF, if_pos rfl]
    show (if (st.E nm).isSome = true then _ else _) = _
    rw [if_neg (by rw [h]; decide), visA]
    have h2 : visF L scT (st.add nm scT none) = (1, 0, st.add nm scT none) := by
      rw [scT, visF, if_neg (by decide), if_neg (by decide), visL, if_pos (by decide)]
    show ((visF L scT (st.add nm scT none)).1, (visF L scT (st.add nm scT none)).2.1, (visF L scT (st.add nm scT none)).2.2.done nm (visF L scT (st.add nm scT none)).1) = _
    rw [h2]
  rw [entT, visF, if_neg (by decide), if_neg (by decide), visL, h1, if_pos rfl, visL]
  refine ⟨rfl, rfl, ?_⟩
  show (if nm = nm then _ else _) = _
  rw [if_pos rfl]
  show (if nm = nm then _ else _ : Option (NT × Option Int)).map _ = _
  rw [if_pos rfl]
  rfl
theorem one_dup (L : U5) (nm : List UInt8) (st : AS) (h : (st.E nm).isSome = true) : (visF L (entT (oneT nm)) st).2.1 = 8 := by
  have h1 : (visF L (oneT nm) st).2.1 = 8 := by
    rw [oneT, visF, if_pos rfl]
    show (if (st.E nm).isSome = true then _ else _ : Int × Int × AS).2.1 = 8
    rw [if_pos h]
  rw [entT, visF, if_neg (by decide), if_neg (by decide), visL, if_neg (by rw [h1]; decide)]
  exact h1
theorem ent_inn_err (L : U5) (nm : List UInt8) (d : Nat) (st : AS) (h : ∀ kt c, st.E nm ≠ some (kt, some c)) : (visF L (entT (innT nm d)) st).2.1 = 11 := by
  have h1 := inn_err L nm d st h
  rw [entT, visF, if_neg (by decide), if_neg (by decide), visL, if_neg (by rw [h1]; decide)]
  exact h1
theorem chk_proper {L : U5} {t : NT} (hL : validB L.d L.n L.b L.a L.x = true) (hp : properB t = true) : chkF L t = if (visF L t st0).2.1 = 0 then ((visF L t st0).2.2.u, 0) else (U5.zero, (visF L t st0).2.1) := by
  unfold chkF
  rw [hL, hp]
  rfl
theorem w1_law {nm : List UInt8} (h : GoodN nm) {d : Nat} (hd : d ≤ 20) : chkF usual (wT1 nm d) = (U5.zero, 11) := by
  have hle := h.le
  have hp : properB (wT1 nm d) = true := proper_of (anc_marked h (inn_marked h d)) (LookOk.one (by decide) (by decide) (inn_look nm d) (by omega) (by omega)) (by omega) (by omega) (by rw [w1_len]; omega)
  have hv : (visF usual (wT1 nm d) st0).2.1 = 11 := by
    rw [wT1, visF, if_pos rfl]
    show (if (none : Option (NT × Option Int)).isSome = true then _ else _ : Int × Int × AS).2.1 = 11
    rw [if_neg (by decide), visA]
    exact inn_err usual nm d _ (fun kt c hE => by
      have h2 : (if nm = nm then some (innT nm d, (none : Option Int)) else _) = some (kt, some c) := hE
      rw [if_pos rfl] at h2
      cases h2)
  rw [chk_proper (by decide) hp, if_neg (by rw [hv]; decide), hv]
theorem w2_law {nm : List UInt8} (h : GoodN nm) {d : Nat} (hd : d ≤ 20) : chkF usual (wT2 (innT nm d) (oneT nm)) = (U5.zero, 11) := by
  have hle := h.le
  have hp : properB (wT2 (innT nm d) (oneT nm)) = true := proper_of (two_marked (inn_marked h d) (anc_marked h sc_marked)) (LookOk.two (by decide) (by decide) (ent_look (inn_look nm d) (by omega) (by omega)) (ent_look (one_look nm) (by omega) (by omega)) (by omega) (by omega) (by omega) (by omega)) (by omega) (by omega) (by rw [two_len, inn_len, one_len]; omega)
  have hv : (visF usual (wT2 (innT nm d) (oneT nm)) st0).2.1 = 11 := by
    have h1 := ent_inn_err usual nm d st0 (fun kt c hE => by cases hE)
    rw [wT2, visF, if_neg (by decide), if_neg (by decide), visL, if_neg (by rw [h1]; decide)]
    exact h1
  rw [chk_proper (by decide) hp, if_neg (by rw [hv]; decide), hv]
theorem w3_law {nm : List UInt8} (h : GoodN nm) {d : Nat} (hd : d ≤ 20) : chkF usual (wT2 (oneT nm) (innT nm d)) = (⟨0, 0, 0, 1, 1⟩, 0) := by
  have hle := h.le
  have hp : properB (wT2 (oneT nm) (innT nm d)) = true := proper_of (two_marked (anc_marked h sc_marked) (inn_marked h d)) (LookOk.two (by decide) (by decide) (ent_look (one_look nm) (by omega) (by omega)) (ent_look (inn_look nm d) (by omega) (by omega)) (by omega) (by omega) (by omega) (by omega)) (by omega) (by omega) (by rw [two_len, inn_len, one_len]; omega)
  obtain ⟨g1, g2, g3⟩ := one_vis usual nm st0 rfl
  have hi : (visF usual (entT (innT nm d)) (visF usual (entT (oneT nm)) st0).2.2).2 = (0, { (visF usual (entT (oneT nm)) st0).2.2 with u := ⟨0, 0, 0, 1, 1⟩ }) := by
    have h1 := inn_ok usual nm scT 1 ⟨0, 0, 0, 1, 1⟩ d (visF usual (entT (oneT nm)) st0).2.2 g3 (by rw [g2]; rfl)
    rw [entT, visF, if_neg (by decide), if_neg (by decide), visL, if_pos (by rw [h1]), visL, h1]
  have hv : (visF usual (wT2 (oneT nm) (innT nm d)) st0).2.1 = 0 ∧ (visF usual (wT2 (oneT nm) (innT nm d)) st0).2.2.u = ⟨0, 0, 0, 1, 1⟩ := by
    rw [wT2, visF, if_neg (by decide), if_neg (by decide), visL, if_pos g1, visL, if_pos (by rw [hi]), visL, hi]
    exact ⟨rfl, rfl⟩
  rw [chk_proper (by decide) hp, if_pos hv.1, hv.2]
theorem w4_law {nm : List UInt8} (h : GoodN nm) : chkF usual (wT2 (oneT nm) (oneT nm)) = (U5.zero, 8) := by
  have hle := h.le
  have hp : properB (wT2 (oneT nm) (oneT nm)) = true := proper_of (two_marked (anc_marked h sc_marked) (anc_marked h sc_marked)) (LookOk.two (by decide) (by decide) (ent_look (one_look nm) (by omega) (by omega)) (ent_look (one_look nm) (by omega) (by omega)) (by omega) (by omega) (by omega) (by omega)) (by omega) (by omega) (by rw [two_len, one_len]; omega)
  obtain ⟨g1, _, g3⟩ := one_vis usual nm st0 rfl
  have hd := one_dup usual nm (visF usual (entT (oneT nm)) st0).2.2 (by rw [g3]; rfl)
  have hv : (visF usual (wT2 (oneT nm) (oneT nm)) st0).2.1 = 8 := by
    rw [wT2, visF, if_neg (by decide), if_neg (by decide), visL, if_pos g1, visL, if_neg (by rw [hd]; decide)]
    exact hd
  rw [chk_proper (by decide) hp, if_neg (by rw [hv]; decide), hv]
end Go.Proofs.Ytbfnmgiccbdglaa
