/- visit of the reference, whole; Check and Cost of the reference, walked. -/
import Derived.Test.YtbfnmgiccbdglaaAnRVisA
import Derived.Test.YtbfnmgiccbdglaaAnRVisN
namespace Go.Proofs.Ytbfnmgiccbdglaa
open Go.ChangeShapes Go.WideShapes Go.ChangeAt Go.RowKit

theorem visitRP_any (L : U5) : ∀ m : Nat, VisI false L m := by
  intro m
  induction m with
  | zero => exact fun v t st a cnt w P hP hr => hr.elim
  | succ m ih =>
    intro v t st a cnt w P hP hr hs hmk hb1 hb2 hcc
    have hnr : NR P w v t := ⟨m + 1, hr⟩
    have hct := countF_eq t
    have hm := marked_bad hmk
    have hxt := hnr.text.2.2.1
    by_cases he : st.err = 0
    · by_cases hk10 : t.k = 10
      · exact visitR_alias false L t v st a w hnr hs he hk10 (by rw [hxt]; exact (named_len (marked_alias hmk hk10)).1) (by omega)
      · by_cases hk9 : t.k = 9
        · obtain ⟨hnm, hl1⟩ := marked_anchor hmk hk9
          have hx2 : 2 ≤ v.x.length := by rw [hxt]; exact (named_len hnm).1
          by_cases hdup : v.x.drop 1 ∈ st.names
          · exact visitR_dup false L t v st a w hnr hs he hk9 hx2 hdup
          · obtain ⟨kid, hks⟩ : ∃ kid, t.ks = [kid] := by
              match t.ks, hl1 with
              | [y], _ => exact ⟨y, rfl⟩
            obtain ⟨m', hm', _, _, _, _, hnk, _, _, _, _, _, _, _, hrow⟩ := hr.parts
            have hm2 : m' = m := by omega
            subst hm2
            rw [hks] at hnk hct hrow
            obtain ⟨bk, ok, d, hA, hpk, hbk, hce, hre⟩ := hrow 0 kid rfl
            rw [countL, countL, Nat.add_zero] at hct
            exact visitR_anchor false L m' t v st a cnt w hP hnr hs he hk9 hx2 hdup kid hks (marked_kids hmk (i := 0) (by rw [hks]; rfl)) bk ok d hA (by simpa using hnk) hpk hbk (by simpa using hce) hre hb1 hb2 (by omega) (Lib.hid ih)
        · exact visitR_node L m t v st a cnt w hP hr hs he hk10 hk9 hm.2 hb1 hb2 (by omega) (Lib.hid ih)
    · exact visitR_err false L t v st a w hnr hs he
theorem r0_rep {P : Nat → Prop} (w : World) : SRep P w r0 ⟨none, 0, 0, none, 0, 0⟩ :=
  ⟨rfl, ⟨Nat.le_refl _, Nat.zero_le _⟩, fun h => absurd rfl h, rfl, ⟨Nat.le_refl _, Nat.zero_le _⟩, [], rfl, fun h => absurd rfl h, fun i e h => by simp at h⟩
end Go.Proofs.Ytbfnmgiccbdglaa
