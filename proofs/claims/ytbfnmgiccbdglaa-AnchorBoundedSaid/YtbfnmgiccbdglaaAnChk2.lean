/- The exported Check of package tree and of its reference, walked. -/
import Derived.Test.YtbfnmgiccbdglaaAnChk
namespace Go.Proofs.Ytbfnmgiccbdglaa
open Go.ChangeShapes Go.WideShapes Go.ChangeAt Go.RowKit

theorem Gr.grownOwn {w W w1 : World} {row : Option Nat} (h : Gr w W) (hg : W.grownBy w1 row) (hr : ∀ k, row = some k → w.heap.size ≤ k) : Gr w w1 := Below.grown h hg h.size hr
set_option maxRecDepth 100000 in
set_option maxHeartbeats 4000000 in
theorem CheckRP_any (m : Nat) (v : ND) (t : NT) (w : World) (hr : NRep anyB m w v t) (hl : lenF t ≤ 1152921504606846976) : Calls Try.prog 45 #[.agg #[.int .i64 v.k, .string (bs v.l), .string (bs v.x), .slice v.A v.n v.c, .string (bs v.e)]] w (RI (checkT t) w) := by
  have hR : checkT t = if (lookF t 1 0).2 = 0 ∧ 1048576 < lenF t then 10 else (lookF t 1 0).2 := rfl
  have HC : Hid (∀ w', Gr w w' → Calls Try.prog 53 #[.agg #[.int .i64 v.k, .string (bs v.l), .string (bs v.x), .slice v.A v.n v.c, .string (bs v.e)], .int .i64 1, .int .i64 0] w' (R2I (lookF t 1 0) w')) := Lib.hid (fun w' hg => lookP_any m v t 1 0 w' (hr.gr hg) (by omega) (by omega) (by omega) (by omega))
  have HL : Hid (∀ w', Gr w w' → Calls Try.prog 41 #[.agg #[.int .i64 v.k, .string (bs v.l), .string (bs v.x), .slice v.A v.n v.c, .string (bs v.e)]] w' (RI (lenF t) w')) := Lib.hid (fun w' hg => lenRP_any m v t w' (hr.gr hg) hl)
  generalize lookF t 1 0 = q at *
  generalize lenF t = z at *
  obtain ⟨s1, e1⟩ := q
  rw [hR]
  unfold R2I at HC
  dsimp only at HC ⊢
  clear hr hR
  have hG1 : Gr w (w.alloc (.cells #[.int .i64 v.k, .string (bs v.l), .string (bs v.x), .slice v.A v.n v.c, .string (bs v.e)] 24)) := (Gr.refl w).alloc _
  by_cases he : e1 = 0
  · subst he
    by_cases hz : 1048576 < z
    · rw [if_pos ⟨rfl, hz⟩]
      go_enter Try.func45, Try.ntmps45
      go_wp2_with fail
      refine (HC.out _ hG1).mono ?_
      rintro e w1 ⟨rfl, hb1⟩
      obtain ⟨hc1, hf1, hs1⟩ := Gr.cells hb1
      simp at hs1
      have q3 := fun o => hc1 w.heap.size o (by simp)
      clear hc1 hf1
      go_wp2_with fail
      refine (HL.out _ (hG1.trans hb1)).mono ?_
      rintro e w2 ⟨rfl, hb2⟩
      go_wp2_with fail
      go_ret
      exact ⟨rfl, (by with_reducible (repeat (first | exact Gr.refl _ | assumption | apply Gr.alloc | apply Gr.drew | apply Gr.drewN | refine Gr.setCell ?_ (by first | (simp; done) | (simp; omega)) _ | refine Gr.trans ?_ (by assumption))))⟩
    · rw [if_neg (fun h => hz h.2)]
      go_enter Try.func45, Try.ntmps45
      go_wp2_with fail
      refine (HC.out _ hG1).mono ?_
      rintro e w1 ⟨rfl, hb1⟩
      obtain ⟨hc1, hf1, hs1⟩ := Gr.cells hb1
      simp at hs1
      have q3 := fun o => hc1 w.heap.size o (by simp)
      clear hc1 hf1
      go_wp2_with fail
      refine (HL.out _ (hG1.trans hb1)).mono ?_
      rintro e w2 ⟨rfl, hb2⟩
      go_wp2_with fail
      go_ret
      exact ⟨rfl, (by with_reducible (repeat (first | exact Gr.refl _ | assumption | apply Gr.alloc | apply Gr.drew | apply Gr.drewN | refine Gr.setCell ?_ (by first | (simp; done) | (simp; omega)) _ | refine Gr.trans ?_ (by assumption))))⟩
  · have heb : (e1 == 0) = false := by simpa using he
    have heb' : (e1 != 0) = true := by simpa using he
    rw [if_neg (fun h => he h.1)]
    go_enter Try.func45, Try.ntmps45
    go_wp2_with fail
    refine (HC.out _ hG1).mono ?_
    rintro e w1 ⟨rfl, hb1⟩
    go_wp2_with fail
    go_ret
    exact ⟨rfl, (by with_reducible (repeat (first | exact Gr.refl _ | assumption | apply Gr.alloc | apply Gr.drew | apply Gr.drewN | refine Gr.setCell ?_ (by first | (simp; done) | (simp; omega)) _ | refine Gr.trans ?_ (by assumption))))⟩
set_option maxRecDepth 100000 in
set_option maxHeartbeats 4000000 in
theorem CheckP_any (m : Nat) (v : ND) (t : NT) (w : World) (hr : NRep anyB m w v t) (hl : lenF t ≤ 1152921504606846976) : Calls Try.prog 43 #[.agg #[.int .i64 v.k, .string (bs v.l), .string (bs v.x), .slice v.A v.n v.c, .string (bs v.e)]] w (RI (checkT t) w) := by
  have hR : checkT t = if (lookF t 1 0).2 = 0 ∧ 1048576 < lenF t then 10 else (lookF t 1 0).2 := rfl
  have hlt := hr.lt
  have HC : Hid (∀ (w' : World) (b : Nat), Gr w w' → w.heap.size ≤ b → IntBox w' b 0 → Calls Try.prog 50 #[.agg #[.int .i64 v.k, .string (bs v.l), .string (bs v.x), .slice v.A v.n v.c, .string (bs v.e)], .int .i64 1, .pointer (some ⟨b, 0, none⟩)] w' (ChkPost b (lookF t 1 0) w')) :=
    Lib.hid (fun w' b hg hb hi => checkP_any m v t 1 0 b w' ((hlt.mono (fun k hk => show k ≠ b by omega)).gr hg) hi (by omega) (by omega) (by omega) (by omega))
  have HL : Hid (∀ w', Gr w w' → Calls Try.prog 51 #[.agg #[.int .i64 v.k, .string (bs v.l), .string (bs v.x), .slice v.A v.n v.c, .string (bs v.e)]] w' (RI (lenF t) w')) := Lib.hid (fun w' hg => lenP_any m v t w' (hr.gr hg) hl)
  generalize lookF t 1 0 = q at *
  generalize lenF t = z at *
  obtain ⟨s1, e1⟩ := q
  rw [hR]
  unfold ChkPost at HC
  dsimp only at HC ⊢
  clear hr hR hlt
  have hG1 : Gr w ((w.alloc (.cells #[.int .i64 v.k, .string (bs v.l), .string (bs v.x), .slice v.A v.n v.c, .string (bs v.e)] 24)).alloc (.cells #[.int .i64 0] 3)) := ((Gr.refl w).alloc _).alloc _
  have hIB : IntBox ((w.alloc (.cells #[.int .i64 v.k, .string (bs v.l), .string (bs v.x), .slice v.A v.n v.c, .string (bs v.e)] 24)).alloc (.cells #[.int .i64 0] 3)) (w.heap.size + 1) 0 := by
    have h := heap_alloc_new (w.alloc (.cells #[.int .i64 v.k, .string (bs v.l), .string (bs v.x), .slice v.A v.n v.c, .string (bs v.e)] 24)) (.cells #[.int .i64 0] 3)
    have hz : (w.alloc (.cells #[.int .i64 v.k, .string (bs v.l), .string (bs v.x), .slice v.A v.n v.c, .string (bs v.e)] 24)).heap.size = w.heap.size + 1 := by simp
    rwa [hz] at h
  have HIB := Lib.hid hIB
  clear hIB
  by_cases he : e1 = 0
  · subst he
    by_cases hz : 1048576 < z
    · rw [if_pos ⟨rfl, hz⟩]
      go_enter Try.func43, Try.ntmps43
      go_wp2_with fail
      refine (HC.out _ (w.heap.size + 1) hG1 (by omega) HIB.out).mono ?_
      rintro e w1 ⟨s2, rfl, hg1, hib1, hs1, hs2, hs3⟩
      have hGG : Gr w w1 := Gr.grownOwn hG1 hg1 (fun k hk => by cases hk; omega)
      have hsz := hg1.size
      simp at hsz
      have q3 : ∀ o, w1.cell? ⟨w.heap.size, o, none⟩ = ((w.alloc (.cells #[.int .i64 v.k, .string (bs v.l), .string (bs v.x), .slice v.A v.n v.c, .string (bs v.e)] 24)).alloc (.cells #[.int .i64 0] 3)).cell? ⟨w.heap.size, o, none⟩ := fun o => hg1.cell_far ⟨w.heap.size, o, none⟩ (by simp; omega) (by simp)
      clear hs1 hib1 hg1
      go_wp2_with fail
      refine (HL.out _ hGG).mono ?_
      rintro e w2 ⟨rfl, hb2⟩
      go_wp2_with fail
      go_ret
      exact ⟨rfl, hGG.trans hb2⟩
    · rw [if_neg (fun h => hz h.2)]
      go_enter Try.func43, Try.ntmps43
      go_wp2_with fail
      refine (HC.out _ (w.heap.size + 1) hG1 (by omega) HIB.out).mono ?_
      rintro e w1 ⟨s2, rfl, hg1, hib1, hs1, hs2, hs3⟩
      have hGG : Gr w w1 := Gr.grownOwn hG1 hg1 (fun k hk => by cases hk; omega)
      have hsz := hg1.size
      simp at hsz
      have q3 : ∀ o, w1.cell? ⟨w.heap.size, o, none⟩ = ((w.alloc (.cells #[.int .i64 v.k, .string (bs v.l), .string (bs v.x), .slice v.A v.n v.c, .string (bs v.e)] 24)).alloc (.cells #[.int .i64 0] 3)).cell? ⟨w.heap.size, o, none⟩ := fun o => hg1.cell_far ⟨w.heap.size, o, none⟩ (by simp; omega) (by simp)
      clear hs1 hib1 hg1
      go_wp2_with fail
      refine (HL.out _ hGG).mono ?_
      rintro e w2 ⟨rfl, hb2⟩
      go_wp2_with fail
      go_ret
      exact ⟨rfl, hGG.trans hb2⟩
  · have heb : (e1 == 0) = false := by simpa using he
    have heb' : (e1 != 0) = true := by simpa using he
    rw [if_neg (fun h => he h.1)]
    go_enter Try.func43, Try.ntmps43
    go_wp2_with fail
    refine (HC.out _ (w.heap.size + 1) hG1 (by omega) HIB.out).mono ?_
    rintro e w1 ⟨s2, rfl, hg1, hib1, hs1, hs2, hs3⟩
    have hGG : Gr w w1 := Gr.grownOwn hG1 hg1 (fun k hk => by cases hk; omega)
    clear hs1 hib1 hg1
    go_wp2_with fail
    go_ret
    exact ⟨rfl, hGG⟩
end Go.Proofs.Ytbfnmgiccbdglaa
