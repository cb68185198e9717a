/- Names and marks, walked. -/
import Derived.Test.YtbfnmgiccbdglaaAnChk2
import Derived.Test.YtbfnmgiccbdglaaAnPlain
namespace Go.Proofs.Ytbfnmgiccbdglaa
open Go.ChangeShapes Go.WideShapes Go.ChangeAt Go.RowKit

theorem bs_get {s : List UInt8} {j : Nat} (h : j < (bs s).size) : (bs s)[j]'h = s.getD j 0 := by
  rw [List.getD_eq_getElem?_getD, List.getElem?_eq_getElem (show j < s.length from h)]
  rfl
def ncZ (z : Nat) : Bool := decide ((97 ≤ z ∧ z ≤ 122) ∨ (65 ≤ z ∧ z ≤ 90) ∨ (48 ≤ z ∧ z ≤ 57) ∨ z = 95 ∨ z = 45)
set_option maxRecDepth 100000 in
set_option maxHeartbeats 4000000 in
theorem namedP_any (s : List UInt8) (m : Nat) (w : World) (hs : s.length ≤ maxLen) (hm : m < 256) : Calls Try.prog 52 #[.string (bs s), .int .u8 m] w (RB (namedB s m) w) := by
  unfold maxLen at hs
  generalize hQ : namedB s m = Q
  have HQ := Lib.hid hQ
  obtain ⟨n, hn⟩ : ∃ n, n = s.length := ⟨_, rfl⟩
  have hl : (bs s).size = n := hn.symm
  have HN := Lib.hid hn
  rw [← hn] at hs
  clear hn hQ
  go_enter Try.func52, Try.ntmps52
  by_cases h2 : n < 2
  · go_wp2_with fail
    go_ret
    exact ⟨by rw [← HQ.out]; unfold namedB; rw [decide_eq_false (by rw [← HN.out]; omega)]; rfl, Gr.refl _⟩
  · have h2' : ((n : Int) < 2) = False := by simp; omega
    by_cases h65 : 65 < n
    · go_wp2_with fail
      go_ret
      exact ⟨by rw [← HQ.out]; unfold namedB; rw [decide_eq_false (by rw [← HN.out]; omega)]; rfl, Gr.refl _⟩
    · have h65' : (65 < (n : Int)) = False := by simp; omega
      obtain ⟨z0, hz0⟩ : ∃ z0, z0 = (s.getD 0 0).toNat := ⟨_, rfl⟩
      have hi0 : ∀ h : 0 < (bs s).size, ((bs s)[0]'h).toNat = z0 := fun h => by rw [hz0]; exact congrArg UInt8.toNat (bs_get h)
      have HZ0 := Lib.hid hz0
      clear hz0
      by_cases hzm : z0 = m
      · subst hzm
        have HF : Hid ((s.drop 1).all ncB = Q) := Lib.hid (by rw [← HQ.out]; unfold namedB; rw [decide_eq_true ⟨by rw [← HN.out]; omega, by rw [← HN.out]; omega, HZ0.out.symm⟩]; simp)
        go_wp2_with fail
        go_loopw [5, 6] (fun iv _ wr => ∃ j : Nat, 1 ≤ j ∧ j ≤ n ∧ iv = .int .i64 j ∧ Gr w wr ∧ (s.drop j).all ncB = Q) (fun iv _ _ => n - (intOf iv).toNat)
        case atStart => exact ⟨1, Nat.le_refl _, by omega, rfl, Gr.refl _, HF.out⟩
        case round =>
          obtain ⟨j, hj1, hj, rfl, hG, hall⟩ := hrel
          have HALL := Lib.hid hall
          clear hall
          by_cases hlt : j < n
          · obtain ⟨c, hcj⟩ : ∃ c, s[j]? = some c := ⟨s[j]'(by rw [← HN.out]; omega), List.getElem?_eq_getElem _⟩
            have HCJ := Lib.hid hcj
            obtain ⟨z, hz⟩ : ∃ z, z = c.toNat := ⟨_, rfl⟩
            have hij : ∀ h : j < (bs s).size, ((bs s)[j]'h).toNat = z := fun h => by rw [hz, bs_get h, List.getD_eq_getElem?_getD, HCJ.out]; rfl
            have HZ := Lib.hid hz
            have hst : (s.drop j).all ncB = (ncB c && (s.drop (j + 1)).all ncB) := by rw [drop_at HCJ.out, List.all_cons]
            have HST := Lib.hid hst
            have hcls : (97 ≤ z ∧ z ≤ 122) ∨ (65 ≤ z ∧ z ≤ 90) ∨ (48 ≤ z ∧ z ≤ 57) ∨ (95 ≤ z ∧ z ≤ 95) ∨ (45 ≤ z ∧ z ≤ 45) ∨ (0 ≤ z ∧ z ≤ 44) ∨ (46 ≤ z ∧ z ≤ 47) ∨ (58 ≤ z ∧ z ≤ 64) ∨ (91 ≤ z ∧ z ≤ 94) ∨ (96 ≤ z ∧ z ≤ 96) ∨ 123 ≤ z := by omega
            have HZC : Hid (ncB c = ncZ z) := Lib.hid (by rw [HZ.out]; rfl)
            clear hcj hz hst
            rcases hcls with ⟨g1, g2⟩ | ⟨g1, g2⟩ | ⟨g1, g2⟩ | ⟨g1, g2⟩ | ⟨g1, g2⟩ | ⟨g1, g2⟩ | ⟨g1, g2⟩ | ⟨g1, g2⟩ | ⟨g1, g2⟩ | ⟨g1, g2⟩ | g1
            · skip
              have ta0 : (97 ≤ (z : Int)) = True := by simp; omega
              have ta1 : (65 ≤ (z : Int)) = True := by simp; omega
              have ta2 : (48 ≤ (z : Int)) = True := by simp; omega
              have tb0 : ((z : Int) ≤ 122) = True := by simp; omega
              have tb1 : ((z : Int) ≤ 90) = False := by simp; omega
              have tb2 : ((z : Int) ≤ 57) = False := by simp; omega
              have tc0 : ((z : Int) == 95) = false := by simp; omega
              have td0 : ((z : Int) != 95) = true := by simp; omega
              have te0 : ((z : Int) = 95) = False := by simp; omega
              have tc1 : ((z : Int) == 45) = false := by simp; omega
              have td1 : ((z : Int) != 45) = true := by simp; omega
              have te1 : ((z : Int) = 45) = False := by simp; omega
              have HG : Hid ((s.drop (j + 1)).all ncB = Q) := Lib.hid (by rw [← HALL.out, HST.out, HZC.out, show ncZ z = true from decide_eq_true (by omega), Bool.true_and])
              go_wp2_with fail
              exact ⟨⟨j + 1, by omega, by omega, by go_num, hG, HG.out⟩, by simp [intOf]; omega⟩
            · skip
              have ta0 : (97 ≤ (z : Int)) = False := by simp; omega
              have ta1 : (65 ≤ (z : Int)) = True := by simp; omega
              have ta2 : (48 ≤ (z : Int)) = True := by simp; omega
              have tb0 : ((z : Int) ≤ 122) = True := by simp; omega
              have tb1 : ((z : Int) ≤ 90) = True := by simp; omega
              have tb2 : ((z : Int) ≤ 57) = False := by simp; omega
              have tc0 : ((z : Int) == 95) = false := by simp; omega
              have td0 : ((z : Int) != 95) = true := by simp; omega
              have te0 : ((z : Int) = 95) = False := by simp; omega
              have tc1 : ((z : Int) == 45) = false := by simp; omega
              have td1 : ((z : Int) != 45) = true := by simp; omega
              have te1 : ((z : Int) = 45) = False := by simp; omega
              have HG : Hid ((s.drop (j + 1)).all ncB = Q) := Lib.hid (by rw [← HALL.out, HST.out, HZC.out, show ncZ z = true from decide_eq_true (by omega), Bool.true_and])
              go_wp2_with fail
              exact ⟨⟨j + 1, by omega, by omega, by go_num, hG, HG.out⟩, by simp [intOf]; omega⟩
            · skip
              have ta0 : (97 ≤ (z : Int)) = False := by simp; omega
              have ta1 : (65 ≤ (z : Int)) = False := by simp; omega
              have ta2 : (48 ≤ (z : Int)) = True := by simp; omega
              have tb0 : ((z : Int) ≤ 122) = True := by simp; omega
              have tb1 : ((z : Int) ≤ 90) = True := by simp; omega
              have tb2 : ((z : Int) ≤ 57) = True := by simp; omega
              have tc0 : ((z : Int) == 95) = false := by simp; omega
              have td0 : ((z : Int) != 95) = true := by simp; omega
              have te0 : ((z : Int) = 95) = False := by simp; omega
              have tc1 : ((z : Int) == 45) = false := by simp; omega
              have td1 : ((z : Int) != 45) = true := by simp; omega
              have te1 : ((z : Int) = 45) = False := by simp; omega
              have HG : Hid ((s.drop (j + 1)).all ncB = Q) := Lib.hid (by rw [← HALL.out, HST.out, HZC.out, show ncZ z = true from decide_eq_true (by omega), Bool.true_and])
              go_wp2_with fail
              exact ⟨⟨j + 1, by omega, by omega, by go_num, hG, HG.out⟩, by simp [intOf]; omega⟩
            · skip
              have ta0 : (97 ≤ (z : Int)) = False := by simp; omega
              have ta1 : (65 ≤ (z : Int)) = True := by simp; omega
              have ta2 : (48 ≤ (z : Int)) = True := by simp; omega
              have tb0 : ((z : Int) ≤ 122) = True := by simp; omega
              have tb1 : ((z : Int) ≤ 90) = False := by simp; omega
              have tb2 : ((z : Int) ≤ 57) = False := by simp; omega
              have tc0 : ((z : Int) == 95) = true := by simp; omega
              have td0 : ((z : Int) != 95) = false := by simp; omega
              have te0 : ((z : Int) = 95) = True := by simp; omega
              have tc1 : ((z : Int) == 45) = false := by simp; omega
              have td1 : ((z : Int) != 45) = true := by simp; omega
              have te1 : ((z : Int) = 45) = False := by simp; omega
              have HG : Hid ((s.drop (j + 1)).all ncB = Q) := Lib.hid (by rw [← HALL.out, HST.out, HZC.out, show ncZ z = true from decide_eq_true (by omega), Bool.true_and])
              go_wp2_with fail
              exact ⟨⟨j + 1, by omega, by omega, by go_num, hG, HG.out⟩, by simp [intOf]; omega⟩
            · skip
              have ta0 : (97 ≤ (z : Int)) = False := by simp; omega
              have ta1 : (65 ≤ (z : Int)) = False := by simp; omega
              have ta2 : (48 ≤ (z : Int)) = False := by simp; omega
              have tb0 : ((z : Int) ≤ 122) = True := by simp; omega
              have tb1 : ((z : Int) ≤ 90) = True := by simp; omega
              have tb2 : ((z : Int) ≤ 57) = True := by simp; omega
              have tc0 : ((z : Int) == 95) = false := by simp; omega
              have td0 : ((z : Int) != 95) = true := by simp; omega
              have te0 : ((z : Int) = 95) = False := by simp; omega
              have tc1 : ((z : Int) == 45) = true := by simp; omega
              have td1 : ((z : Int) != 45) = false := by simp; omega
              have te1 : ((z : Int) = 45) = True := by simp; omega
              have HG : Hid ((s.drop (j + 1)).all ncB = Q) := Lib.hid (by rw [← HALL.out, HST.out, HZC.out, show ncZ z = true from decide_eq_true (by omega), Bool.true_and])
              go_wp2_with fail
              exact ⟨⟨j + 1, by omega, by omega, by go_num, hG, HG.out⟩, by simp [intOf]; omega⟩
            · skip
              have ta0 : (97 ≤ (z : Int)) = False := by simp; omega
              have ta1 : (65 ≤ (z : Int)) = False := by simp; omega
              have ta2 : (48 ≤ (z : Int)) = False := by simp; omega
              have tb0 : ((z : Int) ≤ 122) = True := by simp; omega
              have tb1 : ((z : Int) ≤ 90) = True := by simp; omega
              have tb2 : ((z : Int) ≤ 57) = True := by simp; omega
              have tc0 : ((z : Int) == 95) = false := by simp; omega
              have td0 : ((z : Int) != 95) = true := by simp; omega
              have te0 : ((z : Int) = 95) = False := by simp; omega
              have tc1 : ((z : Int) == 45) = false := by simp; omega
              have td1 : ((z : Int) != 45) = true := by simp; omega
              have te1 : ((z : Int) = 45) = False := by simp; omega
              have HG : Hid (Q = false) := Lib.hid (by rw [← HALL.out, HST.out, HZC.out, show ncZ z = false from decide_eq_false (by omega), Bool.false_and])
              go_wp2_with fail
              go_ret
              exact ⟨by rw [HG.out]; rfl, hG⟩
            · skip
              have ta0 : (97 ≤ (z : Int)) = False := by simp; omega
              have ta1 : (65 ≤ (z : Int)) = False := by simp; omega
              have ta2 : (48 ≤ (z : Int)) = False := by simp; omega
              have tb0 : ((z : Int) ≤ 122) = True := by simp; omega
              have tb1 : ((z : Int) ≤ 90) = True := by simp; omega
              have tb2 : ((z : Int) ≤ 57) = True := by simp; omega
              have tc0 : ((z : Int) == 95) = false := by simp; omega
              have td0 : ((z : Int) != 95) = true := by simp; omega
              have te0 : ((z : Int) = 95) = False := by simp; omega
              have tc1 : ((z : Int) == 45) = false := by simp; omega
              have td1 : ((z : Int) != 45) = true := by simp; omega
              have te1 : ((z : Int) = 45) = False := by simp; omega
              have HG : Hid (Q = false) := Lib.hid (by rw [← HALL.out, HST.out, HZC.out, show ncZ z = false from decide_eq_false (by omega), Bool.false_and])
              go_wp2_with fail
              go_ret
              exact ⟨by rw [HG.out]; rfl, hG⟩
            · skip
              have ta0 : (97 ≤ (z : Int)) = False := by simp; omega
              have ta1 : (65 ≤ (z : Int)) = False := by simp; omega
              have ta2 : (48 ≤ (z : Int)) = True := by simp; omega
              have tb0 : ((z : Int) ≤ 122) = True := by simp; omega
              have tb1 : ((z : Int) ≤ 90) = True := by simp; omega
              have tb2 : ((z : Int) ≤ 57) = False := by simp; omega
              have tc0 : ((z : Int) == 95) = false := by simp; omega
              have td0 : ((z : Int) != 95) = true := by simp; omega
              have te0 : ((z : Int) = 95) = False := by simp; omega
              have tc1 : ((z : Int) == 45) = false := by simp; omega
              have td1 : ((z : Int) != 45) = true := by simp; omega
              have te1 : ((z : Int) = 45) = False := by simp; omega
              have HG : Hid (Q = false) := Lib.hid (by rw [← HALL.out, HST.out, HZC.out, show ncZ z = false from decide_eq_false (by omega), Bool.false_and])
              go_wp2_with fail
              go_ret
              exact ⟨by rw [HG.out]; rfl, hG⟩
            · skip
              have ta0 : (97 ≤ (z : Int)) = False := by simp; omega
              have ta1 : (65 ≤ (z : Int)) = True := by simp; omega
              have ta2 : (48 ≤ (z : Int)) = True := by simp; omega
              have tb0 : ((z : Int) ≤ 122) = True := by simp; omega
              have tb1 : ((z : Int) ≤ 90) = False := by simp; omega
              have tb2 : ((z : Int) ≤ 57) = False := by simp; omega
              have tc0 : ((z : Int) == 95) = false := by simp; omega
              have td0 : ((z : Int) != 95) = true := by simp; omega
              have te0 : ((z : Int) = 95) = False := by simp; omega
              have tc1 : ((z : Int) == 45) = false := by simp; omega
              have td1 : ((z : Int) != 45) = true := by simp; omega
              have te1 : ((z : Int) = 45) = False := by simp; omega
              have HG : Hid (Q = false) := Lib.hid (by rw [← HALL.out, HST.out, HZC.out, show ncZ z = false from decide_eq_false (by omega), Bool.false_and])
              go_wp2_with fail
              go_ret
              exact ⟨by rw [HG.out]; rfl, hG⟩
            · skip
              have ta0 : (97 ≤ (z : Int)) = False := by simp; omega
              have ta1 : (65 ≤ (z : Int)) = True := by simp; omega
              have ta2 : (48 ≤ (z : Int)) = True := by simp; omega
              have tb0 : ((z : Int) ≤ 122) = True := by simp; omega
              have tb1 : ((z : Int) ≤ 90) = False := by simp; omega
              have tb2 : ((z : Int) ≤ 57) = False := by simp; omega
              have tc0 : ((z : Int) == 95) = false := by simp; omega
              have td0 : ((z : Int) != 95) = true := by simp; omega
              have te0 : ((z : Int) = 95) = False := by simp; omega
              have tc1 : ((z : Int) == 45) = false := by simp; omega
              have td1 : ((z : Int) != 45) = true := by simp; omega
              have te1 : ((z : Int) = 45) = False := by simp; omega
              have HG : Hid (Q = false) := Lib.hid (by rw [← HALL.out, HST.out, HZC.out, show ncZ z = false from decide_eq_false (by omega), Bool.false_and])
              go_wp2_with fail
              go_ret
              exact ⟨by rw [HG.out]; rfl, hG⟩
            · skip
              have ta0 : (97 ≤ (z : Int)) = True := by simp; omega
              have ta1 : (65 ≤ (z : Int)) = True := by simp; omega
              have ta2 : (48 ≤ (z : Int)) = True := by simp; omega
              have tb0 : ((z : Int) ≤ 122) = False := by simp; omega
              have tb1 : ((z : Int) ≤ 90) = False := by simp; omega
              have tb2 : ((z : Int) ≤ 57) = False := by simp; omega
              have tc0 : ((z : Int) == 95) = false := by simp; omega
              have td0 : ((z : Int) != 95) = true := by simp; omega
              have te0 : ((z : Int) = 95) = False := by simp; omega
              have tc1 : ((z : Int) == 45) = false := by simp; omega
              have td1 : ((z : Int) != 45) = true := by simp; omega
              have te1 : ((z : Int) = 45) = False := by simp; omega
              have HG : Hid (Q = false) := Lib.hid (by rw [← HALL.out, HST.out, HZC.out, show ncZ z = false from decide_eq_false (by omega), Bool.false_and])
              go_wp2_with fail
              go_ret
              exact ⟨by rw [HG.out]; rfl, hG⟩
          · have hd : s.drop j = [] := List.drop_eq_nil_of_le (by rw [← HN.out]; omega)
            have HG : Hid (Q = true) := Lib.hid (by rw [← HALL.out, hd]; rfl)
            clear hd
            go_wp2_with fail
            go_ret
            exact ⟨by rw [HG.out]; rfl, hG⟩
      · have hne : ((z0 : Int) != (m : Int)) = true := by simp; omega
        go_wp2_with fail
        go_ret
        exact ⟨by rw [← HQ.out]; unfold namedB; rw [decide_eq_false (by rw [← HZ0.out]; omega)]; rfl, Gr.refl _⟩
def letB (z : Nat) : Bool := decide ((97 ≤ z ∧ z ≤ 122) ∨ (65 ≤ z ∧ z ≤ 90))
def digB (z : Nat) : Bool := decide (48 ≤ z ∧ z ≤ 57)
theorem ncB_eq (c : UInt8) : ncB c = (letB c.toNat || digB c.toNat || decide (c.toNat = 95) || decide (c.toNat = 45)) := by
  unfold ncB letB digB
  rw [← Bool.decide_or, ← Bool.decide_or, ← Bool.decide_or]
  exact decide_eq_decide.2 (by omega)
set_option maxRecDepth 100000 in
set_option maxHeartbeats 4000000 in
theorem letterP_any (z : Nat) (w : World) : Calls Try.prog 63 #[.int .u8 z] w (RB (letB z) w) := by
  have hcls : (97 ≤ z ∧ z ≤ 122) ∨ (65 ≤ z ∧ z ≤ 90) ∨ (48 ≤ z ∧ z ≤ 57) ∨ (95 ≤ z ∧ z ≤ 95) ∨ (45 ≤ z ∧ z ≤ 45) ∨ (0 ≤ z ∧ z ≤ 44) ∨ (46 ≤ z ∧ z ≤ 47) ∨ (58 ≤ z ∧ z ≤ 64) ∨ (91 ≤ z ∧ z ≤ 94) ∨ (96 ≤ z ∧ z ≤ 96) ∨ 123 ≤ z := by omega
  go_enter Try.func63, Try.ntmps63
  rcases hcls with ⟨g1, g2⟩ | ⟨g1, g2⟩ | ⟨g1, g2⟩ | ⟨g1, g2⟩ | ⟨g1, g2⟩ | ⟨g1, g2⟩ | ⟨g1, g2⟩ | ⟨g1, g2⟩ | ⟨g1, g2⟩ | ⟨g1, g2⟩ | g1
  · skip
    have ta0 : (97 ≤ (z : Int)) = True := by simp; omega
    have ta1 : (65 ≤ (z : Int)) = True := by simp; omega
    have ta2 : (48 ≤ (z : Int)) = True := by simp; omega
    have tb0 : ((z : Int) ≤ 122) = True := by simp; omega
    have tb1 : ((z : Int) ≤ 90) = False := by simp; omega
    have tb2 : ((z : Int) ≤ 57) = False := by simp; omega
    go_wp2_with fail
    go_ret
    refine ⟨?_, Gr.refl _⟩
    rw [show letB z = true from decide_eq_true (by omega)]
    rfl
  · skip
    have ta0 : (97 ≤ (z : Int)) = False := by simp; omega
    have ta1 : (65 ≤ (z : Int)) = True := by simp; omega
    have ta2 : (48 ≤ (z : Int)) = True := by simp; omega
    have tb0 : ((z : Int) ≤ 122) = True := by simp; omega
    have tb1 : ((z : Int) ≤ 90) = True := by simp; omega
    have tb2 : ((z : Int) ≤ 57) = False := by simp; omega
    go_wp2_with fail
    go_ret
    refine ⟨?_, Gr.refl _⟩
    rw [show letB z = true from decide_eq_true (by omega)]
    rfl
  · skip
    have ta0 : (97 ≤ (z : Int)) = False := by simp; omega
    have ta1 : (65 ≤ (z : Int)) = False := by simp; omega
    have ta2 : (48 ≤ (z : Int)) = True := by simp; omega
    have tb0 : ((z : Int) ≤ 122) = True := by simp; omega
    have tb1 : ((z : Int) ≤ 90) = True := by simp; omega
    have tb2 : ((z : Int) ≤ 57) = True := by simp; omega
    go_wp2_with fail
    go_ret
    refine ⟨?_, Gr.refl _⟩
    rw [show letB z = false from decide_eq_false (by omega)]
    rfl
  · skip
    have ta0 : (97 ≤ (z : Int)) = False := by simp; omega
    have ta1 : (65 ≤ (z : Int)) = True := by simp; omega
    have ta2 : (48 ≤ (z : Int)) = True := by simp; omega
    have tb0 : ((z : Int) ≤ 122) = True := by simp; omega
    have tb1 : ((z : Int) ≤ 90) = False := by simp; omega
    have tb2 : ((z : Int) ≤ 57) = False := by simp; omega
    go_wp2_with fail
    go_ret
    refine ⟨?_, Gr.refl _⟩
    rw [show letB z = false from decide_eq_false (by omega)]
    rfl
  · skip
    have ta0 : (97 ≤ (z : Int)) = False := by simp; omega
    have ta1 : (65 ≤ (z : Int)) = False := by simp; omega
    have ta2 : (48 ≤ (z : Int)) = False := by simp; omega
    have tb0 : ((z : Int) ≤ 122) = True := by simp; omega
    have tb1 : ((z : Int) ≤ 90) = True := by simp; omega
    have tb2 : ((z : Int) ≤ 57) = True := by simp; omega
    go_wp2_with fail
    go_ret
    refine ⟨?_, Gr.refl _⟩
    rw [show letB z = false from decide_eq_false (by omega)]
    rfl
  · skip
    have ta0 : (97 ≤ (z : Int)) = False := by simp; omega
    have ta1 : (65 ≤ (z : Int)) = False := by simp; omega
    have ta2 : (48 ≤ (z : Int)) = False := by simp; omega
    have tb0 : ((z : Int) ≤ 122) = True := by simp; omega
    have tb1 : ((z : Int) ≤ 90) = True := by simp; omega
    have tb2 : ((z : Int) ≤ 57) = True := by simp; omega
    go_wp2_with fail
    go_ret
    refine ⟨?_, Gr.refl _⟩
    rw [show letB z = false from decide_eq_false (by omega)]
    rfl
  · skip
    have ta0 : (97 ≤ (z : Int)) = False := by simp; omega
    have ta1 : (65 ≤ (z : Int)) = False := by simp; omega
    have ta2 : (48 ≤ (z : Int)) = False := by simp; omega
    have tb0 : ((z : Int) ≤ 122) = True := by simp; omega
    have tb1 : ((z : Int) ≤ 90) = True := by simp; omega
    have tb2 : ((z : Int) ≤ 57) = True := by simp; omega
    go_wp2_with fail
    go_ret
    refine ⟨?_, Gr.refl _⟩
    rw [show letB z = false from decide_eq_false (by omega)]
    rfl
  · skip
    have ta0 : (97 ≤ (z : Int)) = False := by simp; omega
    have ta1 : (65 ≤ (z : Int)) = False := by simp; omega
    have ta2 : (48 ≤ (z : Int)) = True := by simp; omega
    have tb0 : ((z : Int) ≤ 122) = True := by simp; omega
    have tb1 : ((z : Int) ≤ 90) = True := by simp; omega
    have tb2 : ((z : Int) ≤ 57) = False := by simp; omega
    go_wp2_with fail
    go_ret
    refine ⟨?_, Gr.refl _⟩
    rw [show letB z = false from decide_eq_false (by omega)]
    rfl
  · skip
    have ta0 : (97 ≤ (z : Int)) = False := by simp; omega
    have ta1 : (65 ≤ (z : Int)) = True := by simp; omega
    have ta2 : (48 ≤ (z : Int)) = True := by simp; omega
    have tb0 : ((z : Int) ≤ 122) = True := by simp; omega
    have tb1 : ((z : Int) ≤ 90) = False := by simp; omega
    have tb2 : ((z : Int) ≤ 57) = False := by simp; omega
    go_wp2_with fail
    go_ret
    refine ⟨?_, Gr.refl _⟩
    rw [show letB z = false from decide_eq_false (by omega)]
    rfl
  · skip
    have ta0 : (97 ≤ (z : Int)) = False := by simp; omega
    have ta1 : (65 ≤ (z : Int)) = True := by simp; omega
    have ta2 : (48 ≤ (z : Int)) = True := by simp; omega
    have tb0 : ((z : Int) ≤ 122) = True := by simp; omega
    have tb1 : ((z : Int) ≤ 90) = False := by simp; omega
    have tb2 : ((z : Int) ≤ 57) = False := by simp; omega
    go_wp2_with fail
    go_ret
    refine ⟨?_, Gr.refl _⟩
    rw [show letB z = false from decide_eq_false (by omega)]
    rfl
  · skip
    have ta0 : (97 ≤ (z : Int)) = True := by simp; omega
    have ta1 : (65 ≤ (z : Int)) = True := by simp; omega
    have ta2 : (48 ≤ (z : Int)) = True := by simp; omega
    have tb0 : ((z : Int) ≤ 122) = False := by simp; omega
    have tb1 : ((z : Int) ≤ 90) = False := by simp; omega
    have tb2 : ((z : Int) ≤ 57) = False := by simp; omega
    go_wp2_with fail
    go_ret
    refine ⟨?_, Gr.refl _⟩
    rw [show letB z = false from decide_eq_false (by omega)]
    rfl
set_option maxRecDepth 100000 in
set_option maxHeartbeats 4000000 in
theorem digitP_any (z : Nat) (w : World) : Calls Try.prog 64 #[.int .u8 z] w (RB (digB z) w) := by
  have hcls : (97 ≤ z ∧ z ≤ 122) ∨ (65 ≤ z ∧ z ≤ 90) ∨ (48 ≤ z ∧ z ≤ 57) ∨ (95 ≤ z ∧ z ≤ 95) ∨ (45 ≤ z ∧ z ≤ 45) ∨ (0 ≤ z ∧ z ≤ 44) ∨ (46 ≤ z ∧ z ≤ 47) ∨ (58 ≤ z ∧ z ≤ 64) ∨ (91 ≤ z ∧ z ≤ 94) ∨ (96 ≤ z ∧ z ≤ 96) ∨ 123 ≤ z := by omega
  go_enter Try.func64, Try.ntmps64
  rcases hcls with ⟨g1, g2⟩ | ⟨g1, g2⟩ | ⟨g1, g2⟩ | ⟨g1, g2⟩ | ⟨g1, g2⟩ | ⟨g1, g2⟩ | ⟨g1, g2⟩ | ⟨g1, g2⟩ | ⟨g1, g2⟩ | ⟨g1, g2⟩ | g1
  · skip
    have ta0 : (97 ≤ (z : Int)) = True := by simp; omega
    have ta1 : (65 ≤ (z : Int)) = True := by simp; omega
    have ta2 : (48 ≤ (z : Int)) = True := by simp; omega
    have tb0 : ((z : Int) ≤ 122) = True := by simp; omega
    have tb1 : ((z : Int) ≤ 90) = False := by simp; omega
    have tb2 : ((z : Int) ≤ 57) = False := by simp; omega
    go_wp2_with fail
    go_ret
    refine ⟨?_, Gr.refl _⟩
    rw [show digB z = false from decide_eq_false (by omega)]
    rfl
  · skip
    have ta0 : (97 ≤ (z : Int)) = False := by simp; omega
    have ta1 : (65 ≤ (z : Int)) = True := by simp; omega
    have ta2 : (48 ≤ (z : Int)) = True := by simp; omega
    have tb0 : ((z : Int) ≤ 122) = True := by simp; omega
    have tb1 : ((z : Int) ≤ 90) = True := by simp; omega
    have tb2 : ((z : Int) ≤ 57) = False := by simp; omega
    go_wp2_with fail
    go_ret
    refine ⟨?_, Gr.refl _⟩
    rw [show digB z = false from decide_eq_false (by omega)]
    rfl
  · skip
    have ta0 : (97 ≤ (z : Int)) = False := by simp; omega
    have ta1 : (65 ≤ (z : Int)) = False := by simp; omega
    have ta2 : (48 ≤ (z : Int)) = True := by simp; omega
    have tb0 : ((z : Int) ≤ 122) = True := by simp; omega
    have tb1 : ((z : Int) ≤ 90) = True := by simp; omega
    have tb2 : ((z : Int) ≤ 57) = True := by simp; omega
    go_wp2_with fail
    go_ret
    refine ⟨?_, Gr.refl _⟩
    rw [show digB z = true from decide_eq_true (by omega)]
    rfl
  · skip
    have ta0 : (97 ≤ (z : Int)) = False := by simp; omega
    have ta1 : (65 ≤ (z : Int)) = True := by simp; omega
    have ta2 : (48 ≤ (z : Int)) = True := by simp; omega
    have tb0 : ((z : Int) ≤ 122) = True := by simp; omega
    have tb1 : ((z : Int) ≤ 90) = False := by simp; omega
    have tb2 : ((z : Int) ≤ 57) = False := by simp; omega
    go_wp2_with fail
    go_ret
    refine ⟨?_, Gr.refl _⟩
    rw [show digB z = false from decide_eq_false (by omega)]
    rfl
  · skip
    have ta0 : (97 ≤ (z : Int)) = False := by simp; omega
    have ta1 : (65 ≤ (z : Int)) = False := by simp; omega
    have ta2 : (48 ≤ (z : Int)) = False := by simp; omega
    have tb0 : ((z : Int) ≤ 122) = True := by simp; omega
    have tb1 : ((z : Int) ≤ 90) = True := by simp; omega
    have tb2 : ((z : Int) ≤ 57) = True := by simp; omega
    go_wp2_with fail
    go_ret
    refine ⟨?_, Gr.refl _⟩
    rw [show digB z = false from decide_eq_false (by omega)]
    rfl
  · skip
    have ta0 : (97 ≤ (z : Int)) = False := by simp; omega
    have ta1 : (65 ≤ (z : Int)) = False := by simp; omega
    have ta2 : (48 ≤ (z : Int)) = False := by simp; omega
    have tb0 : ((z : Int) ≤ 122) = True := by simp; omega
    have tb1 : ((z : Int) ≤ 90) = True := by simp; omega
    have tb2 : ((z : Int) ≤ 57) = True := by simp; omega
    go_wp2_with fail
    go_ret
    refine ⟨?_, Gr.refl _⟩
    rw [show digB z = false from decide_eq_false (by omega)]
    rfl
  · skip
    have ta0 : (97 ≤ (z : Int)) = False := by simp; omega
    have ta1 : (65 ≤ (z : Int)) = False := by simp; omega
    have ta2 : (48 ≤ (z : Int)) = False := by simp; omega
    have tb0 : ((z : Int) ≤ 122) = True := by simp; omega
    have tb1 : ((z : Int) ≤ 90) = True := by simp; omega
    have tb2 : ((z : Int) ≤ 57) = True := by simp; omega
    go_wp2_with fail
    go_ret
    refine ⟨?_, Gr.refl _⟩
    rw [show digB z = false from decide_eq_false (by omega)]
    rfl
  · skip
    have ta0 : (97 ≤ (z : Int)) = False := by simp; omega
    have ta1 : (65 ≤ (z : Int)) = False := by simp; omega
    have ta2 : (48 ≤ (z : Int)) = True := by simp; omega
    have tb0 : ((z : Int) ≤ 122) = True := by simp; omega
    have tb1 : ((z : Int) ≤ 90) = True := by simp; omega
    have tb2 : ((z : Int) ≤ 57) = False := by simp; omega
    go_wp2_with fail
    go_ret
    refine ⟨?_, Gr.refl _⟩
    rw [show digB z = false from decide_eq_false (by omega)]
    rfl
  · skip
    have ta0 : (97 ≤ (z : Int)) = False := by simp; omega
    have ta1 : (65 ≤ (z : Int)) = True := by simp; omega
    have ta2 : (48 ≤ (z : Int)) = True := by simp; omega
    have tb0 : ((z : Int) ≤ 122) = True := by simp; omega
    have tb1 : ((z : Int) ≤ 90) = False := by simp; omega
    have tb2 : ((z : Int) ≤ 57) = False := by simp; omega
    go_wp2_with fail
    go_ret
    refine ⟨?_, Gr.refl _⟩
    rw [show digB z = false from decide_eq_false (by omega)]
    rfl
  · skip
    have ta0 : (97 ≤ (z : Int)) = False := by simp; omega
    have ta1 : (65 ≤ (z : Int)) = True := by simp; omega
    have ta2 : (48 ≤ (z : Int)) = True := by simp; omega
    have tb0 : ((z : Int) ≤ 122) = True := by simp; omega
    have tb1 : ((z : Int) ≤ 90) = False := by simp; omega
    have tb2 : ((z : Int) ≤ 57) = False := by simp; omega
    go_wp2_with fail
    go_ret
    refine ⟨?_, Gr.refl _⟩
    rw [show digB z = false from decide_eq_false (by omega)]
    rfl
  · skip
    have ta0 : (97 ≤ (z : Int)) = True := by simp; omega
    have ta1 : (65 ≤ (z : Int)) = True := by simp; omega
    have ta2 : (48 ≤ (z : Int)) = True := by simp; omega
    have tb0 : ((z : Int) ≤ 122) = False := by simp; omega
    have tb1 : ((z : Int) ≤ 90) = False := by simp; omega
    have tb2 : ((z : Int) ≤ 57) = False := by simp; omega
    go_wp2_with fail
    go_ret
    refine ⟨?_, Gr.refl _⟩
    rw [show digB z = false from decide_eq_false (by omega)]
    rfl
def nameB (s : List UInt8) : Bool := s.all ncB && decide (s ≠ []) && decide (s.length ≤ 64)
set_option maxRecDepth 100000 in
set_option maxHeartbeats 4000000 in
theorem nameP_any (s : List UInt8) (w : World) (hs : s.length ≤ maxLen) : Calls Try.prog 60 #[.string (bs s)] w (RB (nameB s) w) := by
  unfold maxLen at hs
  generalize hQ : nameB s = Q
  have HQ := Lib.hid hQ
  obtain ⟨n, hn⟩ : ∃ n, n = s.length := ⟨_, rfl⟩
  have hl : (bs s).size = n := hn.symm
  have HN := Lib.hid hn
  rw [← hn] at hs
  clear hn hQ
  go_enter Try.func60, Try.ntmps60
  go_wp2_with fail
  go_loopw [3] (fun iv wr => ∃ j : Nat, j ≤ n ∧ iv = .int .i64 j ∧ Gr w wr ∧ (s.drop j).all ncB = s.all ncB) (fun iv _ => n - (intOf iv).toNat)
  case atStart => exact ⟨0, Nat.zero_le _, rfl, Gr.refl _, rfl⟩
  case round =>
    obtain ⟨j, hj, rfl, hG, hall⟩ := hrel
    have HALL := Lib.hid hall
    clear hall
    by_cases hlt : j < n
    · obtain ⟨c, hcj⟩ : ∃ c, s[j]? = some c := ⟨s[j]'(by rw [← HN.out]; omega), List.getElem?_eq_getElem _⟩
      have HCJ := Lib.hid hcj
      obtain ⟨z, hz⟩ : ∃ z, z = c.toNat := ⟨_, rfl⟩
      have hij : ∀ h : j < (bs s).size, ((bs s)[j]'h).toNat = z := fun h => by rw [hz, bs_get h, List.getD_eq_getElem?_getD, HCJ.out]; rfl
      have HZ := Lib.hid hz
      have hst : (s.drop j).all ncB = (ncB c && (s.drop (j + 1)).all ncB) := by rw [drop_at HCJ.out, List.all_cons]
      have HST := Lib.hid hst
      have HNC : Hid (ncB c = (letB z || digB z || decide (z = 95) || decide (z = 45))) := Lib.hid (by rw [HZ.out]; exact ncB_eq c)
      clear hcj hz hst
      obtain ⟨bl, hbl⟩ : ∃ b, letB z = b := ⟨_, rfl⟩
      obtain ⟨bd, hbd⟩ : ∃ b, digB z = b := ⟨_, rfl⟩
      have HCL := letterP_any z
      have HCD := digitP_any z
      rw [hbl] at HCL
      rw [hbd] at HCD
      replace HCL := Lib.hid HCL
      replace HCD := Lib.hid HCD
      have HV : Hid (ncB c = (bl || bd || decide (z = 95) || decide (z = 45))) := Lib.hid (by rw [HNC.out, hbl, hbd])
      have HST2 : Hid ((ncB c && (s.drop (j + 1)).all ncB) = s.all ncB) := Lib.hid (by rw [← HST.out]; exact HALL.out)
      clear hbl hbd
      go_wp2_with fail
      refine (HCL.out _).mono ?_
      rintro e w1 ⟨rfl, hb1⟩
      have hG1 := hG.trans hb1
      cases bl with
      | true =>
        have HA : Hid ((s.drop (j + 1)).all ncB = s.all ncB) := Lib.hid (by have h := HST2.out; rw [HV.out] at h; simpa using h)
        go_wp2_with fail
        go_roundw
        case rel => exact ⟨j + 1, by omega, by go_num, hG1, HA.out⟩
        case measure => simp [intOf] <;> omega
      | false =>
        go_wp2_with fail
        refine (HCD.out _).mono ?_
        rintro e w2 ⟨rfl, hb2⟩
        have hG2 := hG1.trans hb2
        cases bd with
        | true =>
          have HA : Hid ((s.drop (j + 1)).all ncB = s.all ncB) := Lib.hid (by have h := HST2.out; rw [HV.out] at h; simpa using h)
          go_wp2_with fail
          go_roundw
          case rel => exact ⟨j + 1, by omega, by go_num, hG2, HA.out⟩
          case measure => simp [intOf] <;> omega
        | false =>
          by_cases h95 : z = 95
          · have HA : Hid ((s.drop (j + 1)).all ncB = s.all ncB) := Lib.hid (by have h := HST2.out; rw [HV.out, h95] at h; simpa using h)
            have q : ((z : Int) != 95) = false := by simp; omega
            go_wp2_with fail
            go_roundw
            case rel => exact ⟨j + 1, by omega, by go_num, hG2, HA.out⟩
            case measure => simp [intOf] <;> omega
          · by_cases h45 : z = 45
            · have HA : Hid ((s.drop (j + 1)).all ncB = s.all ncB) := Lib.hid (by have h := HST2.out; rw [HV.out, h45] at h; simpa using h)
              have q : ((z : Int) != 95) = true := by simp; omega
              have q' : ((z : Int) != 45) = false := by simp; omega
              go_wp2_with fail
              go_roundw
              case rel => exact ⟨j + 1, by omega, by go_num, hG2, HA.out⟩
              case measure => simp [intOf] <;> omega
            · have HA : Hid (Q = false) := Lib.hid (by
                have h := HST2.out
                rw [HV.out, decide_eq_false h95, decide_eq_false h45] at h
                rw [← HQ.out, nameB, ← h]
                rfl)
              have q : ((z : Int) != 95) = true := by simp; omega
              have q' : ((z : Int) != 45) = true := by simp; omega
              go_wp2_with fail
              go_ret
              exact ⟨by rw [HA.out]; rfl, hG2⟩
    · have hd : s.drop j = [] := List.drop_eq_nil_of_le (by rw [← HN.out]; omega)
      have HA : Hid (Q = (decide (n ≠ 0) && decide (n ≤ 64))) := Lib.hid (by
        have h := HALL.out
        rw [hd] at h
        have e1 : decide (s ≠ []) = decide (n ≠ 0) := decide_eq_decide.2 (by rw [HN.out]; simp)
        rw [← HQ.out, nameB, ← h, e1, ← HN.out]
        rfl)
      have hse : (bs s).toList.isEmpty = decide (n = 0) := by
        rw [bs_list, HN.out]
        cases s <;> simp
      clear hd
      by_cases hn0 : n = 0
      · have hn0' : ((n : Int) ≤ 64) = True := by simp; omega
        rw [decide_eq_true hn0] at hse
        have HB : Hid (Q = false) := Lib.hid (by rw [HA.out, decide_eq_false (by omega)]; rfl)
        go_wp2_with fail
        go_ret
        exact ⟨by rw [HB.out]; rfl, hG⟩
      · rw [decide_eq_false hn0] at hse
        by_cases h64 : n ≤ 64
        · have h64' : ((n : Int) ≤ 64) = True := by simp; omega
          have HB : Hid (Q = true) := Lib.hid (by rw [HA.out, decide_eq_true h64, decide_eq_true (by omega)]; rfl)
          go_wp2_with fail
          go_ret
          exact ⟨by rw [HB.out]; first | rfl | (simp; omega), hG⟩
        · have h64' : ((n : Int) ≤ 64) = False := by simp; omega
          have HB : Hid (Q = false) := Lib.hid (by rw [HA.out, decide_eq_false h64, Bool.and_false])
          go_wp2_with fail
          go_ret
          exact ⟨by rw [HB.out]; first | rfl | (simp; omega), hG⟩
end Go.Proofs.Ytbfnmgiccbdglaa
