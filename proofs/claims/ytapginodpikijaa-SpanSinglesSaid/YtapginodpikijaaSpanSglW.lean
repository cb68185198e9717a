/- Single of package span and of its reference, walked. -/
import Derived.Test.YtapginodpikijaaSpanSgl
import Derived.Test.YtapginodpikijaaQb
namespace Go.Proofs.Ytapginodpikijaa
open Go.ChangeShapes Go.WideShapes Go.ChangeAt Go.RowKit
open Go.Lib hiding intOf

def EdV (e : EN) : Value := .agg #[.int .i64 e.f, .int .i64 e.t, .string (bs e.s)]
def SglOut (a b : List UInt8) (w : World) (e : Ending) (w' : World) : Prop := e = .returned (EdV (sglE a b)) ∧ Gr w w'
def Sgl1 (w : World) (a b : List UInt8) (m : Nat) (pv : Value) (wr : World) : Prop :=
  ∃ p n : Nat, p ≤ m ∧ pv = .int .i64 p ∧ preN m a b = p + preN (m - p) (a.drop p) (b.drop p) ∧ wr = (w.alloc (.cells #[.int .i64 0, .int .i64 0, .string ⟨#[]⟩] 44)).drewN n
theorem byte_eq {x y : UInt8} (h : x = y) : ((x.toNat : Int) == (y.toNat : Int)) = true := by subst h; simp
theorem byte_ne {x y : UInt8} (h : x ≠ y) : ((x.toNat : Int) == (y.toNat : Int)) = false := by
  have h1 : x.toNat ≠ y.toNat := fun k => h (UInt8.toNat_inj.1 k)
  simp only [beq_eq_false_iff_ne]
  omega
theorem rev_yes {m : Nat} {a b : List UInt8} {s : Nat} (hs : s < m) (i j : Nat) (hi : i + 1 + s = a.length) (hj : j + 1 + s = b.length) (h1 : i < (bs a).size) (h2 : j < (bs b).size) (h : (bs a)[i] = (bs b)[j]) :
    preN (m - s) (a.reverse.drop s) (b.reverse.drop s) = preN (m - (s + 1)) (a.reverse.drop (s + 1)) (b.reverse.drop (s + 1)) + 1 := by
  refine preN_yes hs (by rw [List.length_reverse]; omega) (by rw [List.length_reverse]; omega) ?_
  rw [List.getElem_reverse, List.getElem_reverse]
  have e1 : a.length - 1 - s = i := by omega
  have e2 : b.length - 1 - s = j := by omega
  simp only [e1, e2]
  exact h
theorem rev_no {m : Nat} {a b : List UInt8} {s : Nat} (hs : s < m) (i j : Nat) (hi : i + 1 + s = a.length) (hj : j + 1 + s = b.length) (h1 : i < (bs a).size) (h2 : j < (bs b).size) (h : (bs a)[i] ≠ (bs b)[j]) :
    preN (m - s) (a.reverse.drop s) (b.reverse.drop s) = 0 := by
  refine preN_no hs (by rw [List.length_reverse]; omega) (by rw [List.length_reverse]; omega) ?_
  rw [List.getElem_reverse, List.getElem_reverse]
  have e1 : a.length - 1 - s = i := by omega
  have e2 : b.length - 1 - s = j := by omega
  simp only [e1, e2]
  exact h
theorem sgl_at {a b : List UInt8} {m p s : Nat} (hm : m = min a.length b.length) (hp : preN m a b = p) (hs : preN (m - p) a.reverse b.reverse = s) : sglE a b = ⟨p, a.length - s, cut b p (b.length - s)⟩ := by
  subst hm
  have h1 : sglP a b = p := hp
  have h2 : sglS a b = s := by unfold sglS; rw [h1]; exact hs
  unfold sglE
  rw [h1, h2]
set_option maxRecDepth 100000 in
set_option maxHeartbeats 4000000 in
theorem singleP_any (a b : List UInt8) (w : World) (ha : a.length ≤ 2000) (hb : b.length ≤ 2000) : Calls Try.prog 23 #[.string (bs a), .string (bs b)] w (SglOut a b w) := by
  have hsa : ((bs a).size : Int) = a.length := rfl
  have hsb : ((bs b).size : Int) = b.length := rfl
  obtain ⟨m, hm⟩ : ∃ m, m = min a.length b.length := ⟨_, rfl⟩
  have hma : m ≤ a.length := by omega
  have hmb : m ≤ b.length := by omega
  have hmo : m = a.length ∨ m = b.length := by omega
  have HMI := Lib.hid hm
  have hmn : min (a.length : Int) (b.length : Int) = (m : Int) := by omega
  have HMN := Lib.hid hmn
  have HMO := Lib.hid hmo
  clear hm hmn hmo
  go_enter Try.func23, Try.ntmps23
  go_wp2_with fail
  rw [HMN.out]
  go_loopw [5] (fun pv wr => Sgl1 w a b m pv wr) (fun pv _ => m - (intOf pv).toNat)
  case atStart => exact ⟨0, 0, Nat.zero_le _, rfl, by simp, rfl⟩
  case round =>
    obtain ⟨p, n, hp, rfl, hpre, rfl⟩ := hrel
    have HPRE := Lib.hid hpre
    clear hpre
    by_cases hcont : p < m ∧ a[p]? = b[p]?
    · obtain ⟨hlt, hc0⟩ := hcont
      have p1 : p < (bs a).size := by show p < a.length; omega
      have p2 : p < (bs b).size := by show p < b.length; omega
      have p3 : p < a.length := by omega
      have p4 : p < b.length := by omega
      have hc : (bs a)[p] = (bs b)[p] := by
        rw [List.getElem?_eq_getElem p3, List.getElem?_eq_getElem p4] at hc0
        exact Option.some.inj hc0
      have HPY := Lib.hid (preN_yes hlt (show p < a.length by omega) (show p < b.length by omega) hc)
      have hcb := byte_eq hc
      clear hc0
      go_wp2_with fail
      go_quiet (fail)
      go_wp2_with fail
      go_roundw
      case rel => exact ⟨p + 1, _, by omega, by go_num, by rw [HPRE.out, HPY.out]; omega, rfl⟩
      case measure => simp [intOf]; omega
    · have hfin : preN m a b = p := by
        rw [HPRE.out]
        by_cases hlt : p < m
        · rw [preN_no hlt (show p < a.length by omega) (show p < b.length by omega) (fun h => hcont ⟨hlt, by rw [List.getElem?_eq_getElem (by omega), List.getElem?_eq_getElem (by omega), h]⟩)]; omega
        · rw [show m - p = 0 from by omega, preN_end]; omega
      have HFIN := Lib.hid hfin
      clear hfin
      by_cases hlt : p < m
      · have p1 : p < (bs a).size := by show p < a.length; omega
        have p2 : p < (bs b).size := by show p < b.length; omega
        have p3 : p < a.length := by omega
        have p4 : p < b.length := by omega
        have hc : (bs a)[p] ≠ (bs b)[p] := fun h => hcont ⟨hlt, by rw [List.getElem?_eq_getElem p3, List.getElem?_eq_getElem p4]; exact congrArg some h⟩
        have hcb := byte_ne hc
        clear hcont
        go_wp2_with fail
        go_quiet (fail)
        go_wp2_with fail
        go_loopw [7] (fun sv wr => Sgl1 w a.reverse b.reverse (m - p) sv wr) (fun sv _ => m - p - (intOf sv).toNat)
        case atStart => exact ⟨0, n + nq, Nat.zero_le _, rfl, by simp, by simp⟩
        case round =>
          obtain ⟨s, n3, hs, rfl, hsuf, rfl⟩ := hrel
          have HSUF := Lib.hid hsuf
          clear hsuf
          have kk : (p : Int) + s ≤ m := by omega
          by_cases hcont2 : s < m - p ∧ a.reverse[s]? = b.reverse[s]?
          · obtain ⟨hl2, hc0⟩ := hcont2
            obtain ⟨i, hi⟩ : ∃ i, i + 1 + s = a.length := ⟨a.length - 1 - s, by omega⟩
            obtain ⟨j, hj⟩ : ∃ j, j + 1 + s = b.length := ⟨b.length - 1 - s, by omega⟩
            have i1 : i < (bs a).size := by show i < a.length; omega
            have j1 : j < (bs b).size := by show j < b.length; omega
            have x1 : (a.length : Int) - 1 - s = i := by omega
            have x2 : (b.length : Int) - 1 - s = j := by omega
            have i2 : i < a.length := by omega
            have j2 : j < b.length := by omega
            have hc : (bs a)[i] = (bs b)[j] := by
              rw [List.getElem?_eq_getElem (by rw [List.length_reverse]; omega), List.getElem?_eq_getElem (by rw [List.length_reverse]; omega), List.getElem_reverse, List.getElem_reverse] at hc0
              have e1 : a.length - 1 - s = i := by omega
              have e2 : b.length - 1 - s = j := by omega
              simp only [e1, e2] at hc0
              exact Option.some.inj hc0
            have HPY := Lib.hid (rev_yes hl2 i j hi hj i1 j1 hc)
            have hcb := byte_eq hc
            have g1 : (s : Int) < (m : Int) - p := by omega
            have g1' : decide ((s : Int) < (m : Int) - p) = true := decide_eq_true g1
            clear hc0 hi hj
            go_wp2_with fail
            go_quiet (fail)
            go_wp2_with fail
            go_roundw
            case rel => exact ⟨s + 1, _, by omega, by go_num, by rw [HSUF.out, HPY.out]; omega, rfl⟩
            case measure => simp [intOf]; omega
          · have hfin2 : preN (m - p) a.reverse b.reverse = s := by
              rw [HSUF.out]
              by_cases hl2 : s < m - p
              · rw [preN_no hl2 (by rw [List.length_reverse]; omega) (by rw [List.length_reverse]; omega) (fun h => hcont2 ⟨hl2, by rw [List.getElem?_eq_getElem (by rw [List.length_reverse]; omega), List.getElem?_eq_getElem (by rw [List.length_reverse]; omega), h]⟩)]; omega
              · rw [show m - p - s = 0 from by omega, preN_end]; omega
            have HOUT := Lib.hid (sgl_at HMI.out HFIN.out hfin2)
            have hb1 : s ≤ a.length := by omega
            have hb2 : p + s ≤ b.length := by omega
            have hb3 : (p : Int) ≤ (b.length : Int) - s := by omega
            have hb4 : (b.length : Int) - s ≤ b.length := by omega
            have hb5 : (0 : Int) ≤ (b.length : Int) - s := by omega
            have tn : ((b.length : Int) - s).toNat = b.length - s := by omega
            have ta : ((a.length - s : Nat) : Int) = (a.length : Int) - s := by omega
            clear hfin2
            by_cases hl2 : s < m - p
            · skip
              obtain ⟨i, hi⟩ : ∃ i, i + 1 + s = a.length := ⟨a.length - 1 - s, by omega⟩
              obtain ⟨j, hj⟩ : ∃ j, j + 1 + s = b.length := ⟨b.length - 1 - s, by omega⟩
              have i1 : i < (bs a).size := by show i < a.length; omega
              have j1 : j < (bs b).size := by show j < b.length; omega
              have x1 : (a.length : Int) - 1 - s = i := by omega
              have x2 : (b.length : Int) - 1 - s = j := by omega
              have i2 : i < a.length := by omega
              have j2 : j < b.length := by omega
              have hc : (bs a)[i] ≠ (bs b)[j] := fun hc => hcont2 ⟨hl2, by
                rw [List.getElem?_eq_getElem (by rw [List.length_reverse]; omega), List.getElem?_eq_getElem (by rw [List.length_reverse]; omega), List.getElem_reverse, List.getElem_reverse]
                have e1 : a.length - 1 - s = i := by omega
                have e2 : b.length - 1 - s = j := by omega
                simp only [e1, e2]
                exact congrArg some hc⟩
              have hcb := byte_ne hc
              have g1 : (s : Int) < (m : Int) - p := by omega
              have g1' : decide ((s : Int) < (m : Int) - p) = true := decide_eq_true g1
              clear hcont2 hi hj
              go_wp2_with fail
              go_quiet (fail)
              go_wp2_with fail
              refine bodyPost_ret (v := EdV (sglE a b)) ?_ rfl ⟨rfl, ?_⟩
              · rw [HOUT.out]
                simp [results, Try.results23, go_sem, EdV, ta, bs_extract]
              · exact (by with_reducible (repeat (first | exact Gr.refl _ | assumption | apply Gr.alloc | apply Gr.drew | apply Gr.drewN | refine Gr.setCell ?_ (by first | (simp; done) | (simp; omega)) _ | refine Gr.trans ?_ (by assumption))))
            · skip
              have g1 : ¬ (s : Int) < (m : Int) - p := by omega
              have g1' : decide ((s : Int) < (m : Int) - p) = false := decide_eq_false g1
              clear hcont2
              go_wp2_with fail
              go_quiet (fail)
              go_wp2_with fail
              refine bodyPost_ret (v := EdV (sglE a b)) ?_ rfl ⟨rfl, ?_⟩
              · rw [HOUT.out]
                simp [results, Try.results23, go_sem, EdV, ta, bs_extract]
              · exact (by with_reducible (repeat (first | exact Gr.refl _ | assumption | apply Gr.alloc | apply Gr.drew | apply Gr.drewN | refine Gr.setCell ?_ (by first | (simp; done) | (simp; omega)) _ | refine Gr.trans ?_ (by assumption))))
      · clear hcont
        go_wp2_with fail
        go_quiet (fail)
        go_wp2_with fail
        go_loopw [7] (fun sv wr => Sgl1 w a.reverse b.reverse (m - p) sv wr) (fun sv _ => m - p - (intOf sv).toNat)
        case atStart => exact ⟨0, n + nq, Nat.zero_le _, rfl, by simp, by simp⟩
        case round =>
          obtain ⟨s, n3, hs, rfl, hsuf, rfl⟩ := hrel
          have HSUF := Lib.hid hsuf
          clear hsuf
          have kk : (p : Int) + s ≤ m := by omega
          have hfin2 : preN (m - p) a.reverse b.reverse = s := by
            rw [HSUF.out, show m - p - s = 0 from by omega, preN_end]; omega
          have HOUT := Lib.hid (sgl_at HMI.out HFIN.out hfin2)
          have hb1 : s ≤ a.length := by omega
          have hb2 : p + s ≤ b.length := by omega
          have hb3 : (p : Int) ≤ (b.length : Int) - s := by omega
          have hb4 : (b.length : Int) - s ≤ b.length := by omega
          have hb5 : (0 : Int) ≤ (b.length : Int) - s := by omega
          have tn : ((b.length : Int) - s).toNat = b.length - s := by omega
          have ta : ((a.length - s : Nat) : Int) = (a.length : Int) - s := by omega
          clear hfin2
          have g1 : ¬ (s : Int) < (m : Int) - p := by omega
          have g1' : decide ((s : Int) < (m : Int) - p) = false := decide_eq_false g1
          go_wp2_with fail
          go_quiet (fail)
          go_wp2_with fail
          refine bodyPost_ret (v := EdV (sglE a b)) ?_ rfl ⟨rfl, ?_⟩
          · rw [HOUT.out]
            simp [results, Try.results23, go_sem, EdV, ta, bs_extract]
          · exact (by with_reducible (repeat (first | exact Gr.refl _ | assumption | apply Gr.alloc | apply Gr.drew | apply Gr.drewN | refine Gr.setCell ?_ (by first | (simp; done) | (simp; omega)) _ | refine Gr.trans ?_ (by assumption))))
set_option maxRecDepth 100000 in
set_option maxHeartbeats 4000000 in
theorem singleRP_any (a b : List UInt8) (w : World) (ha : a.length ≤ 2000) (hb : b.length ≤ 2000) : Calls Try.prog 24 #[.string (bs a), .string (bs b)] w (SglOut a b w) := by
  have hsa : ((bs a).size : Int) = a.length := rfl
  have hsb : ((bs b).size : Int) = b.length := rfl
  obtain ⟨m, hm⟩ : ∃ m, m = min a.length b.length := ⟨_, rfl⟩
  have hma : m ≤ a.length := by omega
  have hmb : m ≤ b.length := by omega
  have hmo : m = a.length ∨ m = b.length := by omega
  have HMI := Lib.hid hm
  have hmn : min (a.length : Int) (b.length : Int) = (m : Int) := by omega
  have HMN := Lib.hid hmn
  have HMO := Lib.hid hmo
  clear hm hmn hmo
  go_enter Try.func24, Try.ntmps24
  go_wp2_with fail

  go_loopw [5] (fun pv wr => Sgl1 w a b m pv wr) (fun pv _ => m - (intOf pv).toNat)
  case atStart => exact ⟨0, 0, Nat.zero_le _, rfl, by simp, rfl⟩
  case round =>
    obtain ⟨p, n, hp, rfl, hpre, rfl⟩ := hrel
    have HPRE := Lib.hid hpre
    clear hpre
    by_cases hcont : p < m ∧ a[p]? = b[p]?
    · obtain ⟨hlt, hc0⟩ := hcont
      have p1 : p < (bs a).size := by show p < a.length; omega
      have p2 : p < (bs b).size := by show p < b.length; omega
      have p3 : p < a.length := by omega
      have p4 : p < b.length := by omega
      have hc : (bs a)[p] = (bs b)[p] := by
        rw [List.getElem?_eq_getElem p3, List.getElem?_eq_getElem p4] at hc0
        exact Option.some.inj hc0
      have HPY := Lib.hid (preN_yes hlt (show p < a.length by omega) (show p < b.length by omega) hc)
      have hcb := byte_eq hc
      clear hc0
      go_wp2_with fail
      go_quiet (fail)
      go_wp2_with fail
      go_roundw
      case rel => exact ⟨p + 1, _, by omega, by go_num, by rw [HPRE.out, HPY.out]; omega, rfl⟩
      case measure => simp [intOf]; omega
    · have hfin : preN m a b = p := by
        rw [HPRE.out]
        by_cases hlt : p < m
        · rw [preN_no hlt (show p < a.length by omega) (show p < b.length by omega) (fun h => hcont ⟨hlt, by rw [List.getElem?_eq_getElem (by omega), List.getElem?_eq_getElem (by omega), h]⟩)]; omega
        · rw [show m - p = 0 from by omega, preN_end]; omega
      have HFIN := Lib.hid hfin
      clear hfin
      by_cases hlt : p < m
      · have p1 : p < (bs a).size := by show p < a.length; omega
        have p2 : p < (bs b).size := by show p < b.length; omega
        have p3 : p < a.length := by omega
        have p4 : p < b.length := by omega
        have hc : (bs a)[p] ≠ (bs b)[p] := fun h => hcont ⟨hlt, by rw [List.getElem?_eq_getElem p3, List.getElem?_eq_getElem p4]; exact congrArg some h⟩
        have hcb := byte_ne hc
        clear hcont
        go_wp2_with fail
        go_quiet (fail)
        go_wp2_with fail
        go_loopw [6] (fun sv wr => Sgl1 w a.reverse b.reverse (m - p) sv wr) (fun sv _ => m - p - (intOf sv).toNat)
        case atStart => exact ⟨0, n + nq, Nat.zero_le _, rfl, by simp, by simp⟩
        case round =>
          obtain ⟨s, n3, hs, rfl, hsuf, rfl⟩ := hrel
          have HSUF := Lib.hid hsuf
          clear hsuf
          have kk : (p : Int) + s ≤ m := by omega
          by_cases hcont2 : s < m - p ∧ a.reverse[s]? = b.reverse[s]?
          · obtain ⟨hl2, hc0⟩ := hcont2
            obtain ⟨i, hi⟩ : ∃ i, i + 1 + s = a.length := ⟨a.length - 1 - s, by omega⟩
            obtain ⟨j, hj⟩ : ∃ j, j + 1 + s = b.length := ⟨b.length - 1 - s, by omega⟩
            have i1 : i < (bs a).size := by show i < a.length; omega
            have j1 : j < (bs b).size := by show j < b.length; omega
            have x1 : (a.length : Int) - 1 - s = i := by omega
            have x2 : (b.length : Int) - 1 - s = j := by omega
            have i2 : i < a.length := by omega
            have j2 : j < b.length := by omega
            have hc : (bs a)[i] = (bs b)[j] := by
              rw [List.getElem?_eq_getElem (by rw [List.length_reverse]; omega), List.getElem?_eq_getElem (by rw [List.length_reverse]; omega), List.getElem_reverse, List.getElem_reverse] at hc0
              have e1 : a.length - 1 - s = i := by omega
              have e2 : b.length - 1 - s = j := by omega
              simp only [e1, e2] at hc0
              exact Option.some.inj hc0
            have HPY := Lib.hid (rev_yes hl2 i j hi hj i1 j1 hc)
            have hcb := byte_eq hc
            have g1 : (s : Int) < (a.length : Int) - p := by omega
            have g1' : decide ((s : Int) < (a.length : Int) - p) = true := decide_eq_true g1
            have g2 : (s : Int) < (b.length : Int) - p := by omega
            have g2' : decide ((s : Int) < (b.length : Int) - p) = true := decide_eq_true g2
            clear hc0 hi hj
            go_wp2_with fail
            go_quiet (fail)
            go_wp2_with fail
            go_roundw
            case rel => exact ⟨s + 1, _, by omega, by go_num, by rw [HSUF.out, HPY.out]; omega, rfl⟩
            case measure => simp [intOf]; omega
          · have hfin2 : preN (m - p) a.reverse b.reverse = s := by
              rw [HSUF.out]
              by_cases hl2 : s < m - p
              · rw [preN_no hl2 (by rw [List.length_reverse]; omega) (by rw [List.length_reverse]; omega) (fun h => hcont2 ⟨hl2, by rw [List.getElem?_eq_getElem (by rw [List.length_reverse]; omega), List.getElem?_eq_getElem (by rw [List.length_reverse]; omega), h]⟩)]; omega
              · rw [show m - p - s = 0 from by omega, preN_end]; omega
            have HOUT := Lib.hid (sgl_at HMI.out HFIN.out hfin2)
            have hb1 : s ≤ a.length := by omega
            have hb2 : p + s ≤ b.length := by omega
            have hb3 : (p : Int) ≤ (b.length : Int) - s := by omega
            have hb4 : (b.length : Int) - s ≤ b.length := by omega
            have hb5 : (0 : Int) ≤ (b.length : Int) - s := by omega
            have tn : ((b.length : Int) - s).toNat = b.length - s := by omega
            have ta : ((a.length - s : Nat) : Int) = (a.length : Int) - s := by omega
            clear hfin2
            by_cases hl2 : s < m - p
            · skip
              obtain ⟨i, hi⟩ : ∃ i, i + 1 + s = a.length := ⟨a.length - 1 - s, by omega⟩
              obtain ⟨j, hj⟩ : ∃ j, j + 1 + s = b.length := ⟨b.length - 1 - s, by omega⟩
              have i1 : i < (bs a).size := by show i < a.length; omega
              have j1 : j < (bs b).size := by show j < b.length; omega
              have x1 : (a.length : Int) - 1 - s = i := by omega
              have x2 : (b.length : Int) - 1 - s = j := by omega
              have i2 : i < a.length := by omega
              have j2 : j < b.length := by omega
              have hc : (bs a)[i] ≠ (bs b)[j] := fun hc => hcont2 ⟨hl2, by
                rw [List.getElem?_eq_getElem (by rw [List.length_reverse]; omega), List.getElem?_eq_getElem (by rw [List.length_reverse]; omega), List.getElem_reverse, List.getElem_reverse]
                have e1 : a.length - 1 - s = i := by omega
                have e2 : b.length - 1 - s = j := by omega
                simp only [e1, e2]
                exact congrArg some hc⟩
              have hcb := byte_ne hc
              have g1 : (s : Int) < (a.length : Int) - p := by omega
              have g1' : decide ((s : Int) < (a.length : Int) - p) = true := decide_eq_true g1
              have g2 : (s : Int) < (b.length : Int) - p := by omega
              have g2' : decide ((s : Int) < (b.length : Int) - p) = true := decide_eq_true g2
              clear hcont2 hi hj
              go_wp2_with fail
              go_quiet (fail)
              go_wp2_with fail
              refine bodyPost_ret (v := EdV (sglE a b)) ?_ rfl ⟨rfl, ?_⟩
              · rw [HOUT.out]
                simp [results, Try.results24, go_sem, EdV, ta, bs_extract]
              · exact (by with_reducible (repeat (first | exact Gr.refl _ | assumption | apply Gr.alloc | apply Gr.drew | apply Gr.drewN | refine Gr.setCell ?_ (by first | (simp; done) | (simp; omega)) _ | refine Gr.trans ?_ (by assumption))))
            · clear hcont2
              rcases HMO.out with hma2 | hmb2
              · first
                  | (exfalso; omega)
                  | (have g1 : ¬ (s : Int) < (a.length : Int) - p := by omega
                     have g1' : decide ((s : Int) < (a.length : Int) - p) = false := decide_eq_false g1
                     clear hma2
                     go_wp2_with fail
                     go_quiet (fail)
                     go_wp2_with fail
                     refine bodyPost_ret (v := EdV (sglE a b)) ?_ rfl ⟨rfl, ?_⟩
                     · rw [HOUT.out]
                       simp [results, Try.results24, go_sem, EdV, ta, bs_extract]
                     · exact (by with_reducible (repeat (first | exact Gr.refl _ | assumption | apply Gr.alloc | apply Gr.drew | apply Gr.drewN | refine Gr.setCell ?_ (by first | (simp; done) | (simp; omega)) _ | refine Gr.trans ?_ (by assumption)))))
              · by_cases g0 : (s : Int) < (a.length : Int) - p
                · first
                    | (exfalso; omega)
                    | (have g1' : decide ((s : Int) < (a.length : Int) - p) = true := decide_eq_true g0
                       have g2 : ¬ (s : Int) < (b.length : Int) - p := by omega
                       have g2' : decide ((s : Int) < (b.length : Int) - p) = false := decide_eq_false g2
                       clear hmb2
                       go_wp2_with fail
                       go_quiet (fail)
                       go_wp2_with fail
                       refine bodyPost_ret (v := EdV (sglE a b)) ?_ rfl ⟨rfl, ?_⟩
                       · rw [HOUT.out]
                         simp [results, Try.results24, go_sem, EdV, ta, bs_extract]
                       · exact (by with_reducible (repeat (first | exact Gr.refl _ | assumption | apply Gr.alloc | apply Gr.drew | apply Gr.drewN | refine Gr.setCell ?_ (by first | (simp; done) | (simp; omega)) _ | refine Gr.trans ?_ (by assumption)))))
                · first
                    | (exfalso; omega)
                    | (have g1' : decide ((s : Int) < (a.length : Int) - p) = false := decide_eq_false g0
                       clear hmb2
                       go_wp2_with fail
                       go_quiet (fail)
                       go_wp2_with fail
                       refine bodyPost_ret (v := EdV (sglE a b)) ?_ rfl ⟨rfl, ?_⟩
                       · rw [HOUT.out]
                         simp [results, Try.results24, go_sem, EdV, ta, bs_extract]
                       · exact (by with_reducible (repeat (first | exact Gr.refl _ | assumption | apply Gr.alloc | apply Gr.drew | apply Gr.drewN | refine Gr.setCell ?_ (by first | (simp; done) | (simp; omega)) _ | refine Gr.trans ?_ (by assumption)))))
      · clear hcont
        rcases HMO.out with hma2 | hmb2
        · have g3 : ¬ p < a.length := by omega
          clear hma2
          go_wp2_with fail
          go_quiet (fail)
          go_wp2_with fail
          go_loopw [6] (fun sv wr => Sgl1 w a.reverse b.reverse (m - p) sv wr) (fun sv _ => m - p - (intOf sv).toNat)
          case atStart => exact ⟨0, n + nq, Nat.zero_le _, rfl, by simp, by simp⟩
          case round =>
            obtain ⟨s, n3, hs, rfl, hsuf, rfl⟩ := hrel
            have HSUF := Lib.hid hsuf
            clear hsuf
            have kk : (p : Int) + s ≤ m := by omega
            have hfin2 : preN (m - p) a.reverse b.reverse = s := by
              rw [HSUF.out, show m - p - s = 0 from by omega, preN_end]; omega
            have HOUT := Lib.hid (sgl_at HMI.out HFIN.out hfin2)
            have hb1 : s ≤ a.length := by omega
            have hb2 : p + s ≤ b.length := by omega
            have hb3 : (p : Int) ≤ (b.length : Int) - s := by omega
            have hb4 : (b.length : Int) - s ≤ b.length := by omega
            have hb5 : (0 : Int) ≤ (b.length : Int) - s := by omega
            have tn : ((b.length : Int) - s).toNat = b.length - s := by omega
            have ta : ((a.length - s : Nat) : Int) = (a.length : Int) - s := by omega
            clear hfin2
            rcases HMO.out with hma2 | hmb2
            · first
                | (exfalso; omega)
                | (have g1 : ¬ (s : Int) < (a.length : Int) - p := by omega
                   have g1' : decide ((s : Int) < (a.length : Int) - p) = false := decide_eq_false g1
                   clear hma2
                   go_wp2_with fail
                   go_quiet (fail)
                   go_wp2_with fail
                   refine bodyPost_ret (v := EdV (sglE a b)) ?_ rfl ⟨rfl, ?_⟩
                   · rw [HOUT.out]
                     simp [results, Try.results24, go_sem, EdV, ta, bs_extract]
                   · exact (by with_reducible (repeat (first | exact Gr.refl _ | assumption | apply Gr.alloc | apply Gr.drew | apply Gr.drewN | refine Gr.setCell ?_ (by first | (simp; done) | (simp; omega)) _ | refine Gr.trans ?_ (by assumption)))))
            · by_cases g0 : (s : Int) < (a.length : Int) - p
              · first
                  | (exfalso; omega)
                  | (have g1' : decide ((s : Int) < (a.length : Int) - p) = true := decide_eq_true g0
                     have g2 : ¬ (s : Int) < (b.length : Int) - p := by omega
                     have g2' : decide ((s : Int) < (b.length : Int) - p) = false := decide_eq_false g2
                     clear hmb2
                     go_wp2_with fail
                     go_quiet (fail)
                     go_wp2_with fail
                     refine bodyPost_ret (v := EdV (sglE a b)) ?_ rfl ⟨rfl, ?_⟩
                     · rw [HOUT.out]
                       simp [results, Try.results24, go_sem, EdV, ta, tn, bs_extract]
                     · exact (by with_reducible (repeat (first | exact Gr.refl _ | assumption | apply Gr.alloc | apply Gr.drew | apply Gr.drewN | refine Gr.setCell ?_ (by first | (simp; done) | (simp; omega)) _ | refine Gr.trans ?_ (by assumption)))))
              · first
                  | (exfalso; omega)
                  | (have g1' : decide ((s : Int) < (a.length : Int) - p) = false := decide_eq_false g0
                     clear hmb2
                     go_wp2_with fail
                     go_quiet (fail)
                     go_wp2_with fail
                     refine bodyPost_ret (v := EdV (sglE a b)) ?_ rfl ⟨rfl, ?_⟩
                     · rw [HOUT.out]
                       simp [results, Try.results24, go_sem, EdV, ta, bs_extract]
                     · exact (by with_reducible (repeat (first | exact Gr.refl _ | assumption | apply Gr.alloc | apply Gr.drew | apply Gr.drewN | refine Gr.setCell ?_ (by first | (simp; done) | (simp; omega)) _ | refine Gr.trans ?_ (by assumption)))))
        · by_cases g3 : p < a.length
          · have g4 : ¬ p < b.length := by omega
            clear hmb2
            go_wp2_with fail
            go_quiet (fail)
            go_wp2_with fail
            go_loopw [6] (fun sv wr => Sgl1 w a.reverse b.reverse (m - p) sv wr) (fun sv _ => m - p - (intOf sv).toNat)
            case atStart => exact ⟨0, n + nq, Nat.zero_le _, rfl, by simp, by simp⟩
            case round =>
              obtain ⟨s, n3, hs, rfl, hsuf, rfl⟩ := hrel
              have HSUF := Lib.hid hsuf
              clear hsuf
              have kk : (p : Int) + s ≤ m := by omega
              have hfin2 : preN (m - p) a.reverse b.reverse = s := by
                rw [HSUF.out, show m - p - s = 0 from by omega, preN_end]; omega
              have HOUT := Lib.hid (sgl_at HMI.out HFIN.out hfin2)
              have hb1 : s ≤ a.length := by omega
              have hb2 : p + s ≤ b.length := by omega
              have hb3 : (p : Int) ≤ (b.length : Int) - s := by omega
              have hb4 : (b.length : Int) - s ≤ b.length := by omega
              have hb5 : (0 : Int) ≤ (b.length : Int) - s := by omega
              have tn : ((b.length : Int) - s).toNat = b.length - s := by omega
              have ta : ((a.length - s : Nat) : Int) = (a.length : Int) - s := by omega
              clear hfin2
              rcases HMO.out with hma2 | hmb2
              · first
                  | (exfalso; omega)
                  | (have g1 : ¬ (s : Int) < (a.length : Int) - p := by omega
                     have g1' : decide ((s : Int) < (a.length : Int) - p) = false := decide_eq_false g1
                     clear hma2
                     go_wp2_with fail
                     go_quiet (fail)
                     go_wp2_with fail
                     refine bodyPost_ret (v := EdV (sglE a b)) ?_ rfl ⟨rfl, ?_⟩
                     · rw [HOUT.out]
                       simp [results, Try.results24, go_sem, EdV, ta, tn, bs_extract]
                     · exact (by with_reducible (repeat (first | exact Gr.refl _ | assumption | apply Gr.alloc | apply Gr.drew | apply Gr.drewN | refine Gr.setCell ?_ (by first | (simp; done) | (simp; omega)) _ | refine Gr.trans ?_ (by assumption)))))
              · by_cases g0 : (s : Int) < (a.length : Int) - p
                · first
                    | (exfalso; omega)
                    | (have g1' : decide ((s : Int) < (a.length : Int) - p) = true := decide_eq_true g0
                       have g2 : ¬ (s : Int) < (b.length : Int) - p := by omega
                       have g2' : decide ((s : Int) < (b.length : Int) - p) = false := decide_eq_false g2
                       clear hmb2
                       go_wp2_with fail
                       go_quiet (fail)
                       go_wp2_with fail
                       refine bodyPost_ret (v := EdV (sglE a b)) ?_ rfl ⟨rfl, ?_⟩
                       · rw [HOUT.out]
                         simp [results, Try.results24, go_sem, EdV, ta, bs_extract]
                       · exact (by with_reducible (repeat (first | exact Gr.refl _ | assumption | apply Gr.alloc | apply Gr.drew | apply Gr.drewN | refine Gr.setCell ?_ (by first | (simp; done) | (simp; omega)) _ | refine Gr.trans ?_ (by assumption)))))
                · first
                    | (exfalso; omega)
                    | (have g1' : decide ((s : Int) < (a.length : Int) - p) = false := decide_eq_false g0
                       clear hmb2
                       go_wp2_with fail
                       go_quiet (fail)
                       go_wp2_with fail
                       refine bodyPost_ret (v := EdV (sglE a b)) ?_ rfl ⟨rfl, ?_⟩
                       · rw [HOUT.out]
                         simp [results, Try.results24, go_sem, EdV, ta, tn, bs_extract]
                       · exact (by with_reducible (repeat (first | exact Gr.refl _ | assumption | apply Gr.alloc | apply Gr.drew | apply Gr.drewN | refine Gr.setCell ?_ (by first | (simp; done) | (simp; omega)) _ | refine Gr.trans ?_ (by assumption)))))
          · clear hmb2
            go_wp2_with fail
            go_quiet (fail)
            go_wp2_with fail
            go_loopw [6] (fun sv wr => Sgl1 w a.reverse b.reverse (m - p) sv wr) (fun sv _ => m - p - (intOf sv).toNat)
            case atStart => exact ⟨0, n + nq, Nat.zero_le _, rfl, by simp, by simp⟩
            case round =>
              obtain ⟨s, n3, hs, rfl, hsuf, rfl⟩ := hrel
              have HSUF := Lib.hid hsuf
              clear hsuf
              have kk : (p : Int) + s ≤ m := by omega
              have hfin2 : preN (m - p) a.reverse b.reverse = s := by
                rw [HSUF.out, show m - p - s = 0 from by omega, preN_end]; omega
              have HOUT := Lib.hid (sgl_at HMI.out HFIN.out hfin2)
              have hb1 : s ≤ a.length := by omega
              have hb2 : p + s ≤ b.length := by omega
              have hb3 : (p : Int) ≤ (b.length : Int) - s := by omega
              have hb4 : (b.length : Int) - s ≤ b.length := by omega
              have hb5 : (0 : Int) ≤ (b.length : Int) - s := by omega
              have tn : ((b.length : Int) - s).toNat = b.length - s := by omega
              have ta : ((a.length - s : Nat) : Int) = (a.length : Int) - s := by omega
              clear hfin2
              rcases HMO.out with hma2 | hmb2
              · first
                  | (exfalso; omega)
                  | (have g1 : ¬ (s : Int) < (a.length : Int) - p := by omega
                     have g1' : decide ((s : Int) < (a.length : Int) - p) = false := decide_eq_false g1
                     clear hma2
                     go_wp2_with fail
                     go_quiet (fail)
                     go_wp2_with fail
                     refine bodyPost_ret (v := EdV (sglE a b)) ?_ rfl ⟨rfl, ?_⟩
                     · rw [HOUT.out]
                       simp [results, Try.results24, go_sem, EdV, ta, bs_extract]
                     · exact (by with_reducible (repeat (first | exact Gr.refl _ | assumption | apply Gr.alloc | apply Gr.drew | apply Gr.drewN | refine Gr.setCell ?_ (by first | (simp; done) | (simp; omega)) _ | refine Gr.trans ?_ (by assumption)))))
              · by_cases g0 : (s : Int) < (a.length : Int) - p
                · first
                    | (exfalso; omega)
                    | (have g1' : decide ((s : Int) < (a.length : Int) - p) = true := decide_eq_true g0
                       have g2 : ¬ (s : Int) < (b.length : Int) - p := by omega
                       have g2' : decide ((s : Int) < (b.length : Int) - p) = false := decide_eq_false g2
                       clear hmb2
                       go_wp2_with fail
                       go_quiet (fail)
                       go_wp2_with fail
                       refine bodyPost_ret (v := EdV (sglE a b)) ?_ rfl ⟨rfl, ?_⟩
                       · rw [HOUT.out]
                         simp [results, Try.results24, go_sem, EdV, ta, tn, bs_extract]
                       · exact (by with_reducible (repeat (first | exact Gr.refl _ | assumption | apply Gr.alloc | apply Gr.drew | apply Gr.drewN | refine Gr.setCell ?_ (by first | (simp; done) | (simp; omega)) _ | refine Gr.trans ?_ (by assumption)))))
                · first
                    | (exfalso; omega)
                    | (have g1' : decide ((s : Int) < (a.length : Int) - p) = false := decide_eq_false g0
                       clear hmb2
                       go_wp2_with fail
                       go_quiet (fail)
                       go_wp2_with fail
                       refine bodyPost_ret (v := EdV (sglE a b)) ?_ rfl ⟨rfl, ?_⟩
                       · rw [HOUT.out]
                         simp [results, Try.results24, go_sem, EdV, ta, bs_extract]
                       · exact (by with_reducible (repeat (first | exact Gr.refl _ | assumption | apply Gr.alloc | apply Gr.drew | apply Gr.drewN | refine Gr.setCell ?_ (by first | (simp; done) | (simp; omega)) _ | refine Gr.trans ?_ (by assumption)))))
end Go.Proofs.Ytapginodpikijaa
