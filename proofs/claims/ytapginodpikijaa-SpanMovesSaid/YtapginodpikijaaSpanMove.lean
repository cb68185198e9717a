/- Move of package span and of its reference, walked. -/
import Derived.Test.YtapginodpikijaaSpanApplies
namespace Go.Proofs.Ytapginodpikijaa
open Go.ChangeShapes Go.WideShapes Go.ChangeAt Go.RowKit
open Go.Lib hiding intOf

def MoveRel (w : World) (ns : List EN) (at_ : Int) (bv iv : Value) (wr : World) : Prop :=
  ∃ j : Nat, j ≤ ns.length ∧ iv = .int .i64 j ∧ bv = .int .i64 (delta (ns.take j)) ∧ Gr w wr ∧ moveL ((ns.drop j).map EN.ed) at_ (delta (ns.take j)) = moveL (ns.map EN.ed) at_ 0
def RIB (p : Int × Bool) (w : World) (e : Ending) (w' : World) : Prop := e = .returned (.tuple #[.int .i64 p.1, .bool p.2]) ∧ Gr w w'
theorem moveL_lt {e : EN} {r : List ED} {a b : Int} (h : a < e.f) : moveL (e.ed :: r) a b = (a + b, true) := by
  rw [moveL, if_pos (show a < e.ed.f from h)]
theorem moveL_in {e : EN} {r : List ED} {a b : Int} (h : ¬ a < e.f) (k : a < e.t) : moveL (e.ed :: r) a b = (e.f + b, false) := by
  rw [moveL, if_neg (show ¬ a < e.ed.f from h), if_pos (show a < e.ed.t from k)]
  rfl
theorem moveL_go {e : EN} {r : List ED} {a b : Int} (h : ¬ a < e.f) (k : ¬ a < e.t) : moveL (e.ed :: r) a b = moveL r a (b + ((e.s.length : Int) - (e.t - e.f))) := by
  rw [moveL, if_neg (show ¬ a < e.ed.f from h), if_neg (show ¬ a < e.ed.t from k)]
  rfl

set_option maxRecDepth 100000 in
theorem moveP_neg (A : Option Addr) (len cap : Nat) (a : Int) (w : World) (ha : a < 0) : Calls Try.prog 25 #[.slice A len cap, .int .i64 a] w (RIB (0, false) w) := by
  go_enter Try.func25, Try.ntmps25
  go_wp2_with fail
  go_ret2
  exact ⟨rfl, Gr.refl _⟩
set_option maxRecDepth 100000 in
set_option maxHeartbeats 4000000 in
theorem moveP_any (size : Nat) (A : Option Addr) (len cap : Nat) (ns : List EN) (a : Nat) (w : World) (he : EditsAt w A len (ns.map EN.ed)) (hl : len ≤ 5000) (hok : Ok size 0 ns) (hz : size ≤ 1048576) (ht : texts ns ≤ 1048576) (ha : a ≤ 1048576) :
    Calls Try.prog 25 #[.slice A len cap, .int .i64 a] w (RIB (moveL (ns.map EN.ed) a 0) w) := by
  have hnl : ns.length = len := by have := he.1; simpa using this
  have HE := Lib.hid he
  have HOK := Lib.hid hok
  clear he hok
  go_enter Try.func25, Try.ntmps25
  go_wp2_with fail
  go_loopw [6, 13] (fun bv iv wr => MoveRel w ns a bv iv wr) (fun _ iv _ => len - (intOf iv).toNat)
  case atStart => exact ⟨0, Nat.zero_le _, rfl, rfl, Gr.refl _, rfl⟩
  case round =>
    obtain ⟨j, hj, rfl, rfl, hG, hmv⟩ := hrel
    have hdb := delta_le size (ns.take j) 0 (HOK.out.take j) (Nat.zero_le _)
    have htt := texts_take ns j
    have HMV := Lib.hid hmv
    clear hmv
    by_cases hlt : j < len
    · obtain ⟨e, hge⟩ : ∃ e, ns[j]? = some e := ⟨ns[j]'(by omega), List.getElem?_eq_getElem _⟩
      obtain ⟨b, off, rfl, hb⟩ := (HE.out.keep hG).addr hlt
      obtain ⟨d0, d1, d2⟩ := (HE.out.keep hG).cellsN hge
      obtain ⟨o1, o2⟩ := HOK.out.at hge
      have hte := texts_mem hge
      have hst : delta (ns.take (j + 1)) = delta (ns.take j) + ((e.s.length : Int) - (e.t - e.f)) := by
        rw [take_succ_at hge, delta_app]
        simp [delta]
      have HST := Lib.hid hst
      have HDR := Lib.hid (drop_at hge)
      have hes : ((bs e.s).size : Int) = e.s.length := rfl
      clear hge hst
      generalize delta (ns.take j) = D at *
      by_cases c1 : (a : Int) < e.f
      · skip
        have hmv := HMV.out
        rw [HDR.out, List.map_cons, moveL_lt c1] at hmv
        have HM2 := Lib.hid hmv
        clear hmv
        go_wp2_with fail
        go_ret2
        rw [← HM2.out]
        exact ⟨rfl, (by with_reducible (repeat (first | exact Gr.refl _ | assumption | apply Gr.alloc | apply Gr.drew | apply Gr.drewN | refine Gr.setCell ?_ (by first | (simp; done) | (simp; omega)) _ | refine Gr.trans ?_ (by assumption))))⟩
      · have c1' : (e.f : Int) ≤ a := by omega
        by_cases c2 : (a : Int) < e.t
        · have hmv := HMV.out
          rw [HDR.out, List.map_cons, moveL_in c1 c2] at hmv
          have HM2 := Lib.hid hmv
          clear hmv
          go_wp2_with fail
          go_ret2
          rw [← HM2.out]
          exact ⟨rfl, (by with_reducible (repeat (first | exact Gr.refl _ | assumption | apply Gr.alloc | apply Gr.drew | apply Gr.drewN | refine Gr.setCell ?_ (by first | (simp; done) | (simp; omega)) _ | refine Gr.trans ?_ (by assumption))))⟩
        · have hmv := HMV.out
          rw [HDR.out, List.map_cons, moveL_go c1 c2, ← HST.out] at hmv
          have HM2 := Lib.hid hmv
          have c2' : (e.t : Int) ≤ a := by omega
          clear hmv
          go_wp2_with fail


          go_roundw
          case rel => exact ⟨j + 1, by omega, by go_num, by rw [HST.out] <;> go_num, (by with_reducible (repeat (first | exact Gr.refl _ | assumption | apply Gr.alloc | apply Gr.drew | apply Gr.drewN | refine Gr.setCell ?_ (by first | (simp; done) | (simp; omega)) _ | refine Gr.trans ?_ (by assumption)))), HM2.out⟩
          case measure => simp [intOf]; omega
    · have hjn : j = ns.length := by omega
      have hmv := HMV.out
      rw [hjn, List.drop_length, List.take_length, List.map_nil, moveL] at hmv
      have hD : delta (ns.take j) = delta ns := by rw [hjn, List.take_length]
      rw [hD] at hdb ⊢
      have HM2 := Lib.hid hmv
      clear hmv hjn hD
      generalize delta ns = D at *
      go_wp2_with fail
      go_ret2
      rw [← HM2.out]
      exact ⟨rfl, hG⟩

set_option maxRecDepth 100000 in
theorem moveRP_neg (A : Option Addr) (len cap : Nat) (a : Int) (w : World) (ha : a < 0) : Calls Try.prog 26 #[.slice A len cap, .int .i64 a] w (RIB (0, false) w) := by
  go_enter Try.func26, Try.ntmps26
  go_wp2_with fail
  go_ret2
  exact ⟨rfl, Gr.refl _⟩
set_option maxRecDepth 100000 in
set_option maxHeartbeats 4000000 in
theorem moveRP_any (size : Nat) (A : Option Addr) (len cap : Nat) (ns : List EN) (a : Nat) (w : World) (he : EditsAt w A len (ns.map EN.ed)) (hl : len ≤ 5000) (hok : Ok size 0 ns) (hz : size ≤ 1048576) (ht : texts ns ≤ 1048576) (ha : a ≤ 1048576) :
    Calls Try.prog 26 #[.slice A len cap, .int .i64 a] w (RIB (moveL (ns.map EN.ed) a 0) w) := by
  have hnl : ns.length = len := by have := he.1; simpa using this
  have HE := Lib.hid he
  have HOK := Lib.hid hok
  clear he hok
  go_enter Try.func26, Try.ntmps26
  go_wp2_with fail
  go_loopw [6, 7] (fun bv iv wr => MoveRel w ns a bv iv wr) (fun _ iv _ => len - (intOf iv).toNat)
  case atStart => exact ⟨0, Nat.zero_le _, rfl, rfl, Gr.refl _, rfl⟩
  case round =>
    obtain ⟨j, hj, rfl, rfl, hG, hmv⟩ := hrel
    have hdb := delta_le size (ns.take j) 0 (HOK.out.take j) (Nat.zero_le _)
    have htt := texts_take ns j
    have HMV := Lib.hid hmv
    clear hmv
    by_cases hlt : j < len
    · obtain ⟨e, hge⟩ : ∃ e, ns[j]? = some e := ⟨ns[j]'(by omega), List.getElem?_eq_getElem _⟩
      obtain ⟨b, off, rfl, hb⟩ := (HE.out.keep hG).addr hlt
      obtain ⟨d0, d1, d2⟩ := (HE.out.keep hG).cellsN hge
      obtain ⟨o1, o2⟩ := HOK.out.at hge
      have hte := texts_mem hge
      have hst : delta (ns.take (j + 1)) = delta (ns.take j) + ((e.s.length : Int) - (e.t - e.f)) := by
        rw [take_succ_at hge, delta_app]
        simp [delta]
      have HST := Lib.hid hst
      have HDR := Lib.hid (drop_at hge)
      have hes : ((bs e.s).size : Int) = e.s.length := rfl
      clear hge hst
      generalize delta (ns.take j) = D at *
      by_cases c1 : (a : Int) < e.f
      · have c1' : decide ((e.f : Int) ≤ a) = false := decide_eq_false (by omega)
        have hmv := HMV.out
        rw [HDR.out, List.map_cons, moveL_lt c1] at hmv
        have HM2 := Lib.hid hmv
        clear hmv
        go_wp2_with fail
        go_ret2
        rw [← HM2.out]
        exact ⟨rfl, (by with_reducible (repeat (first | exact Gr.refl _ | assumption | apply Gr.alloc | apply Gr.drew | apply Gr.drewN | refine Gr.setCell ?_ (by first | (simp; done) | (simp; omega)) _ | refine Gr.trans ?_ (by assumption))))⟩
      · have c1' : (e.f : Int) ≤ a := by omega
        by_cases c2 : (a : Int) < e.t
        · have hmv := HMV.out
          rw [HDR.out, List.map_cons, moveL_in c1 c2] at hmv
          have HM2 := Lib.hid hmv
          clear hmv
          go_wp2_with fail
          go_ret2
          rw [← HM2.out]
          exact ⟨rfl, (by with_reducible (repeat (first | exact Gr.refl _ | assumption | apply Gr.alloc | apply Gr.drew | apply Gr.drewN | refine Gr.setCell ?_ (by first | (simp; done) | (simp; omega)) _ | refine Gr.trans ?_ (by assumption))))⟩
        · have hmv := HMV.out
          rw [HDR.out, List.map_cons, moveL_go c1 c2, ← HST.out] at hmv
          have HM2 := Lib.hid hmv
          have c2' : (e.t : Int) ≤ a := by omega
          clear hmv
          go_wp2_with fail
          go_quiet (fail)
          go_wp2_with fail
          go_roundw
          case rel => exact ⟨j + 1, by omega, by go_num, by rw [HST.out] <;> go_num, (by with_reducible (repeat (first | exact Gr.refl _ | assumption | apply Gr.alloc | apply Gr.drew | apply Gr.drewN | refine Gr.setCell ?_ (by first | (simp; done) | (simp; omega)) _ | refine Gr.trans ?_ (by assumption)))), HM2.out⟩
          case measure => simp [intOf]; omega
    · have hjn : j = ns.length := by omega
      have hmv := HMV.out
      rw [hjn, List.drop_length, List.take_length, List.map_nil, moveL] at hmv
      have hD : delta (ns.take j) = delta ns := by rw [hjn, List.take_length]
      rw [hD] at hdb ⊢
      have HM2 := Lib.hid hmv
      clear hmv hjn hD
      generalize delta ns = D at *
      go_wp2_with fail
      go_ret2
      rw [← HM2.out]
      exact ⟨rfl, hG⟩

end Go.Proofs.Ytapginodpikijaa
