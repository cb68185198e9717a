/- The reference's Same of two equal lists, walked. -/
import Derived.Test.YtapginodpikijaaSpanInvR
namespace Go.Proofs.Ytapginodpikijaa
open Go.ChangeShapes Go.WideShapes Go.ChangeAt Go.RowKit
open Go.Lib hiding intOf

def SameRel (w : World) (n : Nat) (iv : Value) (wr : World) : Prop := ∃ j : Nat, j ≤ n ∧ iv = .int .i64 j ∧ Gr w wr
set_option maxRecDepth 100000 in
set_option maxHeartbeats 8000000 in
theorem sameP_eq (es : List ED) (A B : Option Addr) (n ca cb : Nat) (w : World) (ha : EditsAt w A n es) (hb : EditsAt w B n es) (hn : n ≤ 1048576) : Calls Try.prog 16 #[.slice A n ca, .slice B n cb] w (RB true w) := by
  have hl : es.length = n := ha.1
  have HA := Lib.hid ha
  have HB := Lib.hid hb
  have HL := Lib.hid hl
  clear ha hb hl
  go_enter Try.func16, Try.ntmps16
  go_wp2_with fail
  go_loopw [5] (fun iv wr => SameRel w n iv wr) (fun iv _ => n - (intOf iv).toNat)
  case atStart => exact ⟨0, Nat.zero_le _, rfl, Gr.refl _⟩
  case round =>
    obtain ⟨j, hj, rfl, hG⟩ := hrel
    by_cases hlt : j < n
    · obtain ⟨e, hge⟩ : ∃ e, es[j]? = some e := ⟨es[j]'(by rw [HL.out]; exact hlt), List.getElem?_eq_getElem _⟩
      have hA2 := HA.out.keep hG
      have hB2 := HB.out.keep hG
      obtain ⟨b1, o1, rfl, h1⟩ := hA2.addr hlt
      obtain ⟨b2, o2, rfl, h2⟩ := hB2.addr hlt
      obtain ⟨d0, d1, d2⟩ := hA2.cells hge
      obtain ⟨e0, e1, e2⟩ := hB2.cells hge
      clear hA2 hB2 hge
      go_wp2_with fail
      go_quiet (fail)
      go_wp2_with fail
      go_roundw
      case rel => exact ⟨j + 1, by omega, by go_num, hG.drewN _⟩
      case measure => simp [intOf] <;> omega
    · go_wp2_with fail
      go_ret
      exact ⟨rfl, hG⟩
/- ## The edits from pairs are accepted -/
theorem valid_nat {f t la : Nat} {s : List UInt8} (h1 : f ≤ t) (h2 : t ≤ la) : validS (EN.mk f t s).ed.f (EN.mk f t s).ed.t la = true := by
  unfold validS EN.ed
  rw [decide_eq_true_eq]
  dsimp only
  omega
theorem btwP_check (la lb : Nat) (b : List UInt8) : ∀ (ps : List (Nat × Nat)) (f t : Nat) (lf lt : Int), Rise f t ps → (∀ p ∈ ps, p.1 < la) → f ≤ la → lf < f → lt ≤ f → checkL la ((btwP la lb b f t ps).map EN.ed) lf lt = 0
  | [], f, t, lf, lt, _, _, hf, h1, h2 => by
    unfold btwP
    split
    · rw [List.map_cons, List.map_nil, checkL, if_neg, if_neg, checkL]
      · simp only [EN.ed]; omega
      · rw [valid_nat (by omega) (by omega)]; decide
    · rfl
  | (i, k) :: ps, f, t, lf, lt, hr, hl, hf, h1, h2 => by
    obtain ⟨r1, r2, r3⟩ := hr
    have hi : i < la := hl (i, k) (by simp)
    have hl' : ∀ p ∈ ps, p.1 < la := fun p hp => hl p (by simp [hp])
    unfold btwP
    split
    · rw [List.map_append, List.map_cons, List.map_nil, List.cons_append, List.nil_append, checkL, if_neg, if_neg]
      · exact btwP_check la lb b ps (i + 1) (k + 1) _ _ r3 hl' (by omega) (by simp only [EN.ed]; omega) (by simp only [EN.ed]; omega)
      · simp only [EN.ed]; omega
      · rw [valid_nat (by omega) (by omega)]; decide
    · rw [List.nil_append]
      exact btwP_check la lb b ps (i + 1) (k + 1) lf lt r3 hl' (by omega) (by omega) (by omega)
theorem btwP_checkF (la lb : Nat) (b : List UInt8) (ps : List (Nat × Nat)) (t : Nat) (hr : Rise 0 t ps) (hl : ∀ p ∈ ps, p.1 < la) (hn : (btwP la lb b 0 t ps).length ≤ 4096) : checkF ((btwP la lb b 0 t ps).map EN.ed) la = 0 := by
  unfold checkF
  rw [if_neg (by rw [List.length_map]; omega)]
  exact btwP_check la lb b ps 0 t (-1) 0 hr hl (Nat.zero_le _) (by omega) (by omega)
theorem inv_check (src : List UInt8) (es : List EN) (h : Ok src.length 0 es) (hn : src.length ≤ 4000) : checkF ((invF src es).map EN.ed) ((appF src 0 es).length : Nat) = 0 := by
  obtain ⟨h1, h2⟩ := pairs_facts src es h
  have h3 := rise_swap _ _ _ h1
  have h4 := same_swap h2
  have h5 := (inv_sizes src es h).1
  rw [inv_pairs] at h5 ⊢
  exact btwP_checkF _ _ _ _ _ h3 (fun p hp => (h4 p hp).1) (by omega)
theorem comp_check (src : List UInt8) (a b : List EN) (ha : Ok src.length 0 a) (hb : Ok (appF src 0 a).length 0 b) (hn : src.length ≤ 4000) : checkF ((compF src a b).map EN.ed) (src.length : Nat) = 0 := by
  obtain ⟨h1, h2⟩ := compP_facts src a b ha hb
  have h5 := (comp_sizes src a b ha hb).1
  rw [comp_pairs src a b ha hb] at h5 ⊢
  exact btwP_checkF _ _ _ _ _ h1 (fun p hp => (h2 p hp).1) (by omega)
end Go.Proofs.Ytapginodpikijaa
