/- Valid, Cut, Check of package span and of its reference, walked. -/
import Derived.Test.YtapginodpikijaaSpanRead
namespace Go.Proofs.Ytapginodpikijaa
open Go.ChangeShapes Go.WideShapes Go.ChangeAt Go.RowKit



set_option maxRecDepth 100000 in
theorem validP_any (f t size : Int) (w : World) : Calls Try.prog 19 #[.agg #[.int .i64 f, .int .i64 t], .int .i64 size] w (RB (validS f t size) w) := by
  go_enter Try.func19, Try.ntmps19
  go_wp2_with fail
  all_goals (go_ret; exact ⟨ret_bool (by unfold validS; first | (rw [decide_eq_decide]; omega) | (symm; rw [decide_eq_true_eq]; omega) | (symm; rw [decide_eq_false_iff_not]; omega)), (by with_reducible (repeat (first | exact Gr.refl _ | assumption | apply Gr.alloc | apply Gr.drew | apply Gr.drewN | refine Gr.setCell ?_ (by first | (simp; done) | (simp; omega)) _ | refine Gr.trans ?_ (by assumption))))⟩)

set_option maxRecDepth 100000 in
theorem validRP_any (f t size : Int) (w : World) : Calls Try.prog 20 #[.agg #[.int .i64 f, .int .i64 t], .int .i64 size] w (RB (validS f t size) w) := by
  go_enter Try.func20, Try.ntmps20
  go_wp2_with fail
  all_goals (go_ret; exact ⟨ret_bool (by unfold validS; first | (rw [decide_eq_decide]; omega) | (symm; rw [decide_eq_true_eq]; omega) | (symm; rw [decide_eq_false_iff_not]; omega)), (by with_reducible (repeat (first | exact Gr.refl _ | assumption | apply Gr.alloc | apply Gr.drew | apply Gr.drewN | refine Gr.setCell ?_ (by first | (simp; done) | (simp; omega)) _ | refine Gr.trans ?_ (by assumption))))⟩)

theorem validP_eq (f t size : Int) (v : Bool) (w : World) (h : validS f t size = v) : Calls Try.prog 19 #[.agg #[.int .i64 f, .int .i64 t], .int .i64 size] w (RB v w) := h ▸ validP_any f t size w
theorem validRP_eq (f t size : Int) (v : Bool) (w : World) (h : validS f t size = v) : Calls Try.prog 20 #[.agg #[.int .i64 f, .int .i64 t], .int .i64 size] w (RB v w) := h ▸ validRP_any f t size w
/-- a call that returns these two values and leaves old memory alone -/
def R2 (u v : Value) (w : World) (e : Ending) (w' : World) : Prop := e = .returned (.tuple #[u, v]) ∧ Gr w w'
def RI (z : Int) (w : World) (e : Ending) (w' : World) : Prop := e = .returned (.int .i64 z) ∧ Gr w w'


set_option maxRecDepth 100000 in
theorem cutP_any (src : List UInt8) (f t : Int) (w : World) (_hs : src.length ≤ maxLen) : Calls Try.prog 17 #[.string (bs src), .agg #[.int .i64 f, .int .i64 t]] w (R2 (.string (bs (if validS f t src.length then cut src f.toNat t.toNat else []))) (.int .i64 (if validS f t src.length then 0 else 2)) w) := by
  by_cases hv : validS f t src.length = true
  · rw [if_pos hv, if_pos hv]
    have hv' := hv
    unfold validS at hv'
    rw [decide_eq_true_eq] at hv'
    obtain ⟨a, rfl⟩ := Int.eq_ofNat_of_zero_le hv'.1
    obtain ⟨b, rfl⟩ := Int.eq_ofNat_of_zero_le (show 0 ≤ t by omega)
    go_enter Try.func17, Try.ntmps17
    go_wp2_with fail
    refine (validP_eq _ _ _ true _ hv).mono ?_
    rintro e w1 ⟨rfl, hb1⟩
    obtain ⟨hc1, hf1, hs1⟩ := Gr.cells hb1
    simp at hs1
    have c1_0 := fun o => hc1 w.heap.size o (by simp)
    clear hc1 hf1
    have hlen : ((bs src).size : Int) = src.length := rfl
    go_wp2_with fail
    go_ret2
    exact ⟨by rw [bs_extract]; rfl, (by with_reducible (repeat (first | exact Gr.refl _ | assumption | apply Gr.alloc | apply Gr.drew | apply Gr.drewN | refine Gr.setCell ?_ (by first | (simp; done) | (simp; omega)) _ | refine Gr.trans ?_ (by assumption))))⟩
  · have hvf : validS f t src.length = false := by simpa using hv
    rw [if_neg hv, if_neg hv]
    go_enter Try.func17, Try.ntmps17
    go_wp2_with fail
    refine (validP_eq _ _ _ false _ hvf).mono ?_
    rintro e w1 ⟨rfl, hb1⟩
    go_wp2_with fail
    go_ret2
    exact ⟨rfl, (by with_reducible (repeat (first | exact Gr.refl _ | assumption | apply Gr.alloc | apply Gr.drew | apply Gr.drewN | refine Gr.setCell ?_ (by first | (simp; done) | (simp; omega)) _ | refine Gr.trans ?_ (by assumption))))⟩

set_option maxRecDepth 100000 in
theorem cutRP_any (src : List UInt8) (f t : Int) (w : World) (_hs : src.length ≤ maxLen) : Calls Try.prog 18 #[.string (bs src), .agg #[.int .i64 f, .int .i64 t]] w (R2 (.string (bs (if validS f t src.length then cut src f.toNat t.toNat else []))) (.int .i64 (if validS f t src.length then 0 else 2)) w) := by
  by_cases hv : validS f t src.length = true
  · rw [if_pos hv, if_pos hv]
    have hv' := hv
    unfold validS at hv'
    rw [decide_eq_true_eq] at hv'
    obtain ⟨a, rfl⟩ := Int.eq_ofNat_of_zero_le hv'.1
    obtain ⟨b, rfl⟩ := Int.eq_ofNat_of_zero_le (show 0 ≤ t by omega)
    go_enter Try.func18, Try.ntmps18
    go_wp2_with fail
    refine (validRP_eq _ _ _ true _ hv).mono ?_
    rintro e w1 ⟨rfl, hb1⟩
    obtain ⟨hc1, hf1, hs1⟩ := Gr.cells hb1
    simp at hs1
    have c1_0 := fun o => hc1 w.heap.size o (by simp)
    clear hc1 hf1
    have hlen : ((bs src).size : Int) = src.length := rfl
    go_wp2_with fail
    go_ret2
    exact ⟨by rw [bs_extract]; rfl, (by with_reducible (repeat (first | exact Gr.refl _ | assumption | apply Gr.alloc | apply Gr.drew | apply Gr.drewN | refine Gr.setCell ?_ (by first | (simp; done) | (simp; omega)) _ | refine Gr.trans ?_ (by assumption))))⟩
  · have hvf : validS f t src.length = false := by simpa using hv
    rw [if_neg hv, if_neg hv]
    go_enter Try.func18, Try.ntmps18
    go_wp2_with fail
    refine (validRP_eq _ _ _ false _ hvf).mono ?_
    rintro e w1 ⟨rfl, hb1⟩
    go_wp2_with fail
    go_ret2
    exact ⟨rfl, (by with_reducible (repeat (first | exact Gr.refl _ | assumption | apply Gr.alloc | apply Gr.drew | apply Gr.drewN | refine Gr.setCell ?_ (by first | (simp; done) | (simp; omega)) _ | refine Gr.trans ?_ (by assumption))))⟩

/-- Check's loop: which edit is next, and the last one's span in its box. -/
def CheckRel (w : World) (es : List ED) (size : Int) (iv : Value) (wr : World) : Prop :=
  ∃ (j : Nat) (lf lt : Int), j ≤ es.length ∧ iv = .int .i64 j ∧ checkL size (es.drop j) lf lt = checkL size es (-1) 0 ∧ Gr w wr ∧ w.heap.size + 1 ≤ wr.heap.size ∧
    wr.cell? ⟨w.heap.size, 0, none⟩ = some (.int .i64 lf) ∧ wr.cell? ⟨w.heap.size, 1, none⟩ = some (.int .i64 lt) ∧ wr.frozen? ⟨w.heap.size, 0, none⟩ = false ∧ wr.frozen? ⟨w.heap.size, 1, none⟩ = false
theorem drop_at {α : Type} {l : List α} {j : Nat} {e : α} (h : l[j]? = some e) : l.drop j = e :: l.drop (j + 1) := by
  obtain ⟨hj, rfl⟩ := List.getElem?_eq_some_iff.1 h
  exact List.drop_eq_getElem_cons hj
set_option maxRecDepth 100000 in
set_option maxHeartbeats 1000000 in
theorem checkP_any (A : Option Addr) (len cap : Nat) (es : List ED) (size : Int) (w : World) (he : EditsAt w A len es) (hl : len ≤ 5000) :
    Calls Try.prog 21 #[.slice A len cap, .int .i64 size] w (RI (checkF es size) w) := by
  have HE := Lib.hid he
  have hlen : es.length = len := he.1
  clear he
  by_cases hbig : 4096 < len
  · have hR : checkF es size = 10 := by unfold checkF; rw [if_pos (by omega)]
    rw [hR]; clear hR
    go_enter Try.func21, Try.ntmps21
    go_wp2_with fail
    go_ret
    exact ⟨rfl, (by with_reducible (repeat (first | exact Gr.refl _ | assumption | apply Gr.alloc | apply Gr.drew | apply Gr.drewN | refine Gr.setCell ?_ (by first | (simp; done) | (simp; omega)) _ | refine Gr.trans ?_ (by assumption))))⟩
  · have hR : checkF es size = checkL size es (-1) 0 := by unfold checkF; rw [if_neg (by omega)]
    rw [hR]; clear hR
    go_enter Try.func21, Try.ntmps21
    go_wp2_with fail
    go_loopw [14] (fun iv wr => CheckRel w es size iv wr) (fun iv _ => len - (intOf iv).toNat)
    case atStart => exact ⟨0, -1, 0, Nat.zero_le _, rfl, rfl, (by with_reducible (repeat (first | exact Gr.refl _ | assumption | apply Gr.alloc | apply Gr.drew | apply Gr.drewN | refine Gr.setCell ?_ (by first | (simp; done) | (simp; omega)) _ | refine Gr.trans ?_ (by assumption)))), by simp, by simp, by simp, by simp, by simp⟩
    case round =>
      obtain ⟨j, lf, lt, hj, rfl, hR, hG, hB, c0, c1, f0, f1⟩ := hrel
      have HR := Lib.hid hR
      clear hR
      by_cases hlt : j < len
      · obtain ⟨b, off, e, rfl, hb, hge, w1, w2, w3, d0, d1, d2⟩ := (HE.out.keep hG).at hlt
        have hrest := drop_at hge
        have HGE := Lib.hid hge
        have HREST := Lib.hid hrest
        have HW := Lib.hid (And.intro w1 (And.intro w2 w3))
        clear hge hrest w1 w2 w3
        cases hv : validS e.f e.t size with
        | false =>
          go_wp2_with fail
          refine (validP_eq _ _ _ false _ hv).mono ?_
          rintro e1 w1 ⟨rfl, hb1⟩
          go_wp2_with fail
          go_ret
          have hR2 := HR.out
          rw [HREST.out, checkL, if_pos hv] at hR2
          exact ⟨congrArg (fun z => Ending.returned (.int .i64 z)) hR2, (by with_reducible (repeat (first | exact Gr.refl _ | assumption | apply Gr.alloc | apply Gr.drew | apply Gr.drewN | refine Gr.setCell ?_ (by first | (simp; done) | (simp; omega)) _ | refine Gr.trans ?_ (by assumption))))⟩
        | true =>
          go_wp2_with fail
          refine (validP_eq _ _ _ true _ hv).mono ?_
          rintro e1 w1 ⟨rfl, hb1⟩
          obtain ⟨hc1, hf1, hs1⟩ := Gr.cells hb1
          simp at hs1
          have hlw : w.heap.size < wr.heap.size := hB
          have c1_0 := fun o => hc1 wr.heap.size o (by simp)
          have c1_1 := (hc1 w.heap.size 0 (by simp; omega)).trans ((World.cell?_alloc_lt _ _ _ hlw).trans c0)
          have c1_2 := (hc1 w.heap.size 1 (by simp; omega)).trans ((World.cell?_alloc_lt _ _ _ hlw).trans c1)
          have f1_1 := (hf1 w.heap.size 0 (by simp; omega)).trans ((World.frozen?_alloc_past _ _ _ hlw).trans f0)
          have f1_2 := (hf1 w.heap.size 1 (by simp; omega)).trans ((World.frozen?_alloc_past _ _ _ hlw).trans f1)
          have hl1 : w.heap.size < w1.heap.size := by omega
          have hl2 : wr.heap.size < w1.heap.size := by omega
          clear hc1 hf1
          go_wp2_with fail
          all_goals have hR2 := HR.out
          all_goals rw [HREST.out, checkL, if_neg (by rw [hv]; decide)] at hR2
          all_goals first
            | (go_ret; rw [if_pos (by (try simp only [beq_iff_eq] at *); omega)] at hR2; exact ⟨congrArg (fun z => Ending.returned (.int .i64 z)) hR2, (by with_reducible (repeat (first | exact Gr.refl _ | assumption | apply Gr.alloc | apply Gr.drew | apply Gr.drewN | refine Gr.setCell ?_ (by first | (simp; done) | (simp; omega)) _ | refine Gr.trans ?_ (by assumption))))⟩)
            | (rw [if_neg (by (try simp only [beq_eq_false_iff_ne, ne_eq] at *); omega)] at hR2
               refine ⟨⟨j + 1, _, _, by omega, by go_num, hR2, (by with_reducible (repeat (first | exact Gr.refl _ | assumption | apply Gr.alloc | apply Gr.drew | apply Gr.drewN | refine Gr.setCell ?_ (by first | (simp; done) | (simp; omega)) _ | refine Gr.trans ?_ (by assumption)))), by simp; omega, ?_, ?_, ?_, ?_⟩, by simp [intOf]; omega⟩
               all_goals simp [World.cell?_setCell_same', World.cell?_setCell_other, c1_1, c1_2, f1_1, f1_2]
               all_goals omega)
      · have hjl : j = es.length := by omega
        have HJ := Lib.hid hjl
        clear hjl hj
        go_wp2_with fail
        go_ret
        have hR2 := HR.out
        rw [HJ.out, List.drop_length, checkL] at hR2
        exact ⟨congrArg (fun z => Ending.returned (.int .i64 z)) hR2, (by with_reducible (repeat (first | exact Gr.refl _ | assumption | apply Gr.alloc | apply Gr.drew | apply Gr.drewN | refine Gr.setCell ?_ (by first | (simp; done) | (simp; omega)) _ | refine Gr.trans ?_ (by assumption))))⟩


end Go.Proofs.Ytapginodpikijaa
