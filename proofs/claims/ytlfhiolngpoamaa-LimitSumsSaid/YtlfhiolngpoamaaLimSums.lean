/- LimitSums returns true for every input: of additions to an empty usage each is accepted exactly if its sum with those accepted before it is within the limit. No condition. -/
import Derived.Test.YtlfhiolngpoamaaLimAwake
import Derived.Test.YtlfhiolngpoamaaRead
namespace Go.Proofs.Ytlfhiolngpoamaa
open Go.ChangeShapes Go.WideShapes Go.ChangeAt Go.RowKit

/-- Block B is a struct of these five ints, of type t. -/
def U5 (w : World) (B : Nat) (t : TypeId) (c0 c1 c2 c3 c4 : Int) : Prop := w.heap[B]? = some (.cells #[.int .i64 c0, .int .i64 c1, .int .i64 c2, .int .i64 c3, .int .i64 c4] t (0, 0))
theorem U5.lt {w : World} {B t : Nat} {c0 c1 c2 c3 c4 : Int} (h : U5 w B t c0 c1 c2 c3 c4) : B < w.heap.size := by
  rcases Nat.lt_or_ge B w.heap.size with hlt | hge
  · exact hlt
  · unfold U5 at h; rw [Array.getElem?_eq_none hge] at h; cases h
theorem U5.cells {w : World} {B t : Nat} {c0 c1 c2 c3 c4 : Int} (h : U5 w B t c0 c1 c2 c3 c4) :
    w.cell? ⟨B, 0, none⟩ = some (.int .i64 c0) ∧ w.cell? ⟨B, 1, none⟩ = some (.int .i64 c1) ∧ w.cell? ⟨B, 2, none⟩ = some (.int .i64 c2) ∧ w.cell? ⟨B, 3, none⟩ = some (.int .i64 c3) ∧ w.cell? ⟨B, 4, none⟩ = some (.int .i64 c4) ∧ ∀ o, w.frozen? ⟨B, o, none⟩ = false := by
  unfold U5 at h
  refine ⟨?_, ?_, ?_, ?_, ?_, fun o => ?_⟩ <;> simp [World.cell?, World.frozen?, h]
theorem U5.keep {w w' : World} {B t : Nat} {c0 c1 c2 c3 c4 : Int} (h : U5 w B t c0 c1 c2 c3 c4) (hg : Gr w w') : U5 w' B t c0 c1 c2 c3 c4 := (hg.block B h.lt).trans h
theorem U5.far {w : World} {B t : Nat} {c0 c1 c2 c3 c4 : Int} (h : U5 w B t c0 c1 c2 c3 c4) {p : Addr} (hp : B ≠ p.block) (u : Value) : U5 (w.setCell p u) B t c0 c1 c2 c3 c4 := (Below.heap_setCell w p u B hp).trans h
theorem U5.alloc {w : World} {B t : Nat} {c0 c1 c2 c3 c4 : Int} (h : U5 w B t c0 c1 c2 c3 c4) (o : Obj) : U5 (w.alloc o) B t c0 c1 c2 c3 c4 := h.keep ((Gr.refl _).alloc _)
theorem U5.new_at {w : World} {B : Nat} {t : TypeId} {c0 c1 c2 c3 c4 : Int} (hB : B = w.heap.size) : U5 (w.alloc (.cells #[.int .i64 c0, .int .i64 c1, .int .i64 c2, .int .i64 c3, .int .i64 c4] t)) B t c0 c1 c2 c3 c4 := by subst hB; exact heap_alloc_new w _
theorem U5.set5 {w : World} {B t : Nat} {c0 c1 c2 c3 c4 : Int} (h : U5 w B t c0 c1 c2 c3 c4) (d0 d1 d2 d3 d4 : Int) :
    U5 (((((w.setCell ⟨B, 0, none⟩ (.int .i64 d0)).setCell ⟨B, 1, none⟩ (.int .i64 d1)).setCell ⟨B, 2, none⟩ (.int .i64 d2)).setCell ⟨B, 3, none⟩ (.int .i64 d3)).setCell ⟨B, 4, none⟩ (.int .i64 d4)) B t d0 d1 d2 d3 d4 := by
  unfold U5 at h ⊢
  simp [World.setCell, Array.getElem?_modify, h]

theorem U5.far5 {w : World} {B t : Nat} {c0 c1 c2 c3 c4 : Int} (h : U5 w B t c0 c1 c2 c3 c4) {B' : Nat} (hp : B ≠ B') (d0 d1 d2 d3 d4 : Value) :
    U5 (((((w.setCell ⟨B', 0, none⟩ d0).setCell ⟨B', 1, none⟩ d1).setCell ⟨B', 2, none⟩ d2).setCell ⟨B', 3, none⟩ d3).setCell ⟨B', 4, none⟩ d4) B t c0 c1 c2 c3 c4 :=
  ((((h.far hp _).far hp _).far hp _).far hp _).far hp _

theorem ready_p {d n b a x : Int} (hv : validB d n b a x = true) (p k : Int) (h0 : 0 ≤ p) (h1 : p ≤ n) (hk : 0 ≤ k) : readyB d n b a x 0 p 0 0 0 k = true := by
  have hf : 1 ≤ d ∧ d ≤ 48 ∧ 1 ≤ n ∧ n ≤ 65536 ∧ 1 ≤ b ∧ b ≤ 1048576 ∧ 0 ≤ a ∧ a ≤ 1024 ∧ 0 ≤ x ∧ x ≤ 65536 := by simpa only [validB, decide_eq_true_eq] using hv
  unfold readyB withinB; rw [hv]; simp; omega
theorem ready_q {d n b a x : Int} (hv : validB d n b a x = true) (p k : Int) (h0 : 0 ≤ p) (h1 : p ≤ b) (hk : 0 ≤ k) : readyB d n b a x 0 0 p 0 0 k = true := by
  have hf : 1 ≤ d ∧ d ≤ 48 ∧ 1 ≤ n ∧ n ≤ 65536 ∧ 1 ≤ b ∧ b ≤ 1048576 ∧ 0 ≤ a ∧ a ≤ 1024 ∧ 0 ≤ x ∧ x ≤ 65536 := by simpa only [validB, decide_eq_true_eq] using hv
  unfold readyB withinB; rw [hv]; simp; omega
def SumsRel (d n b a x : Int) (Bl Bu : Nat) (w : World) (len : Nat) (s i : Value) (wr : World) : Prop :=
  ∃ (j : Nat) (p q : Int), j ≤ len ∧ i = .int .i64 j ∧ s = .int .i64 q ∧ 0 ≤ p ∧ p ≤ n ∧ 0 ≤ q ∧ q ≤ b ∧
    U5 wr Bl 23 d n b a x ∧ U5 wr Bu 24 0 p 0 0 0 ∧ U5 wr (Bu + 1) 24 0 0 q 0 0 ∧ Gr w wr

set_option maxRecDepth 100000 in
set_option maxHeartbeats 4000000 in
theorem limitSums_nv (d n b a x : Int) (A : Option Addr) (len cap : Nat) (w : World) (hv : validB d n b a x = false) :
    Calls Try.prog 7 #[.agg #[.int .i64 d, .int .i64 n, .int .i64 b, .int .i64 a, .int .i64 x], .slice A len cap] w (RB true w) := by
  go_enter Try.func7, Try.ntmps7
  go_wp2_with fail
  refine (validP_any _ _ _ _ _ _).mono ?_
  rintro e w1 ⟨rfl, hb1⟩
  obtain ⟨hc1, hf1, hs1⟩ := Gr.cells hb1
  try simp at hs1
  have l1_0 : w.heap.size < w1.heap.size := by omega
  go_wp2_with fail
  refine (awake_any _).mono ?_
  rintro e w2 ⟨rfl, hb2⟩
  obtain ⟨hc2, hf2, hs2⟩ := Gr.cells hb2
  try simp at hs2
  have l2_0 : w.heap.size < w2.heap.size := by omega
  go_wp2_with fail
  go_ret
  exact ⟨rfl, (by with_reducible (repeat (first | exact Gr.refl _ | assumption | apply Gr.alloc | apply Gr.drew | apply Gr.drewN | refine Gr.setCell ?_ (by first | (simp; done) | (simp; omega)) _ | refine Gr.trans ?_ (by assumption))))⟩

set_option maxRecDepth 100000 in
set_option maxHeartbeats 8000000 in
theorem limitSums_yes (d n b a x : Int) (A : Option Addr) (len cap : Nat) (zs : List Int) (w : World) (hA : IntsAt .u16 w A len zs) (hlen : len ≤ 9223372036854775807) (hv : validB d n b a x = true)
    (hf : 1 ≤ d ∧ d ≤ 48 ∧ 1 ≤ n ∧ n ≤ 65536 ∧ 1 ≤ b ∧ b ≤ 1048576 ∧ 0 ≤ a ∧ a ≤ 1024 ∧ 0 ≤ x ∧ x ≤ 65536) :
    Calls Try.prog 7 #[.agg #[.int .i64 d, .int .i64 n, .int .i64 b, .int .i64 a, .int .i64 x], .slice A len cap] w (RB true w) := by
  go_enter Try.func7, Try.ntmps7
  go_wp2_with fail
  refine (validP_any _ _ _ _ _ _).mono ?_
  rintro e w1 ⟨rfl, hb1⟩
  obtain ⟨hc1, hf1, hs1⟩ := Gr.cells hb1
  try simp at hs1
  have l1_0 : w.heap.size < w1.heap.size := by omega
  go_wp2_with fail
  go_loopw [7, 8] (fun s i wr => SumsRel d n b a x w.heap.size w1.heap.size w len s i wr) (fun _ i _ => len - (intOf i).toNat)
  case atStart => exact ⟨0, 0, 0, Nat.zero_le _, rfl, rfl, by omega, by omega, by omega, by omega, (((U5.new_at rfl).keep hb1).alloc _).alloc _, (U5.new_at rfl).alloc _, U5.new_at (by simp), (by with_reducible (repeat (first | exact Gr.refl _ | assumption | apply Gr.alloc | apply Gr.drew | apply Gr.drewN | refine Gr.setCell ?_ (by first | (simp; done) | (simp; omega)) _ | refine Gr.trans ?_ (by assumption))))⟩
  case round =>
    obtain ⟨j, p, q, hj, rfl, rfl, hp0, hp1, hq0, hq1, hUl, hUu, hUv, hG⟩ := hrel
    obtain ⟨cl0, cl1, cl2, cl3, cl4, _⟩ := hUl.cells
    obtain ⟨cu0, cu1, cu2, cu3, cu4, fu⟩ := hUu.cells
    obtain ⟨cv0, cv1, cv2, cv3, cv4, fv⟩ := hUv.cells
    have hBl := hUl.lt
    have hBu := hUu.lt
    have hBv := hUv.lt
    have hne1 : w.heap.size < w1.heap.size := by omega
    have HUl := Lib.hid hUl
    have HUu := Lib.hid hUu
    have HUv := Lib.hid hUv
    clear hUl hUu hUv
    by_cases hlt : j < len
    · by_cases h60 : (j : Int) < 60
      · obtain ⟨bb, off, rfl, hbb, hcs⟩ := (hA.keep hG).2.2 (by omega)
        have hcell := hcs j hlt
        have hwf : 0 ≤ zs.getD j 0 ∧ zs.getD j 0 ≤ 65535 := by
          have h1 := hA.2.1 (zs.getD j 0) (by rw [List.getD_eq_getElem?_getD, List.getElem?_eq_getElem (by rw [hA.1]; exact hlt)]; simp)
          simpa [Lit.wf, IntKind.min, IntKind.max, IntKind.signed, IntKind.bits] using h1
        clear hcs hA
        generalize zs.getD j 0 = z at hcell hwf
        have hm0 : 0 ≤ z % 2001 := by omega
        have hm1 : z % 2001 ≤ 2000 := by omega
        have rp := ready_p hv p (z % 2001) hp0 hp1 hm0
        have rq := ready_q hv q (z % 2001) hq0 hq1 hm0
        have HP := Lib.hid rp
        have HQ := Lib.hid rq
        clear rp rq
        by_cases hx : n - p < z % 2001
        · by_cases hy : b - q < z % 2001
          · have hxB : decide (p + z % 2001 ≤ n) = false := by simp; omega
            have hyB : decide (q + z % 2001 ≤ b) = false := by simp; omega
            go_wp2_with fail
            refine (nodeP_c d n b a x 0 p 0 0 0 (z % 2001) _ HP.out (ready_facts HP.out) (by omega)).mono ?_
            rintro e w2 ⟨rfl, hb2⟩
            obtain ⟨hc2, hf2, hs2⟩ := Gr.cells hb2
            try simp at hs2
            have l2_0 : w.heap.size < w2.heap.size := by omega
            have l2_1 : w1.heap.size < w2.heap.size := by omega
            have l2_2 : w1.heap.size + 1 < w2.heap.size := by omega
            go_wp2_with fail
            refine (bytesP_c d n b a x 0 0 q 0 0 (z % 2001) _ HQ.out (ready_facts HQ.out) (by omega)).mono ?_
            rintro e w3 ⟨rfl, hb3⟩
            obtain ⟨hc3, hf3, hs3⟩ := Gr.cells hb3
            try simp at hs3
            have l3_0 : w.heap.size < w3.heap.size := by omega
            have l3_1 : w1.heap.size < w3.heap.size := by omega
            have l3_2 : w1.heap.size + 1 < w3.heap.size := by omega
            have l3_3 : w2.heap.size < w3.heap.size := by omega
            go_wp2_with fail
            go_roundw
            case rel =>
              refine ⟨j + 1, p, q, by omega, by go_num, rfl, by omega, by omega, by omega, by omega, ((((HUl.out.keep hb2).alloc _).keep hb3).alloc _), ((((HUu.out.keep hb2).alloc _).keep hb3).alloc _), ((((HUv.out.keep hb2).alloc _).keep hb3).alloc _), (by with_reducible (repeat (first | exact Gr.refl _ | assumption | apply Gr.alloc | apply Gr.drew | apply Gr.drewN | refine Gr.setCell ?_ (by first | (simp; done) | (simp; omega)) _ | refine Gr.trans ?_ (by assumption))))⟩
            case measure => simp [intOf]; omega
          · have hxB : decide (p + z % 2001 ≤ n) = false := by simp; omega
            have hyB : decide (q + z % 2001 ≤ b) = true := by simp; omega
            go_wp2_with fail
            refine (nodeP_c d n b a x 0 p 0 0 0 (z % 2001) _ HP.out (ready_facts HP.out) (by omega)).mono ?_
            rintro e w2 ⟨rfl, hb2⟩
            obtain ⟨hc2, hf2, hs2⟩ := Gr.cells hb2
            try simp at hs2
            have l2_0 : w.heap.size < w2.heap.size := by omega
            have l2_1 : w1.heap.size < w2.heap.size := by omega
            have l2_2 : w1.heap.size + 1 < w2.heap.size := by omega
            go_wp2_with fail
            refine (bytesP_d d n b a x 0 0 q 0 0 (z % 2001) _ HQ.out (ready_facts HQ.out) (by omega)).mono ?_
            rintro e w3 ⟨rfl, hb3⟩
            obtain ⟨hc3, hf3, hs3⟩ := Gr.cells hb3
            try simp at hs3
            have l3_0 : w.heap.size < w3.heap.size := by omega
            have l3_1 : w1.heap.size < w3.heap.size := by omega
            have l3_2 : w1.heap.size + 1 < w3.heap.size := by omega
            have l3_3 : w2.heap.size < w3.heap.size := by omega
            go_wp2_with fail
            go_roundw
            case rel =>
              refine ⟨j + 1, p, q + z % 2001, by omega, by go_num, rfl, by omega, by omega, by omega, by omega, (((((HUl.out.keep hb2).alloc _).keep hb3).far5 (by omega) _ _ _ _ _).alloc _), (((((HUu.out.keep hb2).alloc _).keep hb3).far5 (by omega) _ _ _ _ _).alloc _), (((((HUv.out.keep hb2).alloc _).keep hb3).set5 _ _ _ _ _).alloc _), (by with_reducible (repeat (first | exact Gr.refl _ | assumption | apply Gr.alloc | apply Gr.drew | apply Gr.drewN | refine Gr.setCell ?_ (by first | (simp; done) | (simp; omega)) _ | refine Gr.trans ?_ (by assumption))))⟩
            case measure => simp [intOf]; omega
        · by_cases hy : b - q < z % 2001
          · have hxB : decide (p + z % 2001 ≤ n) = true := by simp; omega
            have hyB : decide (q + z % 2001 ≤ b) = false := by simp; omega
            go_wp2_with fail
            refine (nodeP_d d n b a x 0 p 0 0 0 (z % 2001) _ HP.out (ready_facts HP.out) (by omega)).mono ?_
            rintro e w2 ⟨rfl, hb2⟩
            obtain ⟨hc2, hf2, hs2⟩ := Gr.cells hb2
            try simp at hs2
            have l2_0 : w.heap.size < w2.heap.size := by omega
            have l2_1 : w1.heap.size < w2.heap.size := by omega
            have l2_2 : w1.heap.size + 1 < w2.heap.size := by omega
            go_wp2_with fail
            refine (bytesP_c d n b a x 0 0 q 0 0 (z % 2001) _ HQ.out (ready_facts HQ.out) (by omega)).mono ?_
            rintro e w3 ⟨rfl, hb3⟩
            obtain ⟨hc3, hf3, hs3⟩ := Gr.cells hb3
            try simp at hs3
            have l3_0 : w.heap.size < w3.heap.size := by omega
            have l3_1 : w1.heap.size < w3.heap.size := by omega
            have l3_2 : w1.heap.size + 1 < w3.heap.size := by omega
            have l3_3 : w2.heap.size < w3.heap.size := by omega
            go_wp2_with fail
            go_roundw
            case rel =>
              refine ⟨j + 1, p + z % 2001, q, by omega, by go_num, rfl, by omega, by omega, by omega, by omega, (((((HUl.out.keep hb2).alloc _).keep hb3).far5 (by omega) _ _ _ _ _).alloc _), (((((HUu.out.keep hb2).alloc _).keep hb3).set5 _ _ _ _ _).alloc _), (((((HUv.out.keep hb2).alloc _).keep hb3).far5 (by omega) _ _ _ _ _).alloc _), (by with_reducible (repeat (first | exact Gr.refl _ | assumption | apply Gr.alloc | apply Gr.drew | apply Gr.drewN | refine Gr.setCell ?_ (by first | (simp; done) | (simp; omega)) _ | refine Gr.trans ?_ (by assumption))))⟩
            case measure => simp [intOf]; omega
          · have hxB : decide (p + z % 2001 ≤ n) = true := by simp; omega
            have hyB : decide (q + z % 2001 ≤ b) = true := by simp; omega
            go_wp2_with fail
            refine (nodeP_d d n b a x 0 p 0 0 0 (z % 2001) _ HP.out (ready_facts HP.out) (by omega)).mono ?_
            rintro e w2 ⟨rfl, hb2⟩
            obtain ⟨hc2, hf2, hs2⟩ := Gr.cells hb2
            try simp at hs2
            have l2_0 : w.heap.size < w2.heap.size := by omega
            have l2_1 : w1.heap.size < w2.heap.size := by omega
            have l2_2 : w1.heap.size + 1 < w2.heap.size := by omega
            go_wp2_with fail
            refine (bytesP_d d n b a x 0 0 q 0 0 (z % 2001) _ HQ.out (ready_facts HQ.out) (by omega)).mono ?_
            rintro e w3 ⟨rfl, hb3⟩
            obtain ⟨hc3, hf3, hs3⟩ := Gr.cells hb3
            try simp at hs3
            have l3_0 : w.heap.size < w3.heap.size := by omega
            have l3_1 : w1.heap.size < w3.heap.size := by omega
            have l3_2 : w1.heap.size + 1 < w3.heap.size := by omega
            have l3_3 : w2.heap.size < w3.heap.size := by omega
            go_wp2_with fail
            go_roundw
            case rel =>
              refine ⟨j + 1, p + z % 2001, q + z % 2001, by omega, by go_num, rfl, by omega, by omega, by omega, by omega, ((((((HUl.out.keep hb2).alloc _).keep hb3).far5 (by omega) _ _ _ _ _).far5 (by omega) _ _ _ _ _).alloc _), ((((((HUu.out.keep hb2).alloc _).keep hb3).set5 _ _ _ _ _).far5 (by omega) _ _ _ _ _).alloc _), ((((((HUv.out.keep hb2).alloc _).keep hb3).far5 (by omega) _ _ _ _ _).set5 _ _ _ _ _).alloc _), (by with_reducible (repeat (first | exact Gr.refl _ | assumption | apply Gr.alloc | apply Gr.drew | apply Gr.drewN | refine Gr.setCell ?_ (by first | (simp; done) | (simp; omega)) _ | refine Gr.trans ?_ (by assumption))))⟩
            case measure => simp [intOf]; omega
      · go_wp2_with (go_at_call 13; refine (awake_any _).mono ?_; rintro e w9 ⟨rfl, hb9⟩)
        go_ret
        exact ⟨rfl, (by with_reducible (repeat (first | exact Gr.refl _ | assumption | apply Gr.alloc | apply Gr.drew | apply Gr.drewN | refine Gr.setCell ?_ (by first | (simp; done) | (simp; omega)) _ | refine Gr.trans ?_ (by assumption))))⟩
    · go_wp2_with (go_at_call 13; refine (awake_any _).mono ?_; rintro e w9 ⟨rfl, hb9⟩)
      go_ret
      exact ⟨rfl, (by with_reducible (repeat (first | exact Gr.refl _ | assumption | apply Gr.alloc | apply Gr.drew | apply Gr.drewN | refine Gr.setCell ?_ (by first | (simp; done) | (simp; omega)) _ | refine Gr.trans ?_ (by assumption))))⟩

theorem limitSums_any (d n b a x : Int) (A : Option Addr) (len cap : Nat) (zs : List Int) (w : World) (hA : IntsAt .u16 w A len zs) (hlen : len ≤ 9223372036854775807) :
    Calls Try.prog 7 #[.agg #[.int .i64 d, .int .i64 n, .int .i64 b, .int .i64 a, .int .i64 x], .slice A len cap] w (RB true w) := by
  by_cases hv : validB d n b a x = true
  · exact limitSums_yes d n b a x A len cap zs w hA hlen hv (by simpa only [validB, decide_eq_true_eq] using hv)
  · exact limitSums_nv d n b a x A len cap w (by simpa using hv)

namespace LimitSums
set_option maxRecDepth 100000 in
theorem lifted (os : Os) (started : os.Started) (H : Type) (enc : TypeId × Value → H) :
    ReturnsInHanded {} Try.checked os 7 .any (Rows.limitSumsSpec.pre6 enc Try.prog Try.f7 Rows.limitSumsRow.domain false) (Rows.limitSumsSpec.post enc Try.prog Try.f7 false true false false) := by
  refine law_lifted (C := Try.checked) (tb := 4) own started (by kernel_rfl) Try.func7 laidOut rfl rfl Try.underlying4 (by kernel_rfl) ?_
    (ChangeSpec.witness6 (enc := enc) (C := Try.checked) false ⟨#[], #[.agg #[.int .i64 0, .int .i64 0, .int .i64 0, .int .i64 0, .int .i64 0], .slice none 0 0], []⟩ 8 (by kernel_rfl) (by kernel_rfl) (by kernel_rfl) (by kernel_rfl)) ?_
  · intro ds hl
    match ds, hl with
    | [_, _], _ => rfl
  · intro W base args ds ps hval0 hA0 hlt
    have hval : ∀ (j : Nat) t v, Try.f7.params[j]? = some t → args[j]? = some v → Value.okWide Try.prog W .any base t v := hval0
    have hA : DataW.TrodAll enc Try.prog W 0 (fun _ => true) true Try.f7.params.toList args.toList ds ps := hA0
    rw [Try.params7] at hA hval
    obtain ⟨v0, v1, d0, d1, p0, p1, rfl, rfl, rfl, h0, h1⟩ := trodAll_two hA
    obtain ⟨d, n, b, a, x, rfl, wL⟩ := open_int5 Try.underlying23 Try.underlying3 (by kernel_rfl) (hval 0 23 v0 rfl rfl) h0
    obtain ⟨A, len, cap, rfl⟩ := okWide_slice Try.underlying39 (hval 1 39 v1 rfl rfl)
    obtain ⟨m, hr⟩ := Rd.of_trod h1
    obtain ⟨A', len', cap', zs, hcs, hlc, hcm, hA'⟩ := rd_intslice Try.underlying39 Try.underlying40 (by kernel_rfl) hr
    simp only [Value.cells, List.cons.injEq, Value.slice.injEq, and_true] at hcs
    obtain ⟨rfl, rfl, rfl⟩ := hcs
    exact limitSums_any d n b a x A len cap zs W hA' (by unfold maxLen at hcm; omega)

theorem proved : Rows.LimitSumsSaid :=
  OpenClaim.holds_of_wide 7 Try.f7 rfl rfl rfl rfl rfl rfl rfl ⟨rfl, rfl, rfl, rfl, rfl⟩ rfl rfl rfl rfl rfl (by kernel_rfl) Try.func7 (by kernel_rfl)
    (of_decide_eq_true (by kernel_rfl)) (by unfold Func.isWrapper; first | (rw [if_pos (by decide +kernel)]; kernel_rfl) | (rw [if_neg (by decide +kernel)]; exact ⟨rfl, rfl⟩))
    (fun os started H enc _ => lifted os started H enc)
end LimitSums

end Go.Proofs.Ytlfhiolngpoamaa
