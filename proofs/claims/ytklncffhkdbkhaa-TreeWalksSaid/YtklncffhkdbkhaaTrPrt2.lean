/- Print of package tree and of its reference, walked. -/
import Derived.Test.YtklncffhkdbkhaaTrPrt
import Derived.Test.YtklncffhkdbkhaaTrChk2
namespace Go.Proofs.Ytklncffhkdbkhaa
open Go.ChangeShapes Go.WideShapes Go.ChangeAt Go.RowKit

def RS (l : List UInt8) (w : World) (e : Ending) (w' : World) : Prop := e = .returned (.string (bs l)) ∧ Gr w w'
set_option maxRecDepth 100000 in
set_option maxHeartbeats 4000000 in
theorem printP_any (m : Nat) (v : ND) (t : NT) (w : World) (hr : NRep anyB m w v t) (hl : lenF t ≤ 140737488355328) : Calls Try.prog 28 #[.agg #[.int .i64 v.k, .string (bs v.l), .string (bs v.x), .slice v.A v.n v.c, .string (bs v.e)]] w (RS (printF t) w) := by
  have hbl : ((w.alloc (.cells #[.int .i64 v.k, .string (bs v.l), .string (bs v.x), .slice v.A v.n v.c, .string (bs v.e)] 24)).alloc (.cells #[.pointer none, .slice none 0 0] 69)).heap[w.heap.size + 1]? = some (.cells #[.pointer none, .slice none 0 0] 69 (0, 0)) := by
    have h := heap_alloc_new (w.alloc (.cells #[.int .i64 v.k, .string (bs v.l), .string (bs v.x), .slice v.A v.n v.c, .string (bs v.e)] 24)) (.cells #[.pointer none, .slice none 0 0] 69)
    have hz : (w.alloc (.cells #[.int .i64 v.k, .string (bs v.l), .string (bs v.x), .slice v.A v.n v.c, .string (bs v.e)] 24)).heap.size = w.heap.size + 1 := by simp
    rwa [hz] at h
  have hbt : BT w.heap.size (w.heap.size + 1) [] ((w.alloc (.cells #[.int .i64 v.k, .string (bs v.l), .string (bs v.x), .slice v.A v.n v.c, .string (bs v.e)] 24)).alloc (.cells #[.pointer none, .slice none 0 0] 69)) := .inl ⟨by omega, _, hbl, World.ownsRow_nil _ _ _ _, by simp [Value.ownBlock]⟩
  have hG : Gr w ((w.alloc (.cells #[.int .i64 v.k, .string (bs v.l), .string (bs v.x), .slice v.A v.n v.c, .string (bs v.e)] 24)).alloc (.cells #[.pointer none, .slice none 0 0] 69)) := ((Gr.refl w).alloc _).alloc _
  have HW : Hid (Calls Try.prog 44 #[.pointer (some ⟨w.heap.size + 1, 0, none⟩), .agg #[.int .i64 v.k, .string (bs v.l), .string (bs v.x), .slice v.A v.n v.c, .string (bs v.e)]] ((w.alloc (.cells #[.int .i64 v.k, .string (bs v.l), .string (bs v.x), .slice v.A v.n v.c, .string (bs v.e)] 24)).alloc (.cells #[.pointer none, .slice none 0 0] 69)) (WritePost w.heap.size (w.heap.size + 1) (printF t) ((w.alloc (.cells #[.int .i64 v.k, .string (bs v.l), .string (bs v.x), .slice v.A v.n v.c, .string (bs v.e)] 24)).alloc (.cells #[.pointer none, .slice none 0 0] 69)))) :=
    Lib.hid (writeP_any m v t w.heap.size (w.heap.size + 1) [] _ (hr.lt.gr hG) hbt (by simp; omega) (by simpa using hl))
  clear hr hbl hbt hl
  generalize printF t = q at *
  go_enter Try.func28, Try.ntmps28
  go_wp2_with fail
  refine HW.out.mono ?_
  rintro e w1 ⟨rfl, hb1, hk1⟩
  have HB1 := Lib.hid hb1
  have hG1 : Gr w w1 := Below.trans hG hk1.bel
  clear HW hb1
  go_wp2_with fail
  refine (stringP_any w.heap.size (w.heap.size + 1) q w1 HB1.out (by have := Below.size hG1; omega)).mono ?_
  rintro e w2 ⟨rfl, hb2⟩
  go_wp2_with fail
  go_ret
  exact ⟨rfl, Below.trans hG1 hb2⟩
def PrRel (w : World) (t : NT) (n : Nat) (sv iv : Value) (wr : World) : Prop :=
  ∃ j : Nat, j ≤ n ∧ iv = .int .i64 j ∧ sv = .string (bs (t.l ++ t.x ++ printL (t.ks.take j))) ∧ Gr w wr
set_option maxRecDepth 100000 in
set_option maxHeartbeats 4000000 in
theorem printRP_any : ∀ (m : Nat) (v : ND) (t : NT) (w : World), NRep anyB m w v t → lenF t ≤ 140737488355328 → Calls Try.prog 25 #[.agg #[.int .i64 v.k, .string (bs v.l), .string (bs v.x), .slice v.A v.n v.c, .string (bs v.e)]] w (RS (printF t) w) := by
  intro m
  induction m with
  | zero => intro v t w h; exact h.elim
  | succ m ih =>
    intro v t w hr hb
    obtain ⟨A, n, c, rfl, p1, p2, p3, p4, p5, p6, p7, p8, p9⟩ := hr.open5
    have hn63 : n ≤ maxLen := Nat.le_trans p2 p3
    unfold maxLen at hn63 p3 p5 p6 p7
    have HI := Lib.hid ih
    have HN := Lib.hid p1
    have HK0 : Hid (Kids anyB m w A t.ks) := Lib.hid p9
    clear ih hr p9 p8 p4
    dsimp only
    have hle := lenF_eq t
    have hpr := printF_eq t
    have HPR := Lib.hid hpr
    have hb1 : t.l.length + t.x.length + t.e.length + lenL t.ks ≤ 140737488355328 := by omega
    have hs1 : (bs t.l).size + (bs t.x).size ≤ 9223372036854775807 := by show t.l.length + t.x.length ≤ _; omega
    have hc1 : bs t.l ++ bs t.x = bs (t.l ++ t.x) := bs_append _ _
    clear hle hb hpr
    clear p1
    go_enter Try.func25, Try.ntmps25
    go_wp2_with fail
    have hbx : (w.alloc (.cells #[.int .i64 t.k, .string (bs t.l), .string (bs t.x), .slice A n c, .string (bs t.e)] 24)).heap[w.heap.size]? = some (.cells #[.int .i64 t.k, .string (bs t.l), .string (bs t.x), .slice A n c, .string (bs t.e)] 24 (0, 0)) := heap_alloc_new _ _
    have k0 : (w.alloc (.cells #[.int .i64 t.k, .string (bs t.l), .string (bs t.x), .slice A n c, .string (bs t.e)] 24)).cell? ⟨w.heap.size, 0, none⟩ = some (.int .i64 t.k) := cell_of_cells hbx 0
    have k1 : (w.alloc (.cells #[.int .i64 t.k, .string (bs t.l), .string (bs t.x), .slice A n c, .string (bs t.e)] 24)).cell? ⟨w.heap.size, 1, none⟩ = some (.string (bs t.l)) := cell_of_cells hbx 1
    have k2 : (w.alloc (.cells #[.int .i64 t.k, .string (bs t.l), .string (bs t.x), .slice A n c, .string (bs t.e)] 24)).cell? ⟨w.heap.size, 2, none⟩ = some (.string (bs t.x)) := cell_of_cells hbx 2
    have k3 : (w.alloc (.cells #[.int .i64 t.k, .string (bs t.l), .string (bs t.x), .slice A n c, .string (bs t.e)] 24)).cell? ⟨w.heap.size, 3, none⟩ = some (.slice A n c) := cell_of_cells hbx 3
    have k4 : (w.alloc (.cells #[.int .i64 t.k, .string (bs t.l), .string (bs t.x), .slice A n c, .string (bs t.e)] 24)).cell? ⟨w.heap.size, 4, none⟩ = some (.string (bs t.e)) := cell_of_cells hbx 4
    have hG1 : Gr w (w.alloc (.cells #[.int .i64 t.k, .string (bs t.l), .string (bs t.x), .slice A n c, .string (bs t.e)] 24)) := (Gr.refl w).alloc _
    have HK : Hid (Kids anyB m (w.alloc (.cells #[.int .i64 t.k, .string (bs t.l), .string (bs t.x), .slice A n c, .string (bs t.e)] 24)) A t.ks) := Lib.hid (HK0.out.gr hG1)
    have hb0 : w.heap.size < (w.alloc (.cells #[.int .i64 t.k, .string (bs t.l), .string (bs t.x), .slice A n c, .string (bs t.e)] 24)).heap.size := by simp
    clear hbx HK0
    generalize w.alloc (.cells #[.int .i64 t.k, .string (bs t.l), .string (bs t.x), .slice A n c, .string (bs t.e)] 24) = W1 at *
    generalize w.heap.size = b0 at *
    go_loopw [3, 4] (fun sv iv wr => PrRel W1 t n sv iv wr) (fun _ iv _ => n - (intOf iv).toNat)
    case atStart => exact ⟨0, Nat.zero_le _, rfl, by simp [printL], Gr.refl _⟩
    case round =>
      obtain ⟨j, hj, rfl, rfl, hG⟩ := hrel
      by_cases hlt : j < n
      · obtain ⟨y, hy⟩ : ∃ y, t.ks[j]? = some y := ⟨t.ks[j]'(by have := HN.out; omega), List.getElem?_eq_getElem _⟩
        have HY := Lib.hid hy
        obtain ⟨bk, ok, d, hA, _, hbk, hce, hre⟩ := HK.out.gr hG j y hy
        subst hA
        clear hy
        have HE := Lib.hid hre
        obtain ⟨e0, e1, e2, e3, e4⟩ := hce
        have g0 := hG.cell k0
        have g1 := hG.cell k1
        have g2 := hG.cell k2
        have g3 := hG.cell k3
        have g4 := hG.cell k4
        have hlw : b0 < wr.heap.size := Gr.lt hG hb0
        have hlt1 : (j : Int) < (n : Int) := by omega
        clear hre
        have hg := lenL_get _ _ _ HY.out
        have hp1 := printL_len (t.ks.take j)
        have hp2 := printF_len y
        obtain ⟨X, hX⟩ : ∃ X, X = t.l ++ t.x ++ printL (t.ks.take j) := ⟨_, rfl⟩
        have hXl : X.length = t.l.length + t.x.length + lenL (t.ks.take j) := by rw [hX, List.length_append, List.length_append, hp1]
        have hs4 : (bs X).size + (bs (printF y)).size ≤ 9223372036854775807 := by show X.length + (printF y).length ≤ _; omega
        have hc4 : bs X ++ bs (printF y) = bs (X ++ printF y) := bs_append _ _
        have hst : X ++ printF y = t.l ++ t.x ++ printL (t.ks.take (j + 1)) := by
          rw [hX, take_succ_at HY.out, printL_app]
          simp [printL]
        have HST := Lib.hid hst
        rw [← hX]
        clear hst hp1 hp2 hXl hX hc1
        go_wp2_with (go_at_call 25; refine (HI.out _ y _ HE.out (by omega)).mono ?_; rintro e w2 ⟨rfl, hb2⟩)
        go_roundw
        case rel => exact ⟨j + 1, by omega, by go_num, by rw [← HST.out], (by with_reducible (repeat (first | exact Gr.refl _ | assumption | apply Gr.alloc | apply Gr.drew | apply Gr.drewN | refine Gr.setCell ?_ (by first | (simp; done) | (simp; omega)) _ | refine Gr.trans ?_ (by assumption))))⟩
        case measure => simp [intOf] <;> omega
      · have hjn : j = n := by omega
        have hp1 := printL_len t.ks
        obtain ⟨X, hX⟩ : ∃ X, X = t.l ++ t.x ++ printL (t.ks.take j) := ⟨_, rfl⟩
        have htk : t.ks.take j = t.ks := List.take_of_length_le (by have := HN.out; omega)
        have hXl : X.length = t.l.length + t.x.length + lenL t.ks := by rw [hX, htk, List.length_append, List.length_append, hp1]
        have hs4 : (bs X).size + (bs t.e).size ≤ 9223372036854775807 := by show X.length + t.e.length ≤ _; omega
        have hc4 : bs X ++ bs t.e = bs (X ++ t.e) := bs_append _ _
        have hfin : X ++ t.e = printF t := by rw [hX, htk, HPR.out]
        have HF := Lib.hid hfin
        rw [← hX]
        have g4 := hG.cell k4
        clear hfin hjn hp1 hXl hX htk hc1
        have g0 := hG.cell k0
        have g3 := hG.cell k3
        have hlw : b0 < wr.heap.size := Gr.lt hG hb0
        go_wp2_with fail
        go_ret
        exact ⟨congrArg (fun z => Ending.returned (.string (bs z))) HF.out, hG1.trans hG⟩
end Go.Proofs.Ytklncffhkdbkhaa
