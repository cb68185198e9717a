/- Recursions over trees, walked: length, nesting, number of nodes, and whether a tree is small. -/
import Derived.Test.YtbfnmgiccbdglaaTrOpen
import Derived.Test.YtbfnmgiccbdglaaQb
namespace Go.Proofs.Ytbfnmgiccbdglaa
open Go.ChangeShapes Go.WideShapes Go.ChangeAt Go.RowKit

theorem cell_of_cells {w : World} {b : Nat} {cs : Array Value} {t : TypeId} (h : w.heap[b]? = some (.cells cs t (0, 0))) (o : Nat) : w.cell? ⟨b, o, none⟩ = cs[o]? := by simp [World.cell?, h]
/-- The node's five cells lie in this box. -/
def Box5 (W : World) (b : Nat) (t : NT) (A : Option Addr) (n c : Nat) : Prop := NCells W b 0 ⟨t.k, t.l, t.x, A, n, c, t.e⟩
/-- A node, opened for a walk: m levels below it. -/
theorem NRep.open5 {P : Nat → Prop} {m : Nat} {W : World} {v : ND} {t : NT} (h : NRep P (m + 1) W v t) : ∃ A n c, v = ⟨t.k, t.l, t.x, A, n, c, t.e⟩ ∧ n = t.ks.length ∧ n ≤ c ∧ c ≤ maxLen ∧ (Lit.int .i64 t.k).wf = true ∧ t.l.length ≤ maxLen ∧ t.x.length ≤ maxLen ∧ t.e.length ≤ maxLen ∧ (A = none → c = 0) ∧
    (∀ (i : Nat) (y : NT), t.ks[i]? = some y → ∃ (b o : Nat) (d : ND), A = some ⟨b, o, none⟩ ∧ P b ∧ b < W.heap.size ∧ NCells W b (o + i * 5) d ∧ NRep P m W d y) := by
  obtain ⟨m', hm, h1, h2, h3, h4, h5, h6, h7, h8, h9, h10, h11, h12, h13⟩ := h.parts
  obtain rfl : m = m' := by omega
  obtain ⟨k, l, x, A, n, c, e⟩ := v
  simp only at h1 h2 h3 h4 h5 h6 h7 h12 h13
  subst h1 h2 h3 h4
  exact ⟨A, n, c, rfl, h5, h6, h7, h8, h9, h10, h11, h12, h13⟩
/-- The kids of a node, for a walk. -/
def Kids (P : Nat → Prop) (m : Nat) (W : World) (A : Option Addr) (ks : List NT) : Prop := ∀ (i : Nat) (y : NT), ks[i]? = some y → ∃ (b o : Nat) (d : ND), A = some ⟨b, o, none⟩ ∧ P b ∧ b < W.heap.size ∧ NCells W b (o + i * 5) d ∧ NRep P m W d y
theorem Kids.gr {P : Nat → Prop} {m : Nat} {W w : World} {A : Option Addr} {ks : List NT} (h : Kids P m W A ks) (hg : Gr W w) : Kids P m w A ks := fun i y hy => by
  obtain ⟨b, o, d, ha, hp, hb, hc, hr⟩ := h i y hy
  exact ⟨b, o, d, ha, hp, Gr.lt hg hb, hc.keep (hg.on P) hp hb, hr.gr hg⟩
def LenRel (w : World) (t : NT) (n : Nat) (sv iv : Value) (wr : World) : Prop :=
  ∃ j : Nat, j ≤ n ∧ iv = .int .i64 j ∧ sv = .int .i64 (t.l.length + t.x.length + t.e.length + lenL (t.ks.take j) : Nat) ∧ Gr w wr
def CountRel (w : World) (t : NT) (n : Nat) (sv iv : Value) (wr : World) : Prop :=
  ∃ j : Nat, j ≤ n ∧ iv = .int .i64 j ∧ sv = .int .i64 (1 + countL (t.ks.take j) : Nat) ∧ Gr w wr
def DepthRel (w : World) (t : NT) (n : Nat) (sv iv : Value) (wr : World) : Prop :=
  ∃ j : Nat, j ≤ n ∧ iv = .int .i64 j ∧ sv = .int .i64 (depthL (t.ks.take j) : Nat) ∧ Gr w wr
theorem depthL_app : ∀ a b : List NT, depthL (a ++ b) = max (depthL a) (depthL b)
  | [], b => by simp [depthL]
  | y :: a, b => by rw [List.cons_append, depthL, depthL, depthL_app a b]; omega
theorem depthL_take (l : List NT) (i : Nat) : depthL (l.take i) ≤ depthL l := by
  have := depthL_app (l.take i) (l.drop i)
  rw [List.take_append_drop] at this
  omega
set_option maxRecDepth 100000 in
set_option maxHeartbeats 4000000 in
theorem leafP_any (k : Int) (w : World) : Calls Try.prog 58 #[.int .i64 k] w (RB (leafB k) w) := by
  by_cases h1 : k = 2
  · subst h1
    go_enter Try.func58, Try.ntmps58
    go_wp2_with fail
    all_goals (go_ret; exact ⟨rfl, Gr.refl _⟩)
  by_cases h2 : k = 6
  · subst h2
    go_enter Try.func58, Try.ntmps58
    go_wp2_with fail
    all_goals (go_ret; exact ⟨rfl, Gr.refl _⟩)
  by_cases h3 : k = 10
  · subst h3
    go_enter Try.func58, Try.ntmps58
    go_wp2_with fail
    all_goals (go_ret; exact ⟨rfl, Gr.refl _⟩)
  by_cases h4 : k = 11
  · subst h4
    go_enter Try.func58, Try.ntmps58
    go_wp2_with fail
    all_goals (go_ret; exact ⟨rfl, Gr.refl _⟩)
  have hr : leafB k = false := decide_eq_false (by omega)
  have e1 : (k == 2) = false := by simpa using h1
  have e2 : (k == 6) = false := by simpa using h2
  have e3 : (k == 10) = false := by simpa using h3
  have e4 : (k == 11) = false := by simpa using h4
  rw [hr]
  go_enter Try.func58, Try.ntmps58
  go_wp2_with fail
  all_goals (go_ret; exact ⟨rfl, Gr.refl _⟩)
set_option maxRecDepth 100000 in
set_option maxHeartbeats 4000000 in
theorem leafRP_any (k : Int) (w : World) : Calls Try.prog 59 #[.int .i64 k] w (RB (leafB k) w) := by
  by_cases h1 : k = 2
  · subst h1
    go_enter Try.func59, Try.ntmps59
    go_wp2_with fail
    all_goals (go_ret; exact ⟨rfl, Gr.refl _⟩)
  by_cases h2 : k = 6
  · subst h2
    go_enter Try.func59, Try.ntmps59
    go_wp2_with fail
    all_goals (go_ret; exact ⟨rfl, Gr.refl _⟩)
  by_cases h3 : k = 10
  · subst h3
    go_enter Try.func59, Try.ntmps59
    go_wp2_with fail
    all_goals (go_ret; exact ⟨rfl, Gr.refl _⟩)
  by_cases h4 : k = 11
  · subst h4
    go_enter Try.func59, Try.ntmps59
    go_wp2_with fail
    all_goals (go_ret; exact ⟨rfl, Gr.refl _⟩)
  have hr : leafB k = false := decide_eq_false (by omega)
  have e1 : (k == 2) = false := by simpa using h1
  have e2 : (k == 6) = false := by simpa using h2
  have e3 : (k == 10) = false := by simpa using h3
  have e4 : (k == 11) = false := by simpa using h4
  rw [hr]
  go_enter Try.func59, Try.ntmps59
  go_wp2_with fail
  all_goals (go_ret; exact ⟨rfl, Gr.refl _⟩)
set_option maxRecDepth 100000 in
set_option maxHeartbeats 4000000 in
theorem lenP_any : ∀ (m : Nat) (v : ND) (t : NT) (w : World), NRep anyB m w v t → lenF t ≤ 1152921504606846976 → Calls Try.prog 51 #[.agg #[.int .i64 v.k, .string (bs v.l), .string (bs v.x), .slice v.A v.n v.c, .string (bs v.e)]] w (RI (lenF t) w) := by
  intro m
  induction m with
  | zero => intro v t w h; exact h.elim
  | succ m ih =>
    intro v t w hr hb
    obtain ⟨A, n, c, rfl, p1, p2, p3, p4, p5, p6, p7, p8, p9⟩ := hr.open5
    have hn63 : n ≤ maxLen := Nat.le_trans p2 p3
    unfold maxLen at hn63 p3 p5 p6 p7
    have HI := Lib.hid ih
    have HN := Lib.hid p1
    have HK0 : Hid (Kids anyB m w A t.ks) := Lib.hid p9
    clear ih hr p9 p8 p4
    dsimp only
    have hle := lenF_eq t
    have hs1 : ((bs t.l).size : Int) = t.l.length := rfl
    have hs2 : ((bs t.x).size : Int) = t.x.length := rfl
    have hs3 : ((bs t.e).size : Int) = t.e.length := rfl
    have HLE := Lib.hid hle
    have hb1 : t.l.length + t.x.length + t.e.length + lenL t.ks ≤ 1152921504606846976 := by omega
    clear hle hb
    clear p1
    go_enter Try.func51, Try.ntmps51
    go_wp2_with fail
    have hbx : (w.alloc (.cells #[.int .i64 t.k, .string (bs t.l), .string (bs t.x), .slice A n c, .string (bs t.e)] 24)).heap[w.heap.size]? = some (.cells #[.int .i64 t.k, .string (bs t.l), .string (bs t.x), .slice A n c, .string (bs t.e)] 24 (0, 0)) := heap_alloc_new _ _
    have k0 : (w.alloc (.cells #[.int .i64 t.k, .string (bs t.l), .string (bs t.x), .slice A n c, .string (bs t.e)] 24)).cell? ⟨w.heap.size, 0, none⟩ = some (.int .i64 t.k) := cell_of_cells hbx 0
    have k1 : (w.alloc (.cells #[.int .i64 t.k, .string (bs t.l), .string (bs t.x), .slice A n c, .string (bs t.e)] 24)).cell? ⟨w.heap.size, 1, none⟩ = some (.string (bs t.l)) := cell_of_cells hbx 1
    have k2 : (w.alloc (.cells #[.int .i64 t.k, .string (bs t.l), .string (bs t.x), .slice A n c, .string (bs t.e)] 24)).cell? ⟨w.heap.size, 2, none⟩ = some (.string (bs t.x)) := cell_of_cells hbx 2
    have k3 : (w.alloc (.cells #[.int .i64 t.k, .string (bs t.l), .string (bs t.x), .slice A n c, .string (bs t.e)] 24)).cell? ⟨w.heap.size, 3, none⟩ = some (.slice A n c) := cell_of_cells hbx 3
    have k4 : (w.alloc (.cells #[.int .i64 t.k, .string (bs t.l), .string (bs t.x), .slice A n c, .string (bs t.e)] 24)).cell? ⟨w.heap.size, 4, none⟩ = some (.string (bs t.e)) := cell_of_cells hbx 4
    have hG1 : Gr w (w.alloc (.cells #[.int .i64 t.k, .string (bs t.l), .string (bs t.x), .slice A n c, .string (bs t.e)] 24)) := (Gr.refl w).alloc _
    have HK : Hid (Kids anyB m (w.alloc (.cells #[.int .i64 t.k, .string (bs t.l), .string (bs t.x), .slice A n c, .string (bs t.e)] 24)) A t.ks) := Lib.hid (HK0.out.gr hG1)
    have hb0 : w.heap.size < (w.alloc (.cells #[.int .i64 t.k, .string (bs t.l), .string (bs t.x), .slice A n c, .string (bs t.e)] 24)).heap.size := by simp
    clear hbx HK0
    generalize w.alloc (.cells #[.int .i64 t.k, .string (bs t.l), .string (bs t.x), .slice A n c, .string (bs t.e)] 24) = W1 at *
    generalize w.heap.size = b0 at *
    go_loopw [3, 20] (fun sv iv wr => LenRel W1 t n sv iv wr) (fun _ iv _ => n - (intOf iv).toNat)
    case atStart => exact ⟨0, Nat.zero_le _, rfl, by simp [lenL], Gr.refl _⟩
    case round =>
      obtain ⟨j, hj, rfl, rfl, hG⟩ := hrel
      by_cases hlt : j < n
      · obtain ⟨y, hy⟩ : ∃ y, t.ks[j]? = some y := ⟨t.ks[j]'(by have := HN.out; omega), List.getElem?_eq_getElem _⟩
        have HY := Lib.hid hy
        obtain ⟨bk, ok, d, hA, _, hbk, hce, hre⟩ := HK.out.gr hG j y hy
        subst hA
        clear hy
        have HE := Lib.hid hre
        obtain ⟨e0, e1, e2, e3, e4⟩ := hce
        have g0 := hG.cell k0
        have g1 := hG.cell k1
        have g2 := hG.cell k2
        have g3 := hG.cell k3
        have g4 := hG.cell k4
        have hlw : b0 < wr.heap.size := Gr.lt hG hb0
        have hlt1 : (j : Int) < (n : Int) := by omega
        clear hre
        have hg := lenL_get _ _ _ HY.out
        have hst : lenL (t.ks.take (j + 1)) = lenL (t.ks.take j) + lenF y := by
          rw [take_succ_at HY.out, lenL_app]
          simp [lenL]
        have HST := Lib.hid hst
        clear hst
        go_wp2_with (go_at_call 51; refine (HI.out _ y _ ((HE.out).gr ((Gr.refl _).alloc _)) (by omega)).mono ?_; rintro e w2 ⟨rfl, hb2⟩)
        go_roundw
        case rel => exact ⟨j + 1, by omega, by go_num, by rw [HST.out]; go_num, (by with_reducible (repeat (first | exact Gr.refl _ | assumption | apply Gr.alloc | apply Gr.drew | apply Gr.drewN | refine Gr.setCell ?_ (by first | (simp; done) | (simp; omega)) _ | refine Gr.trans ?_ (by assumption))))⟩
        case measure => simp [intOf] <;> omega
      · have hjn : j = n := by omega
        have hfin : t.l.length + t.x.length + t.e.length + lenL (t.ks.take j) = lenF t := by
          rw [HLE.out, List.take_of_length_le (by have := HN.out; omega)]
        have HF := Lib.hid hfin
        clear hfin hjn
        have g0 := hG.cell k0
        have g3 := hG.cell k3
        have hlw : b0 < wr.heap.size := Gr.lt hG hb0
        go_wp2_with fail
        go_ret
        exact ⟨ret_int (by rw [HF.out]), hG1.trans hG⟩
set_option maxRecDepth 100000 in
set_option maxHeartbeats 4000000 in
theorem lenRP_any : ∀ (m : Nat) (v : ND) (t : NT) (w : World), NRep anyB m w v t → lenF t ≤ 1152921504606846976 → Calls Try.prog 41 #[.agg #[.int .i64 v.k, .string (bs v.l), .string (bs v.x), .slice v.A v.n v.c, .string (bs v.e)]] w (RI (lenF t) w) := by
  intro m
  induction m with
  | zero => intro v t w h; exact h.elim
  | succ m ih =>
    intro v t w hr hb
    obtain ⟨A, n, c, rfl, p1, p2, p3, p4, p5, p6, p7, p8, p9⟩ := hr.open5
    have hn63 : n ≤ maxLen := Nat.le_trans p2 p3
    unfold maxLen at hn63 p3 p5 p6 p7
    have HI := Lib.hid ih
    have HN := Lib.hid p1
    have HK0 : Hid (Kids anyB m w A t.ks) := Lib.hid p9
    clear ih hr p9 p8 p4
    dsimp only
    have hle := lenF_eq t
    have hs1 : ((bs t.l).size : Int) = t.l.length := rfl
    have hs2 : ((bs t.x).size : Int) = t.x.length := rfl
    have hs3 : ((bs t.e).size : Int) = t.e.length := rfl
    have HLE := Lib.hid hle
    have hb1 : t.l.length + t.x.length + t.e.length + lenL t.ks ≤ 1152921504606846976 := by omega
    clear hle hb
    clear p1
    go_enter Try.func41, Try.ntmps41
    go_wp2_with fail
    have hbx : (w.alloc (.cells #[.int .i64 t.k, .string (bs t.l), .string (bs t.x), .slice A n c, .string (bs t.e)] 24)).heap[w.heap.size]? = some (.cells #[.int .i64 t.k, .string (bs t.l), .string (bs t.x), .slice A n c, .string (bs t.e)] 24 (0, 0)) := heap_alloc_new _ _
    have k0 : (w.alloc (.cells #[.int .i64 t.k, .string (bs t.l), .string (bs t.x), .slice A n c, .string (bs t.e)] 24)).cell? ⟨w.heap.size, 0, none⟩ = some (.int .i64 t.k) := cell_of_cells hbx 0
    have k1 : (w.alloc (.cells #[.int .i64 t.k, .string (bs t.l), .string (bs t.x), .slice A n c, .string (bs t.e)] 24)).cell? ⟨w.heap.size, 1, none⟩ = some (.string (bs t.l)) := cell_of_cells hbx 1
    have k2 : (w.alloc (.cells #[.int .i64 t.k, .string (bs t.l), .string (bs t.x), .slice A n c, .string (bs t.e)] 24)).cell? ⟨w.heap.size, 2, none⟩ = some (.string (bs t.x)) := cell_of_cells hbx 2
    have k3 : (w.alloc (.cells #[.int .i64 t.k, .string (bs t.l), .string (bs t.x), .slice A n c, .string (bs t.e)] 24)).cell? ⟨w.heap.size, 3, none⟩ = some (.slice A n c) := cell_of_cells hbx 3
    have k4 : (w.alloc (.cells #[.int .i64 t.k, .string (bs t.l), .string (bs t.x), .slice A n c, .string (bs t.e)] 24)).cell? ⟨w.heap.size, 4, none⟩ = some (.string (bs t.e)) := cell_of_cells hbx 4
    have hG1 : Gr w (w.alloc (.cells #[.int .i64 t.k, .string (bs t.l), .string (bs t.x), .slice A n c, .string (bs t.e)] 24)) := (Gr.refl w).alloc _
    have HK : Hid (Kids anyB m (w.alloc (.cells #[.int .i64 t.k, .string (bs t.l), .string (bs t.x), .slice A n c, .string (bs t.e)] 24)) A t.ks) := Lib.hid (HK0.out.gr hG1)
    have hb0 : w.heap.size < (w.alloc (.cells #[.int .i64 t.k, .string (bs t.l), .string (bs t.x), .slice A n c, .string (bs t.e)] 24)).heap.size := by simp
    clear hbx HK0
    generalize w.alloc (.cells #[.int .i64 t.k, .string (bs t.l), .string (bs t.x), .slice A n c, .string (bs t.e)] 24) = W1 at *
    generalize w.heap.size = b0 at *
    go_loopw [3, 4] (fun sv iv wr => LenRel W1 t n sv iv wr) (fun _ iv _ => n - (intOf iv).toNat)
    case atStart => exact ⟨0, Nat.zero_le _, rfl, by simp [lenL], Gr.refl _⟩
    case round =>
      obtain ⟨j, hj, rfl, rfl, hG⟩ := hrel
      by_cases hlt : j < n
      · obtain ⟨y, hy⟩ : ∃ y, t.ks[j]? = some y := ⟨t.ks[j]'(by have := HN.out; omega), List.getElem?_eq_getElem _⟩
        have HY := Lib.hid hy
        obtain ⟨bk, ok, d, hA, _, hbk, hce, hre⟩ := HK.out.gr hG j y hy
        subst hA
        clear hy
        have HE := Lib.hid hre
        obtain ⟨e0, e1, e2, e3, e4⟩ := hce
        have g0 := hG.cell k0
        have g1 := hG.cell k1
        have g2 := hG.cell k2
        have g3 := hG.cell k3
        have g4 := hG.cell k4
        have hlw : b0 < wr.heap.size := Gr.lt hG hb0
        have hlt1 : (j : Int) < (n : Int) := by omega
        clear hre
        have hg := lenL_get _ _ _ HY.out
        have hst : lenL (t.ks.take (j + 1)) = lenL (t.ks.take j) + lenF y := by
          rw [take_succ_at HY.out, lenL_app]
          simp [lenL]
        have HST := Lib.hid hst
        clear hst
        go_wp2_with (go_at_call 41; refine (HI.out _ y _ HE.out (by omega)).mono ?_; rintro e w2 ⟨rfl, hb2⟩)
        go_roundw
        case rel => exact ⟨j + 1, by omega, by go_num, by rw [HST.out]; go_num, (by with_reducible (repeat (first | exact Gr.refl _ | assumption | apply Gr.alloc | apply Gr.drew | apply Gr.drewN | refine Gr.setCell ?_ (by first | (simp; done) | (simp; omega)) _ | refine Gr.trans ?_ (by assumption))))⟩
        case measure => simp [intOf] <;> omega
      · have hjn : j = n := by omega
        have hfin : t.l.length + t.x.length + t.e.length + lenL (t.ks.take j) = lenF t := by
          rw [HLE.out, List.take_of_length_le (by have := HN.out; omega)]
        have HF := Lib.hid hfin
        clear hfin hjn
        have g0 := hG.cell k0
        have g3 := hG.cell k3
        have hlw : b0 < wr.heap.size := Gr.lt hG hb0
        go_wp2_with fail
        go_ret
        exact ⟨ret_int (by rw [HF.out]), hG1.trans hG⟩
set_option maxRecDepth 100000 in
set_option maxHeartbeats 4000000 in
theorem countRP_any : ∀ (m : Nat) (v : ND) (t : NT) (w : World), NRep anyB m w v t → countF t ≤ 1152921504606846976 → Calls Try.prog 40 #[.agg #[.int .i64 v.k, .string (bs v.l), .string (bs v.x), .slice v.A v.n v.c, .string (bs v.e)]] w (RI (countF t) w) := by
  intro m
  induction m with
  | zero => intro v t w h; exact h.elim
  | succ m ih =>
    intro v t w hr hb
    obtain ⟨A, n, c, rfl, p1, p2, p3, p4, p5, p6, p7, p8, p9⟩ := hr.open5
    have hn63 : n ≤ maxLen := Nat.le_trans p2 p3
    unfold maxLen at hn63 p3 p5 p6 p7
    have HI := Lib.hid ih
    have HN := Lib.hid p1
    have HK0 : Hid (Kids anyB m w A t.ks) := Lib.hid p9
    clear ih hr p9 p8 p4
    dsimp only
    have hle := countF_eq t
    have HLE := Lib.hid hle
    have hb1 : 1 + countL t.ks ≤ 1152921504606846976 := by omega
    clear hle hb
    clear p1
    go_enter Try.func40, Try.ntmps40
    go_wp2_with fail
    have hbx : (w.alloc (.cells #[.int .i64 t.k, .string (bs t.l), .string (bs t.x), .slice A n c, .string (bs t.e)] 24)).heap[w.heap.size]? = some (.cells #[.int .i64 t.k, .string (bs t.l), .string (bs t.x), .slice A n c, .string (bs t.e)] 24 (0, 0)) := heap_alloc_new _ _
    have k0 : (w.alloc (.cells #[.int .i64 t.k, .string (bs t.l), .string (bs t.x), .slice A n c, .string (bs t.e)] 24)).cell? ⟨w.heap.size, 0, none⟩ = some (.int .i64 t.k) := cell_of_cells hbx 0
    have k1 : (w.alloc (.cells #[.int .i64 t.k, .string (bs t.l), .string (bs t.x), .slice A n c, .string (bs t.e)] 24)).cell? ⟨w.heap.size, 1, none⟩ = some (.string (bs t.l)) := cell_of_cells hbx 1
    have k2 : (w.alloc (.cells #[.int .i64 t.k, .string (bs t.l), .string (bs t.x), .slice A n c, .string (bs t.e)] 24)).cell? ⟨w.heap.size, 2, none⟩ = some (.string (bs t.x)) := cell_of_cells hbx 2
    have k3 : (w.alloc (.cells #[.int .i64 t.k, .string (bs t.l), .string (bs t.x), .slice A n c, .string (bs t.e)] 24)).cell? ⟨w.heap.size, 3, none⟩ = some (.slice A n c) := cell_of_cells hbx 3
    have k4 : (w.alloc (.cells #[.int .i64 t.k, .string (bs t.l), .string (bs t.x), .slice A n c, .string (bs t.e)] 24)).cell? ⟨w.heap.size, 4, none⟩ = some (.string (bs t.e)) := cell_of_cells hbx 4
    have hG1 : Gr w (w.alloc (.cells #[.int .i64 t.k, .string (bs t.l), .string (bs t.x), .slice A n c, .string (bs t.e)] 24)) := (Gr.refl w).alloc _
    have HK : Hid (Kids anyB m (w.alloc (.cells #[.int .i64 t.k, .string (bs t.l), .string (bs t.x), .slice A n c, .string (bs t.e)] 24)) A t.ks) := Lib.hid (HK0.out.gr hG1)
    have hb0 : w.heap.size < (w.alloc (.cells #[.int .i64 t.k, .string (bs t.l), .string (bs t.x), .slice A n c, .string (bs t.e)] 24)).heap.size := by simp
    clear hbx HK0
    generalize w.alloc (.cells #[.int .i64 t.k, .string (bs t.l), .string (bs t.x), .slice A n c, .string (bs t.e)] 24) = W1 at *
    generalize w.heap.size = b0 at *
    go_loopw [3, 4] (fun sv iv wr => CountRel W1 t n sv iv wr) (fun _ iv _ => n - (intOf iv).toNat)
    case atStart => exact ⟨0, Nat.zero_le _, rfl, by simp [countL], Gr.refl _⟩
    case round =>
      obtain ⟨j, hj, rfl, rfl, hG⟩ := hrel
      by_cases hlt : j < n
      · obtain ⟨y, hy⟩ : ∃ y, t.ks[j]? = some y := ⟨t.ks[j]'(by have := HN.out; omega), List.getElem?_eq_getElem _⟩
        have HY := Lib.hid hy
        obtain ⟨bk, ok, d, hA, _, hbk, hce, hre⟩ := HK.out.gr hG j y hy
        subst hA
        clear hy
        have HE := Lib.hid hre
        obtain ⟨e0, e1, e2, e3, e4⟩ := hce
        have g0 := hG.cell k0
        have g1 := hG.cell k1
        have g2 := hG.cell k2
        have g3 := hG.cell k3
        have g4 := hG.cell k4
        have hlw : b0 < wr.heap.size := Gr.lt hG hb0
        have hlt1 : (j : Int) < (n : Int) := by omega
        clear hre
        have hg := countL_get _ _ _ HY.out
        have hst : countL (t.ks.take (j + 1)) = countL (t.ks.take j) + countF y := by
          rw [take_succ_at HY.out, countL_app]
          simp [countL]
        have HST := Lib.hid hst
        clear hst
        go_wp2_with (go_at_call 40; refine (HI.out _ y _ HE.out (by omega)).mono ?_; rintro e w2 ⟨rfl, hb2⟩)
        go_roundw
        case rel => exact ⟨j + 1, by omega, by go_num, by rw [HST.out]; go_num, (by with_reducible (repeat (first | exact Gr.refl _ | assumption | apply Gr.alloc | apply Gr.drew | apply Gr.drewN | refine Gr.setCell ?_ (by first | (simp; done) | (simp; omega)) _ | refine Gr.trans ?_ (by assumption))))⟩
        case measure => simp [intOf] <;> omega
      · have hjn : j = n := by omega
        have hfin : 1 + countL (t.ks.take j) = countF t := by
          rw [HLE.out, List.take_of_length_le (by have := HN.out; omega)]
        have HF := Lib.hid hfin
        clear hfin hjn
        have g0 := hG.cell k0
        have g3 := hG.cell k3
        have hlw : b0 < wr.heap.size := Gr.lt hG hb0
        go_wp2_with fail
        go_ret
        exact ⟨ret_int (by rw [HF.out]), hG1.trans hG⟩
end Go.Proofs.Ytbfnmgiccbdglaa
