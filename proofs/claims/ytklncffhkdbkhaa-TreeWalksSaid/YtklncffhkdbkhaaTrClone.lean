/- clone and Get of package tree, walked. -/
import Derived.Test.YtklncffhkdbkhaaTrGet
import Derived.Deep.RegionHeld3
import Derived.Deep.DrawnRows
namespace Go.Proofs.Ytklncffhkdbkhaa
open Go.ChangeShapes Go.WideShapes Go.ChangeAt Go.RowKit
attribute [local go_sem ↓] Go.wp_at_zero Go.wp_at_succ

theorem infoNode : (Try.prog.info? 24).map (fun i => (i.zero, i.size, i.bytes)) = some (some (.agg #[.int .i64 0, .string (bs []), .string (bs []), .slice none 0 0, .string (bs [])]), 5, 80) := by kernel_rfl
def ClonePost (m : Nat) (t : NT) (w : World) (e : Ending) (w' : World) : Prop :=
  ∃ d : ND, e = .returned (.agg #[.int .i64 d.k, .string (bs d.l), .string (bs d.x), .slice d.A d.n d.c, .string (bs d.e)]) ∧ SRep m w' w.heap.size w'.heap.size d t ∧ Gr w w'
def RBox (W : World) (b n : Nat) : Prop := ∃ arr : Array Value, W.heap[b]? = some (.cells arr 24 (0, 0)) ∧ arr.size = n * 5
theorem RBox.gr {W w : World} {b n : Nat} (h : RBox W b n) (hg : Gr W w) : RBox w b n := by
  obtain ⟨arr, h1, h2⟩ := h
  exact ⟨arr, (hg.block b (lt_of_block h1)).trans h1, h2⟩
theorem RBox.cell {W : World} {b n : Nat} (h : RBox W b n) {o : Nat} (ho : o < n * 5) : ∃ u, W.cell? ⟨b, o, none⟩ = some u := by
  obtain ⟨arr, h1, h2⟩ := h
  exact ⟨arr[o], by rw [cell_of_cells h1]; exact Array.getElem?_eq_getElem (by omega)⟩
theorem RBox.free {W : World} {b n : Nat} (h : RBox W b n) (o : Nat) : W.frozen? ⟨b, o, none⟩ = false := by
  obtain ⟨arr, h1, h2⟩ := h
  exact free_of_cells h1 o
theorem RBox.lt {W : World} {b n : Nat} (h : RBox W b n) : b < W.heap.size := by
  obtain ⟨arr, h1, h2⟩ := h
  exact lt_of_block h1
theorem heap_setCells_other {b' : Nat} (b : Nat) (hne : b' ≠ b) : ∀ (vs : List Value) (o : Nat) (w : World), (w.setCells b o vs).heap[b']? = w.heap[b']?
  | [], _, _ => rfl
  | v :: r, o, w => by rw [World.setCells, heap_setCells_other b hne r, heap_set_other hne]
theorem RBox.setC {b n : Nat} : ∀ (vs : List Value) (o : Nat) (W : World), RBox W b n → RBox (W.setCells b o vs) b n
  | [], _, _, h => h
  | v :: r, o, W, h => by
    refine RBox.setC r (o + 1) _ ?_
    obtain ⟨arr, h1, h2⟩ := h
    refine ⟨arr.setIfInBounds o v, ?_, by simpa using h2⟩
    rw [heap_setCell_same W b o arr 24 v h1]
theorem Gr.setCells {a : World} {b : Nat} (hb : a.heap.size ≤ b) : ∀ (vs : List Value) (o : Nat) (w : World), Gr a w → Gr a (w.setCells b o vs)
  | [], _, _, h => h
  | v :: r, o, _w, h => Gr.setCells hb r (o + 1) _ (h.setCell (p := ⟨b, o, none⟩) hb v)
def ClRel (w : World) (b0 n : Nat) (d : ND) (ks : List NT) (m : Nat) (iv : Value) (wr : World) : Prop :=
  ∃ (j : Nat) (f : Nat → Nat), j ≤ n ∧ iv = .int .i64 j ∧ b0 + 2 < f 0 ∧ (∀ i, i < j → f i ≤ f (i + 1)) ∧ f j ≤ wr.heap.size ∧ NBox wr b0 d ∧ NBox wr (b0 + 1) zeroD ∧ RBox wr (b0 + 2) n ∧ Gr w wr ∧
    ∀ i y, i < j → ks[i]? = some y → ∃ e, NCells wr (b0 + 2) (i * 5) e ∧ SRep m wr (f i) (f (i + 1)) e y
theorem ClRel.next {w wr w5 : World} {b0 n m j : Nat} {d e : ND} {ks : List NT} {y : NT} {lo : Nat} (hw : w.heap.size = b0) (h : ClRel w b0 n d ks m (.int .i64 j) wr) (hj : j < n) (hy : ks[j]? = some y) (hg : Gr wr w5) (hs : SRep m w5 lo w5.heap.size e y) (hlo : wr.heap.size ≤ lo) :
    ClRel w b0 n d ks m (.int .i64 (j + 1 : Nat)) (w5.setCells (b0 + 2) (j * 5) e.cells) := by
  obtain ⟨j', f, h1, h2, h3, h4, h5, h6, h7, h8, h9, h10⟩ := h
  simp only [Value.int.injEq, true_and] at h2
  have : j' = j := by omega
  subst this
  have hlo2 : lo ≤ w5.heap.size := by
    match m, e, y, hs with
    | m + 1, e, .mk .., hs => exact hs.2.2.2.2.2.2.2.2.2.2.2.2.1
  have hsz := size_setCells (b0 + 2) e.cells (j' * 5) w5
  have hR5 := h8.gr hg
  have hcl := chain_le h4
  have hkeep : ∀ (q : Nat) (a b : Nat) (x : ND) (z : NT), SRep q w5 a b x z → b0 + 2 < a → b ≤ w5.heap.size → SRep q (w5.setCells (b0 + 2) (j' * 5) e.cells) a b x z := fun q a b x z hq ha hb =>
    SRep.keep q a b x z hq (by omega) (fun b' o hb1 hb2 => ⟨cell_set5 (fun he => by omega), World.frozen?_setCells _ _ _ _ _⟩)
  refine ⟨j' + 1, fun i => if i ≤ j' then f i else w5.heap.size, by omega, rfl, by simpa using h3, fun i hi => ?_, ?_, ?_, ?_, RBox.setC _ _ _ hR5, Gr.setCells (by omega) _ _ _ (h9.trans hg), fun i z hi hz => ?_⟩
  · by_cases hij : i < j'
    · simp only [if_pos (show i ≤ j' by omega), if_pos (show i + 1 ≤ j' by omega)]
      exact h4 i hij
    · have : i = j' := by omega
      subst this
      simp only [Nat.le_refl, if_true, if_neg (show ¬ i + 1 ≤ i by omega)]
      exact Nat.le_trans h5 (Below.size hg)
  · simp only [if_neg (show ¬ j' + 1 ≤ j' by omega)]
    rw [hsz]; exact Nat.le_refl _
  · exact (heap_setCells_other (b0 + 2) (by omega) _ _ _).trans (h6.gr hg)
  · exact (heap_setCells_other (b0 + 2) (by omega) _ _ _).trans (h7.gr hg)
  · by_cases hij : i < j'
    · simp only [if_pos (show i ≤ j' by omega), if_pos (show i + 1 ≤ j' by omega)]
      obtain ⟨x, hc, hr⟩ := h10 i z hij hz
      have e1 := hcl i 0 (by omega) (by omega)
      have e2 := hcl j' (i + 1) (by omega) (by omega)
      have hc5 : NCells w5 (b0 + 2) (i * 5) x := hc.keep (hg.on anyB) trivial h8.lt
      exact ⟨x, hc5.other (fun q hq => cell_set5 (fun _ => by omega)), hkeep _ _ _ _ _ (hr.gr hg) (by omega) (by have := Below.size hg; omega)⟩
    · have : i = j' := by omega
      subst this
      rw [hy] at hz
      simp only [Option.some.injEq] at hz
      subst hz
      simp only [Nat.le_refl, if_true, if_neg (show ¬ i + 1 ≤ i by omega)]
      have e1 := hcl i 0 (by omega) (by omega)
      refine ⟨e, ?_, ?_⟩
      · have hin := World.cell?_setCells_in (b0 + 2) e.cells (i * 5) w5 (fun q hq => by
          have hq5 : q < 5 := hq
          obtain ⟨u, hu⟩ := hR5.cell (show i * 5 + q < n * 5 by omega)
          rw [hu]; rfl)
        exact NCells.of (fun q hq => (hin q hq).trans (List.getElem?_eq_getElem (l := e.cells) hq).symm)
      · have hk := hkeep _ _ _ _ _ hs (by omega) (Nat.le_refl _)
        exact SRep.wide (by omega) (Nat.le_refl _) (by omega) hk
theorem ClRel.done {w wr W : World} {b0 n m : Nat} {d : ND} {t : NT} (_hw : w.heap.size = b0) (hd : n = t.ks.length) (h : ClRel w b0 n d t.ks m (.int .i64 n) wr) (hsz : W.heap.size = wr.heap.size) (hs : ∀ b o, b0 + 2 ≤ b → W.cell? ⟨b, o, none⟩ = wr.cell? ⟨b, o, none⟩ ∧ W.frozen? ⟨b, o, none⟩ = wr.frozen? ⟨b, o, none⟩)
    (q1 : n ≤ maxLen) (q2 : (Lit.int .i64 t.k).wf = true) (q3 : t.l.length ≤ maxLen) (q4 : t.x.length ≤ maxLen) (q5 : t.e.length ≤ maxLen) :
    SRep (m + 1) W b0 W.heap.size ⟨t.k, t.l, t.x, some ⟨b0 + 2, 0, none⟩, n, n, t.e⟩ t := by
  obtain ⟨j', f, h1, h2, h3, h4, h5, h6, h7, h8, h9, h10⟩ := h
  simp only [Value.int.injEq, true_and] at h2
  have : j' = n := by omega
  subst this
  obtain ⟨k, l, x, ks, e⟩ := t
  simp only [NT.k, NT.l, NT.x, NT.e, NT.ks] at *
  have hl := h8.lt
  refine ⟨rfl, rfl, rfl, rfl, hd, Nat.le_refl _, q1, q2, q3, q4, q5, (fun h => by cases h), by omega, Nat.le_refl _, .inr ⟨b0 + 2, f, rfl, by omega, h3, by rw [← hd]; exact h4, by rw [← hd]; omega, fun o => ((hs _ o (Nat.le_refl _)).2).trans (h8.free o), fun i y hy => ?_⟩⟩
  have hi := (List.getElem?_eq_some_iff.1 hy).1
  obtain ⟨z, hc, hr⟩ := h10 i y (by omega) hy
  have e1 := chain_le h4 i 0 (by omega) (by omega)
  have e2 := chain_le h4 j' (i + 1) (by omega) (by omega)
  exact ⟨z, hc.other (fun q _ => (hs _ _ (Nat.le_refl _)).1), SRep.keep m _ _ z y hr (by omega) (fun b o hb1 _ => hs b o (by omega))⟩
set_option maxRecDepth 100000 in
set_option maxHeartbeats 4000000 in
theorem cloneP_any : ∀ (m : Nat) (v : ND) (t : NT) (w : World), NRep anyB m w v t → countF t ≤ 1000000 → Calls Try.prog 41 #[.agg #[.int .i64 v.k, .string (bs v.l), .string (bs v.x), .slice v.A v.n v.c, .string (bs v.e)]] w (ClonePost m t w) := by
  intro m
  induction m with
  | zero => intro v t w h; exact h.elim
  | succ m ih =>
    intro v t w hr hb
    obtain ⟨A, n, c, rfl, p1, p2, p3, p4, p5, p6, p7, p8, p9⟩ := hr.open5
    have hn63 : n ≤ maxLen := Nat.le_trans p2 p3
    have P3 := Lib.hid p3
    have P4 := Lib.hid p4
    have P5 := Lib.hid p5
    have P6 := Lib.hid p6
    have P7 := Lib.hid p7
    have hcc := countF_eq t
    have hkl := countL_length t.ks
    have hn6 : n ≤ 1000000 := by omega
    have hkb : countL t.ks ≤ 1000000 := by omega
    unfold maxLen at hn63 p3
    have HI := Lib.hid ih
    have HN := Lib.hid p1
    have HK0 : Hid (Kids anyB m w A t.ks) := Lib.hid p9
    clear ih p4 p5 p6 p7 hcc hkl hb
    dsimp only
    cases A with
    | none =>
      have hc0 := p8 rfl
      subst hc0
      obtain rfl : n = 0 := by omega
      have hks : t.ks = [] := List.length_eq_zero_iff.1 p1.symm
      have HKS := Lib.hid hks
      have hkl1 : 1 < ((w.alloc (.cells #[.int .i64 t.k, .string (bs t.l), .string (bs t.x), .slice none 0 0, .string (bs t.e)] 24)).alloc (.cells #[.int .i64 0, .string (bs []), .string (bs []), .slice none 0 0, .string (bs [])] 24)).heap.size := by simp
      clear hr p1 p9 p8 HK0 hks hkl1
      go_enter Try.func41, Try.ntmps41
      go_wp2_with fail
      refine bodyPost_ret (v := .agg #[.int .i64 t.k, .string (bs t.l), .string (bs t.x), .slice none 0 0, .string (bs t.e)]) ?_ rfl ?_
      · simp [results, Try.results41, go_sem]
      · refine ⟨⟨t.k, t.l, t.x, none, 0, 0, t.e⟩, rfl, ?_, (by with_reducible (repeat (first | exact Gr.refl _ | assumption | apply Gr.alloc | apply Gr.drew | apply Gr.drewN | refine Gr.setCell ?_ (by first | (simp; done) | (simp; omega)) _ | refine Gr.trans ?_ (by assumption))))⟩
        obtain ⟨k, l, x, ks, e⟩ := t
        exact ⟨rfl, rfl, rfl, rfl, HN.out, Nat.le_refl _, Nat.zero_le _, P4.out, P5.out, P6.out, P7.out, fun _ => rfl, by simp <;> omega, Nat.le_refl _, .inl HKS.out⟩
    | some a =>
      obtain ⟨i0, hi, hz0, hz1, hz2⟩ := info_parts infoNode
      have hmk : ∀ W : World, (Instr.makeSlice 22 (.int .i64 (n : Int)) (.int .i64 (n : Int))).run Try.prog W = .ok (.slice (some ⟨W.heap.size, 0, none⟩) n n) (W.alloc (.cells (madeCells (Value.agg #[.int .i64 0, .string (bs []), .string (bs []), .slice none 0 0, .string (bs [])]).cells (n * 5)) 24)) := fun W => by
        have h := run_make (P := Try.prog) W 22 24 i0 _ Try.underlying22 hi hz0 .i64 .i64 n n (by omega) (by omega) (by rw [hz2]; omega) (by omega)
        simp only [Int.toNat_natCast, hz1] at h
        exact h
      clear hi hz0 hz1 hz2 p1 p8 p9 hr
      have hasz : (madeCells (Value.agg #[.int .i64 0, .string (bs []), .string (bs []), .slice none 0 0, .string (bs [])]).cells (n * 5)).size = n * 5 := size_madeCells _ _
      have HASZ := Lib.hid hasz
      clear hasz
      generalize madeCells (Value.agg #[.int .i64 0, .string (bs []), .string (bs []), .slice none 0 0, .string (bs [])]).cells (n * 5) = arr at hmk HASZ
      go_enter Try.func41, Try.ntmps41
      go_wp2_with fail
      have hbn : NBox ((((w.alloc (.cells #[.int .i64 t.k, .string (bs t.l), .string (bs t.x), .slice (some a) n c, .string (bs t.e)] 24)).alloc (.cells #[.int .i64 0, .string (bs []), .string (bs []), .slice none 0 0, .string (bs [])] 24))).alloc (.cells arr 24)) w.heap.size ⟨t.k, t.l, t.x, some a, n, c, t.e⟩ := (heapOld (by simp; omega)).trans ((heapOld (by simp)).trans (heap_alloc_new w _))
      have hbs : NBox ((((w.alloc (.cells #[.int .i64 t.k, .string (bs t.l), .string (bs t.x), .slice (some a) n c, .string (bs t.e)] 24)).alloc (.cells #[.int .i64 0, .string (bs []), .string (bs []), .slice none 0 0, .string (bs [])] 24))).alloc (.cells arr 24)) (w.heap.size + 1) zeroD := by
        have h := heap_alloc_new (w.alloc (.cells #[.int .i64 t.k, .string (bs t.l), .string (bs t.x), .slice (some a) n c, .string (bs t.e)] 24)) (.cells #[.int .i64 0, .string (bs []), .string (bs []), .slice none 0 0, .string (bs [])] 24)
        have hz : (w.alloc (.cells #[.int .i64 t.k, .string (bs t.l), .string (bs t.x), .slice (some a) n c, .string (bs t.e)] 24)).heap.size = w.heap.size + 1 := by simp
        rw [hz] at h
        exact (heapOld (by simp)).trans h
      have hrb : RBox ((((w.alloc (.cells #[.int .i64 t.k, .string (bs t.l), .string (bs t.x), .slice (some a) n c, .string (bs t.e)] 24)).alloc (.cells #[.int .i64 0, .string (bs []), .string (bs []), .slice none 0 0, .string (bs [])] 24))).alloc (.cells arr 24)) (w.heap.size + 2) n := by
        have h := heap_alloc_new ((w.alloc (.cells #[.int .i64 t.k, .string (bs t.l), .string (bs t.x), .slice (some a) n c, .string (bs t.e)] 24)).alloc (.cells #[.int .i64 0, .string (bs []), .string (bs []), .slice none 0 0, .string (bs [])] 24)) (.cells arr 24)
        have hz : ((w.alloc (.cells #[.int .i64 t.k, .string (bs t.l), .string (bs t.x), .slice (some a) n c, .string (bs t.e)] 24)).alloc (.cells #[.int .i64 0, .string (bs []), .string (bs []), .slice none 0 0, .string (bs [])] 24)).heap.size = w.heap.size + 2 := by simp
        rw [hz] at h
        exact ⟨arr, h, HASZ.out⟩
      have hG1 : Gr w ((((w.alloc (.cells #[.int .i64 t.k, .string (bs t.l), .string (bs t.x), .slice (some a) n c, .string (bs t.e)] 24)).alloc (.cells #[.int .i64 0, .string (bs []), .string (bs []), .slice none 0 0, .string (bs [])] 24))).alloc (.cells arr 24)) := (((Gr.refl w).alloc _).alloc _).alloc _
      have hsz3 : ((((w.alloc (.cells #[.int .i64 t.k, .string (bs t.l), .string (bs t.x), .slice (some a) n c, .string (bs t.e)] 24)).alloc (.cells #[.int .i64 0, .string (bs []), .string (bs []), .slice none 0 0, .string (bs [])] 24))).alloc (.cells arr 24)).heap.size = w.heap.size + 3 := by simp
      have HST := Lib.hid (show ClRel w w.heap.size n ⟨t.k, t.l, t.x, some a, n, c, t.e⟩ t.ks m (.int .i64 0) ((((w.alloc (.cells #[.int .i64 t.k, .string (bs t.l), .string (bs t.x), .slice (some a) n c, .string (bs t.e)] 24)).alloc (.cells #[.int .i64 0, .string (bs []), .string (bs []), .slice none 0 0, .string (bs [])] 24))).alloc (.cells arr 24)) from ⟨0, fun _ => w.heap.size + 3, Nat.zero_le _, rfl, by dsimp only; omega, fun i hi => absurd hi (by omega), by dsimp only; omega, hbn, hbs, hrb, hG1, fun i y hi => absurd hi (by omega)⟩)
      clear hbn hbs hrb hG1 hsz3 hmk HASZ
      obtain ⟨b0, hb0⟩ : ∃ b0, b0 = w.heap.size := ⟨_, rfl⟩
      rw [← hb0] at HST
      rw [← hb0]
      have HB0 := Lib.hid hb0
      clear hb0
      go_loopw [16] (fun iv wr => ClRel w b0 n ⟨t.k, t.l, t.x, some a, n, c, t.e⟩ t.ks m iv wr) (fun iv _ => n - (intOf iv).toNat)
      case atStart => exact HST.out
      case round =>
        have HREL := Lib.hid hrel
        obtain ⟨j, f, hj, rfl, h3, h4, h5, hnb, hsb, hrb, hG, h10⟩ := hrel
        have HNB := Lib.hid hnb
        have HSB := Lib.hid hsb
        have HRB := Lib.hid hrb
        obtain ⟨k0, k1, k2, k3, k4⟩ := hnb.cells
        simp only at k0 k1 k2 k3 k4
        have hlb := lt_of_block hnb
        have hlr := hrb.lt
        clear h3 h4 h5 h10 hnb hsb hrb
        by_cases hlt : j < n
        · obtain ⟨y, hy⟩ : ∃ y, t.ks[j]? = some y := ⟨t.ks[j]'(by have := HN.out; omega), List.getElem?_eq_getElem _⟩
          have HY := Lib.hid hy
          obtain ⟨bk, ok, d, hA, _, hbk, hce, hre⟩ := HK0.out j y hy
          simp only [Option.some.injEq] at hA
          subst hA
          have hcy := countL_get _ _ _ hy
          have HRE := Lib.hid hre
          obtain ⟨e0, e1, e2, e3, e4⟩ := hce.keep (hG.on anyB) trivial hbk
          have hbw : bk < wr.heap.size := Gr.lt hG hbk
          have hj0 : (0 : Int) ≤ (j : Int) := by omega
          have hj1 : (j : Int) < (n : Int) := by omega
          clear hy hce hre k0 k1 k2 k4
          go_wp2_with fail
          refine (HI.out d y _ (HRE.out.gr (hG.trans ((Gr.refl _).alloc _))) (by omega)).mono ?_
          rintro e w5 ⟨d5, rfl, hs5, hb5⟩
          have HS5 := Lib.hid hs5
          have hg5 : Gr wr w5 := ((Gr.refl wr).alloc _).trans hb5
          have hsl : wr.heap.size ≤ w5.heap.size := Below.size hg5
          have hrb5 := HRB.out.gr hg5
          obtain ⟨r0, hr0⟩ : ∃ u, w5.cell? ⟨b0 + 1 + 1, j * 5, none⟩ = some u := hrb5.cell (show j * 5 + 0 < n * 5 by omega)
          have z0 : w5.frozen? ⟨b0 + 1 + 1, j * 5, none⟩ = false := hrb5.free (j * 5 + 0)
          obtain ⟨r1, hr1⟩ : ∃ u, w5.cell? ⟨b0 + 1 + 1, j * 5 + 1, none⟩ = some u := hrb5.cell (show j * 5 + 1 < n * 5 by omega)
          have z1 : w5.frozen? ⟨b0 + 1 + 1, j * 5 + 1, none⟩ = false := hrb5.free (j * 5 + 1)
          obtain ⟨r2, hr2⟩ : ∃ u, w5.cell? ⟨b0 + 1 + 1, j * 5 + 2, none⟩ = some u := hrb5.cell (show j * 5 + 2 < n * 5 by omega)
          have z2 : w5.frozen? ⟨b0 + 1 + 1, j * 5 + 2, none⟩ = false := hrb5.free (j * 5 + 2)
          obtain ⟨r3, hr3⟩ : ∃ u, w5.cell? ⟨b0 + 1 + 1, j * 5 + 3, none⟩ = some u := hrb5.cell (show j * 5 + 3 < n * 5 by omega)
          have z3 : w5.frozen? ⟨b0 + 1 + 1, j * 5 + 3, none⟩ = false := hrb5.free (j * 5 + 3)
          obtain ⟨r4, hr4⟩ : ∃ u, w5.cell? ⟨b0 + 1 + 1, j * 5 + 4, none⟩ = some u := hrb5.cell (show j * 5 + 4 < n * 5 by omega)
          have z4 : w5.frozen? ⟨b0 + 1 + 1, j * 5 + 4, none⟩ = false := hrb5.free (j * 5 + 4)
          have hl5 : b0 + 1 + 1 < w5.heap.size := hrb5.lt
          have hszA : wr.heap.size ≤ (wr.alloc (.cells #[.int .i64 d.k, .string (bs d.l), .string (bs d.x), .slice d.A d.n d.c, .string (bs d.e)] 24)).heap.size := by simp
          have HZ := Lib.hid hszA
          have HG5 := Lib.hid hg5
          clear hs5 hb5 hrb5 hszA e0 e1 e2 e3 e4 k3 hg5
          go_wp2_with fail
          go_roundw
          case rel => exact ClRel.next HB0.out.symm HREL.out hlt HY.out HG5.out HS5.out HZ.out
          case measure => simp [intOf] <;> omega
        · have hjn : j = n := by omega
          have HREL2 : Hid (ClRel w b0 n ⟨t.k, t.l, t.x, some a, n, c, t.e⟩ t.ks m (.int .i64 (n : Nat)) wr) := by
            rw [← hjn] at HREL ⊢
            exact HREL
          obtain ⟨s0, s1, s2, s3, s4⟩ := HSB.out.cells
          simp only [zeroD] at s0 s1 s2 s3 s4
          have y0 := free_of_cells HSB.out 0
          have y1 := free_of_cells HSB.out 1
          have y2 := free_of_cells HSB.out 2
          have y3 := free_of_cells HSB.out 3
          have y4 := free_of_cells HSB.out 4
          have x3 := free_of_cells HNB.out 3
          have hls := lt_of_block HSB.out
          clear hjn HREL
          go_wp2_with fail
          refine bodyPost_ret (v := .agg #[.int .i64 t.k, .string (bs t.l), .string (bs t.x), .slice (some ⟨b0 + 1 + 1, 0, none⟩) n n, .string (bs t.e)]) ?_ rfl ?_
          · simp [results, Try.results41, go_sem, s0, s1, s2, s3, s4]
          · refine ⟨⟨t.k, t.l, t.x, some ⟨b0 + 1 + 1, 0, none⟩, n, n, t.e⟩, rfl, ?_, by
              have hb0 := HB0.out
              exact (by with_reducible (repeat (first | exact Gr.refl _ | assumption | apply Gr.alloc | apply Gr.drew | apply Gr.drewN | refine Gr.setCell ?_ (by first | (simp; done) | (simp; omega)) _ | refine Gr.trans ?_ (by assumption))))⟩
            rw [← HB0.out]
            refine ClRel.done HB0.out.symm HN.out HREL2.out (by simp) (fun b o hb => ?_) (Nat.le_trans p2 P3.out) P4.out P5.out P6.out P7.out
            have hh : ∀ (W : World) (q k : Nat) (u : Value), q < b0 + 2 → (W.setCell ⟨q, k, none⟩ u).heap[b]? = W.heap[b]? := fun W q k u hq => heap_set_other (by show b ≠ q; omega)
            constructor
            · apply World.cell?_of_block
              simp only [hh _ _ _ _ (show b0 < b0 + 2 by omega), hh _ _ _ _ (show b0 + 1 < b0 + 2 by omega)]
            · unfold World.frozen?
              simp only [hh _ _ _ _ (show b0 < b0 + 2 by omega), hh _ _ _ _ (show b0 + 1 < b0 + 2 by omega)]
theorem getF_count : ∀ (zs : List Int) (t y : NT), getF t zs = some y → countF y ≤ countF t
  | [], t, y, h => by
    rw [getF] at h
    cases h
    exact Nat.le_refl _
  | i :: r, t, y, h => by
    by_cases hi : 0 ≤ i ∧ i < t.ks.length
    · obtain ⟨k, rfl⟩ := Int.eq_ofNat_of_zero_le hi.1
      have hk : t.ks[k]? = some (t.ks[k]'(by omega)) := List.getElem?_eq_getElem _
      rw [getF_go hk] at h
      have h1 := getF_count r _ y h
      have h2 := countL_get _ _ _ hk
      have h3 := countF_eq t
      omega
    · rw [getF_bad (by omega)] at h
      cases h
theorem getD_count (zs : List Int) (t : NT) : countF ((getF t zs).getD zeroT) ≤ countF t := by
  cases h : getF t zs with
  | none => exact countF_pos t
  | some y => exact getF_count zs t y h
set_option maxRecDepth 100000 in
set_option maxHeartbeats 4000000 in
theorem getP_any (m0 : Nat) (v : ND) (t0 : NT) (A : Option Addr) (n c : Nat) (zs : List Int) (w : World) (hr : NRep anyB m0 w v t0) (hz : IntsAt .i64 w A n zs) (hn : n ≤ 9223372036854775807) (hc : countF t0 ≤ 1000000) :
    Calls Try.prog 17 #[.agg #[.int .i64 v.k, .string (bs v.l), .string (bs v.x), .slice v.A v.n v.c, .string (bs v.e)], .slice A n c] w (GetPost (getF t0 zs) w) := by
  have hcount := getD_count zs t0
  have HC : Hid (∀ w', Gr w w' → Calls Try.prog 40 #[.agg #[.int .i64 v.k, .string (bs v.l), .string (bs v.x), .slice v.A v.n v.c, .string (bs v.e)], .slice A n c] w' (GetPost (getF t0 zs) w')) := Lib.hid (fun w' hg => findGP_any m0 v t0 A n c zs w' (hr.gr hg) (hz.keep hg) hn)
  generalize getF t0 zs = Q at *
  clear hr hz
  go_enter Try.func17, Try.ntmps17
  go_wp2_with fail
  have hbs : NBox ((w.alloc (.cells #[.int .i64 v.k, .string (bs v.l), .string (bs v.x), .slice v.A v.n v.c, .string (bs v.e)] 24)).alloc (.cells #[.int .i64 0, .string (bs []), .string (bs []), .slice none 0 0, .string (bs [])] 24)) (w.heap.size + 1) zeroD := by
    have h := heap_alloc_new (w.alloc (.cells #[.int .i64 v.k, .string (bs v.l), .string (bs v.x), .slice v.A v.n v.c, .string (bs v.e)] 24)) (.cells #[.int .i64 0, .string (bs []), .string (bs []), .slice none 0 0, .string (bs [])] 24)
    have hz : (w.alloc (.cells #[.int .i64 v.k, .string (bs v.l), .string (bs v.x), .slice v.A v.n v.c, .string (bs v.e)] 24)).heap.size = w.heap.size + 1 := by simp
    rwa [hz] at h
  have HBS := Lib.hid hbs
  clear hbs
  refine (HC.out _ (((Gr.refl w).alloc _).alloc _)).mono ?_
  rintro e w1 ⟨m1, d1, rfl, hr1, hb1⟩
  have hg1 : Gr w w1 := (((Gr.refl w).alloc _).alloc _).trans hb1
  have HB1 := Lib.hid (HBS.out.gr hb1)
  have HR1 := Lib.hid hr1
  clear hb1 hr1 HBS
  go_wp2_with fail
  refine (cloneP_any m1 d1 _ _ (HR1.out.gr ((Gr.refl _).alloc _)) (by omega)).mono ?_
  rintro e w2 ⟨d2, rfl, hs2, hb2⟩
  have hb2' := ((Gr.refl w1).alloc (.cells #[.int .i64 d1.k, .string (bs d1.l), .string (bs d1.x), .slice d1.A d1.n d1.c, .string (bs d1.e)] 24)).trans hb2
  have hg2 := hg1.trans hb2'
  have HS2 := Lib.hid hs2
  have hbs2 := HB1.out.gr hb2'
  obtain ⟨s0, s1, s2, s3, s4⟩ := hbs2.cells
  simp only [zeroD] at s0 s1 s2 s3 s4
  have y0 := free_of_cells hbs2 0
  have y1 := free_of_cells hbs2 1
  have y2 := free_of_cells hbs2 2
  have y3 := free_of_cells hbs2 3
  have y4 := free_of_cells hbs2 4
  have hls := lt_of_block hbs2
  have hlo : w.heap.size + 1 < (w1.alloc (.cells #[.int .i64 d1.k, .string (bs d1.l), .string (bs d1.x), .slice d1.A d1.n d1.c, .string (bs d1.e)] 24)).heap.size := Gr.lt ((Gr.refl w1).alloc _) (lt_of_block HB1.out)
  have HLO := Lib.hid hlo
  clear hbs2 hs2 hb2 hb2' hlo hg1 HB1 HR1 hcount hc
  go_wp2_with fail
  refine bodyPost_ret (v := .tuple #[.agg #[.int .i64 d2.k, .string (bs d2.l), .string (bs d2.x), .slice d2.A d2.n d2.c, .string (bs d2.e)], .bool Q.isSome]) ?_ rfl ?_
  · simp [results, Try.results17, go_sem, s0, s1, s2, s3, s4]
  · have hh : ∀ (b : Nat), b ≠ w.heap.size + 1 → ∀ (W : World) (k : Nat) (u : Value), (W.setCell ⟨w.heap.size + 1, k, none⟩ u).heap[b]? = W.heap[b]? := fun b hb W k u => heap_set_other hb
    refine ⟨m1, d2, rfl, (SRep.keep _ _ _ _ _ HS2.out (by simp) (fun b o hb _ => ?_)).any, (by with_reducible (repeat (first | exact Gr.refl _ | assumption | apply Gr.alloc | apply Gr.drew | apply Gr.drewN | refine Gr.setCell ?_ (by first | (simp; done) | (simp; omega)) _ | refine Gr.trans ?_ (by assumption))))⟩
    have hbne : b ≠ w.heap.size + 1 := by have := HLO.out; omega
    constructor
    · apply World.cell?_of_block
      simp only [hh b hbne]
    · unfold World.frozen?
      simp only [hh b hbne]
end Go.Proofs.Ytklncffhkdbkhaa
