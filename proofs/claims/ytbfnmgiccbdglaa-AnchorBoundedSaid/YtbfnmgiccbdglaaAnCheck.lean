/- check and Check of anchor, walked. -/
import Derived.Test.YtbfnmgiccbdglaaAnVisit
namespace Go.Proofs.Ytbfnmgiccbdglaa
open Go.ChangeShapes Go.WideShapes Go.ChangeAt Go.RowKit

def goodB (L : U5) (t : NT) : Bool := validB L.d L.n L.b L.a L.x && properB t
def CkPost (L : U5) (t : NT) (w : World) (e : Ending) (w' : World) : Prop :=
  (goodB L t = false ∧ e = .returned (.tuple #[.pointer none, .int .i64 0, .int .i64 1]) ∧ Gr w w') ∨
  (goodB L t = true ∧ ∃ Bv Bm g, e = .returned (.tuple #[.pointer (some ⟨Bv, 0, none⟩), .int .i64 (visF L t st0).1, .int .i64 (visF L t st0).2.1]) ∧ VSt w.heap.size Bv Bm L (countF t) g (visF L t st0).2.2 w' ∧ Gr w w')
def L5Box (W : World) (b : Nat) (L : U5) : Prop := W.heap[b]? = some (.cells #[.int .i64 L.d, .int .i64 L.n, .int .i64 L.b, .int .i64 L.a, .int .i64 L.x] 35 (0, 0))
theorem L5Box.gr {W w : World} {b : Nat} {L : U5} (h : L5Box W b L) (hg : Gr W w) : L5Box w b L := (hg.block b (lt_of_block h)).trans h
set_option maxRecDepth 100000 in
set_option maxHeartbeats 4000000 in
theorem checkV_any (m : Nat) (v : ND) (t : NT) (L : U5) (w : World) (hr : NRep anyB m w v t) (hl : lenF t ≤ 1152921504606846976) (hc : countF t ≤ 1000000) : Calls Try.prog 33 #[.agg #[.int .i64 v.k, .string (bs v.l), .string (bs v.x), .slice v.A v.n v.c, .string (bs v.e)], .agg #[.int .i64 L.d, .int .i64 L.n, .int .i64 L.b, .int .i64 L.a, .int .i64 L.x]] w (CkPost L t w) := by
  have HR := Lib.hid hr
  obtain ⟨b1, hb1⟩ : ∃ b, validB L.d L.n L.b L.a L.x = b := ⟨_, rfl⟩
  obtain ⟨b2, hb2⟩ : ∃ b, properB t = b := ⟨_, rfl⟩
  have h1 := fun W => validP_any L.d L.n L.b L.a L.x W
  have h2 := fun W (hg : Gr w W) => properP_any m v t W (hr.gr hg) hl
  rw [hb1] at h1
  rw [hb2] at h2
  have H1 := Lib.hid h1
  have H2 := Lib.hid h2
  have HG : Hid (goodB L t = (b1 && b2)) := Lib.hid (by rw [goodB, hb1, hb2])
  have HC := Lib.hid hc
  have HP : Hid (properB t = b2) := Lib.hid hb2
  have hmm := @run_makeMap Try.prog
  clear hr hb1 hb2 h1 h2 hc hl
  go_enter Try.func33, Try.ntmps33
  go_wp2_with fail
  have hn0 : NBox ((w.alloc (.cells #[.int .i64 v.k, .string (bs v.l), .string (bs v.x), .slice v.A v.n v.c, .string (bs v.e)] 24)).alloc (.cells #[.int .i64 L.d, .int .i64 L.n, .int .i64 L.b, .int .i64 L.a, .int .i64 L.x] 35)) w.heap.size v := NBox.gr (heap_alloc_new w (.cells #[.int .i64 v.k, .string (bs v.l), .string (bs v.x), .slice v.A v.n v.c, .string (bs v.e)] 24)) ((Gr.refl _).alloc _)
  have hl0 : L5Box ((w.alloc (.cells #[.int .i64 v.k, .string (bs v.l), .string (bs v.x), .slice v.A v.n v.c, .string (bs v.e)] 24)).alloc (.cells #[.int .i64 L.d, .int .i64 L.n, .int .i64 L.b, .int .i64 L.a, .int .i64 L.x] 35)) (w.heap.size + 1) L := by
    have h := heap_alloc_new (w.alloc (.cells #[.int .i64 v.k, .string (bs v.l), .string (bs v.x), .slice v.A v.n v.c, .string (bs v.e)] 24)) (.cells #[.int .i64 L.d, .int .i64 L.n, .int .i64 L.b, .int .i64 L.a, .int .i64 L.x] 35)
    have hz : (w.alloc (.cells #[.int .i64 v.k, .string (bs v.l), .string (bs v.x), .slice v.A v.n v.c, .string (bs v.e)] 24)).heap.size = w.heap.size + 1 := by simp
    rw [hz] at h
    exact h
  refine (H1.out _).mono ?_
  rintro e w1 ⟨rfl, hb1⟩
  have hg1 : Gr w w1 := (((Gr.refl w).alloc _).alloc _).trans hb1
  have HN1 := Lib.hid (hn0.gr hb1)
  have HL1 := Lib.hid (hl0.gr hb1)
  clear hn0 hl0 hb1
  cases b1 with
  | false =>
    have HG2 : Hid (goodB L t = false) := Lib.hid (by rw [HG.out]; rfl)
    go_wp2_with fail
    go_ret3
    exact .inl ⟨HG2.out, rfl, hg1⟩
  | true =>
    obtain ⟨k0, k1, k2, k3, k4⟩ := HN1.out.cells
    have kl := lt_of_block HN1.out
    go_wp2_with fail
    refine (H2.out _ hg1).mono ?_
    rintro e w2 ⟨rfl, hb2⟩
    have hg2 := hg1.trans hb2
    have HN2 := Lib.hid (HN1.out.gr hb2)
    have HL2 := Lib.hid (HL1.out.gr hb2)
    clear k0 k1 k2 k3 k4 kl hb2 hg1 HN1 HL1
    cases b2 with
    | false =>
      have HG2 : Hid (goodB L t = false) := Lib.hid (by rw [HG.out]; rfl)
      go_wp2_with fail
      go_ret3
      exact .inl ⟨HG2.out, rfl, hg2⟩
    | true =>
      have HG2 : Hid (goodB L t = true) := Lib.hid (by rw [HG.out]; rfl)
      obtain ⟨k0, k1, k2, k3, k4⟩ := HN2.out.cells
      have kl := lt_of_block HN2.out
      have y0 := cell_of_cells HL2.out 0
      have y1 := cell_of_cells HL2.out 1
      have y2 := cell_of_cells HL2.out 2
      have y3 := cell_of_cells HL2.out 3
      have y4 := cell_of_cells HL2.out 4
      have yl := lt_of_block HL2.out
      go_wp2_with fail
      have hmk : markedB t = true := by
        have h := HP.out
        unfold properB at h
        simp only [Bool.and_eq_true] at h
        exact h.2
      have hgm : Gr w2 ((w2.alloc (.map #[] 0)).alloc (.cells #[.int .i64 L.d, .int .i64 L.n, .int .i64 L.b, .int .i64 L.a, .int .i64 L.x, .int .i64 0, .int .i64 0, .int .i64 0, .int .i64 0, .int .i64 0, .map (some w2.heap.size)] 64)) := ((Gr.refl w2).alloc _).alloc _
      have hvs : VSt w.heap.size (w2.heap.size + 1) w2.heap.size L 0 (fun _ => none) st0 ((w2.alloc (.map #[] 0)).alloc (.cells #[.int .i64 L.d, .int .i64 L.n, .int .i64 L.b, .int .i64 L.a, .int .i64 L.x, .int .i64 0, .int .i64 0, .int .i64 0, .int .i64 0, .int .i64 0, .map (some w2.heap.size)] 64)) := by
        refine ⟨?_, Nat.le_succ_of_le (Below.size hg2), Below.size hg2, (MapF.made w2 (.pointer none) rfl).gr ((Gr.refl _).alloc _), fun _ _ => rfl, fun s b h => (by cases h), fun s s' b h => (by cases h)⟩
        have h := heap_alloc_new (w2.alloc (.map #[] 0)) (.cells #[.int .i64 L.d, .int .i64 L.n, .int .i64 L.b, .int .i64 L.a, .int .i64 L.x, .int .i64 0, .int .i64 0, .int .i64 0, .int .i64 0, .int .i64 0, .map (some w2.heap.size)] 64)
        have hz : (w2.alloc (.map #[] 0)).heap.size = w2.heap.size + 1 := by simp
        rw [hz] at h
        exact h
      have hcall := visitP_any w.heap.size (w2.heap.size + 1) w2.heap.size L m v t 0 (fun _ => none) st0 _ ((HR.out.lt.gr hg2).gr hgm) hmk hvs (by have := HC.out; omega) (Nat.le_trans (Below.size hg2) (Below.size hgm))
      have HCALL := Lib.hid hcall
      have hsz2 := Below.size hg2
      clear hcall hvs hmk
      refine HCALL.out.mono ?_
      rintro e w3 ⟨rfl, hkv, g, _, hs3⟩
      rw [Nat.zero_add] at hs3
      have HS3 := Lib.hid hs3
      have hg3 : Gr w w3 := (show Below w.heap.size w _ from hg2.trans hgm).trans hkv.2.1
      clear hkv hs3 HCALL k0 k1 k2 k3 k4 kl y0 y1 y2 y3 y4 yl
      go_wp2_with fail
      go_ret3
      exact .inr ⟨HG2.out, _, _, g, rfl, HS3.out, hg3⟩
set_option maxRecDepth 100000 in
set_option maxHeartbeats 4000000 in
theorem usualP_any (w : World) : Calls Try.prog 36 #[] w fun e w' => e = .returned (.agg #[.int .i64 usual.d, .int .i64 usual.n, .int .i64 usual.b, .int .i64 usual.a, .int .i64 usual.x]) ∧ Gr w w' := by
  go_enter Try.func36, Try.ntmps36
  go_wp2_with fail
  refine bodyPost_ret (v := (.agg #[.int .i64 usual.d, .int .i64 usual.n, .int .i64 usual.b, .int .i64 usual.a, .int .i64 usual.x])) (by simp [results, Try.results36, go_sem, usual]; done) rfl ⟨rfl, (by with_reducible (repeat (first | exact Gr.refl _ | assumption | apply Gr.alloc | apply Gr.drew | apply Gr.drewN | refine Gr.setCell ?_ (by first | (simp; done) | (simp; omega)) _ | refine Gr.trans ?_ (by assumption))))⟩
set_option maxRecDepth 100000 in
set_option maxHeartbeats 4000000 in
theorem usualR_any (w : World) : Calls Try.prog 19 #[] w fun e w' => e = .returned (.agg #[.int .i64 usual.d, .int .i64 usual.n, .int .i64 usual.b, .int .i64 usual.a, .int .i64 usual.x]) ∧ Gr w w' := by
  go_enter Try.func19, Try.ntmps19
  go_wp2_with fail
  refine bodyPost_ret (v := (.agg #[.int .i64 usual.d, .int .i64 usual.n, .int .i64 usual.b, .int .i64 usual.a, .int .i64 usual.x])) (by simp [results, Try.results19, go_sem, usual]; done) rfl ⟨rfl, (by with_reducible (repeat (first | exact Gr.refl _ | assumption | apply Gr.alloc | apply Gr.drew | apply Gr.drewN | refine Gr.setCell ?_ (by first | (simp; done) | (simp; omega)) _ | refine Gr.trans ?_ (by assumption))))⟩
def UBox (W : World) (b : Nat) (u : U5) : Prop := W.heap[b]? = some (.cells #[.int .i64 u.d, .int .i64 u.n, .int .i64 u.b, .int .i64 u.a, .int .i64 u.x] 36 (0, 0))
theorem UBox.gr {W w : World} {b : Nat} {u : U5} (h : UBox W b u) (hg : Gr W w) : UBox w b u := (hg.block b (lt_of_block h)).trans h
theorem results_usage {fn : Func} {p u : Tmp} (h : fn.results = #[.cell p 36, .tmp u]) (tmps : Array Value) (w : World) (b : Nat) (q : U5) (ht : tmps.getD p undef = .pointer (some ⟨b, 0, none⟩)) (hb : UBox w b q) : (Go.results fn tmps).run Try.prog w = .ok (.tuple #[q.v, tmps.getD u undef]) w := by
  have hl := run_loadVar_row w b 36 36 _ _ _ hb Try.underlying36 rfl (by kernel_rfl)
  rw [results_cell_tmp h, ht]
  simp only [asAddr, Sem.run_pure, Result.andThen_ok]
  rw [hl]
  rfl
/-- A usage and an error. -/
def RUE (q : U5 × Int) (w : World) (e : Ending) (w' : World) : Prop := e = .returned (.tuple #[q.1.v, .int .i64 q.2]) ∧ Gr w w'
theorem chkF_good {L : U5} {t : NT} (h : goodB L t = true) : chkF L t = if (visF L t st0).2.1 = 0 then ((visF L t st0).2.2.u, 0) else (U5.zero, (visF L t st0).2.1) := by
  unfold chkF
  unfold goodB at h
  rw [if_neg (by rw [h]; decide)]
theorem chkF_bad {L : U5} {t : NT} (h : goodB L t = false) : chkF L t = (U5.zero, 1) := by
  unfold chkF
  unfold goodB at h
  rw [if_pos h]
set_option maxRecDepth 100000 in
set_option maxHeartbeats 4000000 in
theorem CheckA_any (m : Nat) (v : ND) (t : NT) (L : U5) (w : World) (hr : NRep anyB m w v t) (hl : lenF t ≤ 1152921504606846976) (hc : countF t ≤ 1000000) : Calls Try.prog 15 #[.agg #[.int .i64 v.k, .string (bs v.l), .string (bs v.x), .slice v.A v.n v.c, .string (bs v.e)], .agg #[.int .i64 L.d, .int .i64 L.n, .int .i64 L.b, .int .i64 L.a, .int .i64 L.x]] w (RUE (chkF L t) w) := by
  have hcall := fun W (hg : Gr w W) => checkV_any m v t L W (hr.gr hg) hl hc
  have HCALL := Lib.hid hcall
  generalize hq : chkF L t = q
  have HQ := Lib.hid hq
  clear hr hl hc hcall hq
  go_enter Try.func15, Try.ntmps15
  go_wp2_with fail
  have hg0 : Gr w (((w.alloc (.cells #[.int .i64 v.k, .string (bs v.l), .string (bs v.x), .slice v.A v.n v.c, .string (bs v.e)] 24)).alloc (.cells #[.int .i64 L.d, .int .i64 L.n, .int .i64 L.b, .int .i64 L.a, .int .i64 L.x] 35)).alloc (.cells #[.int .i64 0, .int .i64 0, .int .i64 0, .int .i64 0, .int .i64 0] 36)) := (((Gr.refl w).alloc _).alloc _).alloc _
  have hu0 : UBox (((w.alloc (.cells #[.int .i64 v.k, .string (bs v.l), .string (bs v.x), .slice v.A v.n v.c, .string (bs v.e)] 24)).alloc (.cells #[.int .i64 L.d, .int .i64 L.n, .int .i64 L.b, .int .i64 L.a, .int .i64 L.x] 35)).alloc (.cells #[.int .i64 0, .int .i64 0, .int .i64 0, .int .i64 0, .int .i64 0] 36)) (w.heap.size + 1 + 1) U5.zero := by
    have h := heap_alloc_new ((w.alloc (.cells #[.int .i64 v.k, .string (bs v.l), .string (bs v.x), .slice v.A v.n v.c, .string (bs v.e)] 24)).alloc (.cells #[.int .i64 L.d, .int .i64 L.n, .int .i64 L.b, .int .i64 L.a, .int .i64 L.x] 35)) (.cells #[.int .i64 0, .int .i64 0, .int .i64 0, .int .i64 0, .int .i64 0] 36)
    have hz : ((w.alloc (.cells #[.int .i64 v.k, .string (bs v.l), .string (bs v.x), .slice v.A v.n v.c, .string (bs v.e)] 24)).alloc (.cells #[.int .i64 L.d, .int .i64 L.n, .int .i64 L.b, .int .i64 L.a, .int .i64 L.x] 35)).heap.size = w.heap.size + 1 + 1 := by simp
    rw [hz] at h
    exact h
  refine (HCALL.out _ hg0).mono ?_
  rintro e w1 (⟨hgood, rfl, hb1⟩ | ⟨hgood, Bv, Bm, g, rfl, hvs, hb1⟩)
  · have hg1 := hg0.trans hb1
    have hu1 := hu0.gr hb1
    have HU1 := Lib.hid hu1
    have y0 := cell_of_cells hu1 0
    have hq2 : q = (U5.zero, 1) := by rw [← HQ.out, chkF_bad hgood]
    have HQ2 := Lib.hid hq2
    have z0 := free_of_cells hu1 0
    have z1 := free_of_cells hu1 1
    have z2 := free_of_cells hu1 2
    have z3 := free_of_cells hu1 3
    have z4 := free_of_cells hu1 4
    have y1 := cell_of_cells hu1 1
    have y2 := cell_of_cells hu1 2
    have y3 := cell_of_cells hu1 3
    have y4 := cell_of_cells hu1 4
    have yl := lt_of_block hu1
    clear hgood hg0 hu0 hb1 hu1 hq2
    go_wp2_with fail
    have h5 := five_set HU1.out (.int .i64 0) (.int .i64 0) (.int .i64 0) (.int .i64 0) (.int .i64 0)
    refine bodyPost_ret (results_usage rfl _ _ _ U5.zero rfl h5) rfl ⟨by rw [HQ2.out]; rfl, (by with_reducible (repeat (first | exact Gr.refl _ | assumption | apply Gr.alloc | apply Gr.drew | apply Gr.drewN | refine Gr.setCell ?_ (by first | (simp; done) | (simp; omega)) _ | refine Gr.trans ?_ (by assumption))))⟩
  · have hg1 := hg0.trans hb1
    have hu1 := hu0.gr hb1
    have HU1 := Lib.hid hu1
    have hq2 := chkF_good hgood
    rw [HQ.out] at hq2
    obtain ⟨r, hr⟩ : ∃ r, visF L t st0 = r := ⟨_, rfl⟩
    rw [hr] at hvs hq2 ⊢
    have HVS := Lib.hid hvs
    have HVB := Lib.hid hvs.vis
    have y0 := cell_of_cells hu1 0
    have z0 := free_of_cells hu1 0
    have y1 := cell_of_cells hu1 1
    have z1 := free_of_cells hu1 1
    have y2 := cell_of_cells hu1 2
    have z2 := free_of_cells hu1 2
    have y3 := cell_of_cells hu1 3
    have z3 := free_of_cells hu1 3
    have y4 := cell_of_cells hu1 4
    have z4 := free_of_cells hu1 4
    have yl := lt_of_block hu1
    have hbv : w.heap.size + 1 + 1 < Bv := by
      have h1 := hvs.hv
      simp at h1
      omega
    by_cases hz : r.2.1 = 0
    · rw [if_pos hz] at hq2
      have HQ2 := Lib.hid hq2
      have hz2 : (r.2.1 != 0) = false := by simp [hz]
      have v5 := cell_of_cells HVB.out 5
      have v6 := cell_of_cells HVB.out 6
      have v7 := cell_of_cells HVB.out 7
      have v8 := cell_of_cells HVB.out 8
      have v9 := cell_of_cells HVB.out 9
      have vl := lt_of_block HVB.out
      clear hgood hg0 hu0 hb1 hu1 hq2 hvs hz hr
      go_wp2_with fail
      have h5 := five_set HU1.out (.int .i64 r.2.2.u.d) (.int .i64 r.2.2.u.n) (.int .i64 r.2.2.u.b) (.int .i64 r.2.2.u.a) (.int .i64 r.2.2.u.x)
      refine bodyPost_ret (results_usage rfl _ _ _ r.2.2.u rfl h5) rfl ⟨by rw [HQ2.out]; rfl, (by with_reducible (repeat (first | exact Gr.refl _ | assumption | apply Gr.alloc | apply Gr.drew | apply Gr.drewN | refine Gr.setCell ?_ (by first | (simp; done) | (simp; omega)) _ | refine Gr.trans ?_ (by assumption))))⟩
    · rw [if_neg hz] at hq2
      have HQ2 := Lib.hid hq2
      have hz2 : (r.2.1 != 0) = true := by simp [hz]
      clear hgood hg0 hu0 hb1 hu1 hq2 hvs hz hr
      go_wp2_with fail
      have h5 := five_set HU1.out (.int .i64 0) (.int .i64 0) (.int .i64 0) (.int .i64 0) (.int .i64 0)
      refine bodyPost_ret (results_usage rfl _ _ _ U5.zero rfl h5) rfl ⟨by rw [HQ2.out]; rfl, (by with_reducible (repeat (first | exact Gr.refl _ | assumption | apply Gr.alloc | apply Gr.drew | apply Gr.drewN | refine Gr.setCell ?_ (by first | (simp; done) | (simp; omega)) _ | refine Gr.trans ?_ (by assumption))))⟩
theorem goodB_usual (t : NT) : goodB usual t = properB t := by
  unfold goodB
  rw [show validB usual.d usual.n usual.b usual.a usual.x = true from by decide, Bool.true_and]
theorem costF_eq (t : NT) : costF t = if goodB usual t = false then (0, 1) else if (visF usual t st0).2.1 = 0 then ((visF usual t st0).1, 0) else (0, (visF usual t st0).2.1) := by
  rw [goodB_usual]; rfl
/-- The cost and the error of check. -/
def ckQ (L : U5) (t : NT) : Int × Int := if goodB L t = false then (0, 1) else ((visF L t st0).1, (visF L t st0).2.1)
theorem CkPost.val {L : U5} {t : NT} {w w' : World} {e : Ending} (h : CkPost L t w e w') : ∃ pv, e = .returned (.tuple #[pv, .int .i64 (ckQ L t).1, .int .i64 (ckQ L t).2]) ∧ Gr w w' := by
  unfold ckQ
  rcases h with ⟨h1, h2, h3⟩ | ⟨h1, Bv, Bm, g, h2, _, h3⟩
  · rw [if_pos h1]
    exact ⟨_, h2, h3⟩
  · rw [if_neg (by rw [h1]; decide)]
    exact ⟨_, h2, h3⟩
theorem costF_ck (t : NT) : costF t = if (ckQ usual t).2 = 0 then ((ckQ usual t).1, 0) else (0, (ckQ usual t).2) := by
  rw [costF_eq]
  unfold ckQ
  split
  · rfl
  · rfl
def R2II (q : Int × Int) (w : World) (e : Ending) (w' : World) : Prop := e = .returned (.tuple #[.int .i64 q.1, .int .i64 q.2]) ∧ Gr w w'
set_option maxRecDepth 100000 in
set_option maxHeartbeats 4000000 in
theorem costP_any (m : Nat) (v : ND) (t : NT) (w : World) (hr : NRep anyB m w v t) (hl : lenF t ≤ 1152921504606846976) (hc : countF t ≤ 1000000) : Calls Try.prog 17 #[.agg #[.int .i64 v.k, .string (bs v.l), .string (bs v.x), .slice v.A v.n v.c, .string (bs v.e)]] w (R2II (costF t) w) := by
  have hcall := fun W (hg : Gr w W) => checkV_any m v t usual W (hr.gr hg) hl hc
  have HCALL := Lib.hid hcall
  generalize hq : costF t = q
  have HQ := Lib.hid hq
  clear hr hl hc hcall hq
  go_enter Try.func17, Try.ntmps17
  go_wp2_with fail
  have hbx : NBox (w.alloc (.cells #[.int .i64 v.k, .string (bs v.l), .string (bs v.x), .slice v.A v.n v.c, .string (bs v.e)] 24)) w.heap.size v := heap_alloc_new _ _
  have hg0 : Gr w (w.alloc (.cells #[.int .i64 v.k, .string (bs v.l), .string (bs v.x), .slice v.A v.n v.c, .string (bs v.e)] 24)) := (Gr.refl w).alloc _
  obtain ⟨W1, hW1⟩ : ∃ W1, W1 = w.alloc (.cells #[.int .i64 v.k, .string (bs v.l), .string (bs v.x), .slice v.A v.n v.c, .string (bs v.e)] 24) := ⟨_, rfl⟩
  rw [← hW1] at hbx hg0
  try rw [← hW1]
  clear hW1
  have HBX := Lib.hid hbx
  have HG0 := Lib.hid hg0
  clear hbx hg0
  generalize w.heap.size = b0 at *
  obtain ⟨c1, hc1⟩ : ∃ c, ckQ usual t = c := ⟨_, rfl⟩
  have hck : ∀ W', Gr W1 W' → Calls Try.prog 33 #[.agg #[.int .i64 v.k, .string (bs v.l), .string (bs v.x), .slice v.A v.n v.c, .string (bs v.e)], .agg #[.int .i64 usual.d, .int .i64 usual.n, .int .i64 usual.b, .int .i64 usual.a, .int .i64 usual.x]] W' (fun e w' => ∃ pv, e = .returned (.tuple #[pv, .int .i64 c1.1, .int .i64 c1.2]) ∧ Gr W' w') := fun W' hg => (HCALL.out W' (HG0.out.trans hg)).mono (fun e w' h => by rw [← hc1]; exact h.val)
  have HCK := Lib.hid hck
  have hqv : q = if c1.2 = 0 then (c1.1, 0) else (0, c1.2) := by rw [← HQ.out, ← hc1]; exact costF_ck t
  have HQV := Lib.hid hqv
  clear hck hqv hc1 HCALL HQ
  obtain ⟨VS, hVS⟩ : ∃ VS : List (Nat × Nat × Value), VS = [(0, 8, .agg #[.int .i64 v.k, .string (bs v.l), .string (bs v.x), .slice v.A v.n v.c, .string (bs v.e)]), (1, 9, .agg #[.int .i64 usual.d, .int .i64 usual.n, .int .i64 usual.b, .int .i64 usual.a, .int .i64 usual.x]), (5, 12, .int .i64 c1.1), (6, 13, .int .i64 c1.2), (8, 5, .int .i64 c1.1), (9, 6, .int .i64 c1.2)] := ⟨_, rfl⟩
  obtain ⟨US, hUS⟩ : ∃ US : List (Nat × Value), US = [(1, .pointer (some ⟨b0, 0, none⟩))] := ⟨_, rfl⟩
  refine wp_region_frame (by kernel_rfl) (by kernel_rfl) [8, 9, 10, 7, 11, 12, 13, 4, 5, 6] (by simp) (Det VS US (fun B u w' => Gr W1 w' ∧ (B 3 = true → B 2 = true) ∧ (B 2 = true → ∃ pv, u 10 = .tuple #[pv, .int .i64 c1.1, .int .i64 c1.2]) ∧ (B 3 = true → ∃ pv, u 7 = .tuple #[pv, .int .i64 c1.1, .int .i64 c1.2]))) ?_ ?_ ?_
  · exact Det.start (by rw [hUS]; simp [slot]) (⟨(Gr.refl _).drew, (fun h => by cases h), (fun h => by cases h), (fun h => by cases h)⟩)
  · intro B a' w' i o hfr hF ho hBi hdp
    have hi8 := (Array.getElem?_eq_some_iff.1 ho).1
    simp only [List.size_toArray, List.length_cons, List.length_nil] at hi8
    have hor : i = 0 ∨ i = 1 ∨ i = 2 ∨ i = 3 ∨ i = 4 ∨ i = 5 ∨ i = 6 ∨ i = 7 ∨ i = 8 ∨ i = 9 := by omega
    clear hi8
    rcases hor with rfl | rfl | rfl | rfl | rfl | rfl | rfl | rfl | rfl | rfl
    all_goals (
      simp only [List.getElem?_toArray, List.getElem?_cons_zero, List.getElem?_cons_succ, Option.some.injEq] at ho
      subst ho
      rw [if_pos (show Region.wanted _ _ = true from rfl)]
      refine wp_hideK ?_
      intro K hK)
    · have hFW := hF.wd
      have o1 := slot_spell (hF.had (d := 1) (v := .pointer (some ⟨b0, 0, none⟩)) (by rw [hUS]; simp))
      obtain ⟨k0, k1, k2, k3, k4⟩ := (HBX.out.gr hFW.1).cells
      have kl := lt_of_block (HBX.out.gr hFW.1)
      go_simp
      exact hK.out _ _ (close_put hfr (d := 8) (by decide) (by simp) _ (F := fun u => Det VS US (fun B u w' => Gr W1 w' ∧ (B 3 = true → B 2 = true) ∧ (B 2 = true → ∃ pv, u 10 = .tuple #[pv, .int .i64 c1.1, .int .i64 c1.2]) ∧ (B 3 = true → ∃ pv, u 7 = .tuple #[pv, .int .i64 c1.1, .int .i64 c1.2])) (upB B 0) u _) (hF.step (by rw [hVS]; simp) (by rw [hUS]; simp) (by simpa [upB, upV] using hFW)))
    · have hFW := hF.wd
      have HFF := Lib.hid hF
      have HFR := Lib.hid hfr
      have HFG := Lib.hid hFW
      clear hF hfr hFW hdp
      go_simp
      refine (usualP_any _).mono ?_
      rintro e w2 ⟨rfl, hb2⟩
      have hF := HFF.out
      have hfr := HFR.out
      have hFW := HFG.out
      exact hK.out _ _ (close_put hfr (d := 9) (by decide) (by simp) _ (F := fun u => Det VS US (fun B u w' => Gr W1 w' ∧ (B 3 = true → B 2 = true) ∧ (B 2 = true → ∃ pv, u 10 = .tuple #[pv, .int .i64 c1.1, .int .i64 c1.2]) ∧ (B 3 = true → ∃ pv, u 7 = .tuple #[pv, .int .i64 c1.1, .int .i64 c1.2])) (upB B 1) u _) (hF.step (by rw [hVS]; simp) (by rw [hUS]; simp) (⟨hFW.1.trans hb2, by simpa [upB] using hFW.2.1, by simpa [upB, upV] using hFW.2.2.1, by simpa [upB, upV] using hFW.2.2.2⟩)))
    · have hFW := hF.wd
      have hB0 : B 0 = true := hdp ⟨0, .data⟩ (by simp) (by rfl)
      have e0 := slot_spell (hF.get (i := 0) (d := 8) (v := .agg #[.int .i64 v.k, .string (bs v.l), .string (bs v.x), .slice v.A v.n v.c, .string (bs v.e)]) (by rw [hVS]; simp) hB0)
      have hB1 : B 1 = true := hdp ⟨1, .data⟩ (by simp) (by rfl)
      have e1 := slot_spell (hF.get (i := 1) (d := 9) (v := .agg #[.int .i64 usual.d, .int .i64 usual.n, .int .i64 usual.b, .int .i64 usual.a, .int .i64 usual.x]) (by rw [hVS]; simp) hB1)
      have HFF := Lib.hid hF
      have HFR := Lib.hid hfr
      have HFG := Lib.hid hFW
      clear hF hfr hFW hdp
      go_simp
      refine (HCK.out _ HFG.out.1).mono ?_
      rintro e w2 ⟨pv, rfl, hb2⟩
      have hF := HFF.out
      have hfr := HFR.out
      have hFW := HFG.out
      exact hK.out _ _ (close_put hfr (d := 10) (by decide) (by simp) _ (F := fun u => Det VS US (fun B u w' => Gr W1 w' ∧ (B 3 = true → B 2 = true) ∧ (B 2 = true → ∃ pv, u 10 = .tuple #[pv, .int .i64 c1.1, .int .i64 c1.2]) ∧ (B 3 = true → ∃ pv, u 7 = .tuple #[pv, .int .i64 c1.1, .int .i64 c1.2])) (upB B 2) u _) (hF.step (by rw [hVS]; simp) (by rw [hUS]; simp) (⟨hFW.1.trans hb2, fun _ => by simp [upB], fun _ => ⟨pv, by simp [upV]⟩, fun h => (by have h3 := hFW.2.1 (by simpa [upB] using h); rw [hBi] at h3; cases h3)⟩)))
    · have hFW := hF.wd
      have hB2 : B 2 = true := hdp ⟨2, .data⟩ (by simp) (by rfl)
      obtain ⟨pv, q10⟩ := hFW.2.2.1 hB2
      have e10 := slot_spell q10
      go_simp
      exact hK.out _ _ (close_put hfr (d := 7) (by decide) (by simp) _ (F := fun u => Det VS US (fun B u w' => Gr W1 w' ∧ (B 3 = true → B 2 = true) ∧ (B 2 = true → ∃ pv, u 10 = .tuple #[pv, .int .i64 c1.1, .int .i64 c1.2]) ∧ (B 3 = true → ∃ pv, u 7 = .tuple #[pv, .int .i64 c1.1, .int .i64 c1.2])) (upB B 3) u _) (hF.step (by rw [hVS]; simp) (by rw [hUS]; simp) (⟨hFW.1, fun _ => by simp [upB, hB2], fun _ => ⟨pv, by simpa [upV] using q10⟩, fun _ => ⟨pv, by simp [upV]⟩⟩)))
    · have hFW := hF.wd
      have hB3 : B 3 = true := hdp ⟨3, .data⟩ (by simp) (by rfl)
      obtain ⟨pv, q7⟩ := hFW.2.2.2 hB3
      have e7 := slot_spell q7
      go_simp
      exact hK.out _ _ (close_put hfr (d := 11) (by decide) (by simp) _ (F := fun u => Det VS US (fun B u w' => Gr W1 w' ∧ (B 3 = true → B 2 = true) ∧ (B 2 = true → ∃ pv, u 10 = .tuple #[pv, .int .i64 c1.1, .int .i64 c1.2]) ∧ (B 3 = true → ∃ pv, u 7 = .tuple #[pv, .int .i64 c1.1, .int .i64 c1.2])) (upB B 4) u _) (hF.step (by rw [hVS]; simp) (by rw [hUS]; simp) (by simpa [upB, upV] using hFW)))
    · have hFW := hF.wd
      have hB3 : B 3 = true := hdp ⟨3, .data⟩ (by simp) (by rfl)
      obtain ⟨pv, q7⟩ := hFW.2.2.2 hB3
      have e7 := slot_spell q7
      go_simp
      exact hK.out _ _ (close_put hfr (d := 12) (by decide) (by simp) _ (F := fun u => Det VS US (fun B u w' => Gr W1 w' ∧ (B 3 = true → B 2 = true) ∧ (B 2 = true → ∃ pv, u 10 = .tuple #[pv, .int .i64 c1.1, .int .i64 c1.2]) ∧ (B 3 = true → ∃ pv, u 7 = .tuple #[pv, .int .i64 c1.1, .int .i64 c1.2])) (upB B 5) u _) (hF.step (by rw [hVS]; simp) (by rw [hUS]; simp) (by simpa [upB, upV] using hFW)))
    · have hFW := hF.wd
      have hB3 : B 3 = true := hdp ⟨3, .data⟩ (by simp) (by rfl)
      obtain ⟨pv, q7⟩ := hFW.2.2.2 hB3
      have e7 := slot_spell q7
      go_simp
      exact hK.out _ _ (close_put hfr (d := 13) (by decide) (by simp) _ (F := fun u => Det VS US (fun B u w' => Gr W1 w' ∧ (B 3 = true → B 2 = true) ∧ (B 2 = true → ∃ pv, u 10 = .tuple #[pv, .int .i64 c1.1, .int .i64 c1.2]) ∧ (B 3 = true → ∃ pv, u 7 = .tuple #[pv, .int .i64 c1.1, .int .i64 c1.2])) (upB B 6) u _) (hF.step (by rw [hVS]; simp) (by rw [hUS]; simp) (by simpa [upB, upV] using hFW)))
    · have hFW := hF.wd
      go_simp
      exact hK.out _ _ (close_put hfr (d := 4) (by decide) (by simp) _ (F := fun u => Det VS US (fun B u w' => Gr W1 w' ∧ (B 3 = true → B 2 = true) ∧ (B 2 = true → ∃ pv, u 10 = .tuple #[pv, .int .i64 c1.1, .int .i64 c1.2]) ∧ (B 3 = true → ∃ pv, u 7 = .tuple #[pv, .int .i64 c1.1, .int .i64 c1.2])) (upB B 7) u _) (hF.step (by rw [hVS]; simp) (by rw [hUS]; simp) (by simpa [upB, upV] using hFW)))
    · have hFW := hF.wd
      have hB5 : B 5 = true := hdp ⟨5, .data⟩ (by simp) (by rfl)
      have e5 := slot_spell (hF.get (i := 5) (d := 12) (v := .int .i64 c1.1) (by rw [hVS]; simp) hB5)
      go_simp
      exact hK.out _ _ (close_put hfr (d := 5) (by decide) (by simp) _ (F := fun u => Det VS US (fun B u w' => Gr W1 w' ∧ (B 3 = true → B 2 = true) ∧ (B 2 = true → ∃ pv, u 10 = .tuple #[pv, .int .i64 c1.1, .int .i64 c1.2]) ∧ (B 3 = true → ∃ pv, u 7 = .tuple #[pv, .int .i64 c1.1, .int .i64 c1.2])) (upB B 8) u _) (hF.step (by rw [hVS]; simp) (by rw [hUS]; simp) (by simpa [upB, upV] using hFW)))
    · have hFW := hF.wd
      have hB6 : B 6 = true := hdp ⟨6, .data⟩ (by simp) (by rfl)
      have e6 := slot_spell (hF.get (i := 6) (d := 13) (v := .int .i64 c1.2) (by rw [hVS]; simp) hB6)
      go_simp
      exact hK.out _ _ (close_put hfr (d := 6) (by decide) (by simp) _ (F := fun u => Det VS US (fun B u w' => Gr W1 w' ∧ (B 3 = true → B 2 = true) ∧ (B 2 = true → ∃ pv, u 10 = .tuple #[pv, .int .i64 c1.1, .int .i64 c1.2]) ∧ (B 3 = true → ∃ pv, u 7 = .tuple #[pv, .int .i64 c1.1, .int .i64 c1.2])) (upB B 9) u _) (hF.step (by rw [hVS]; simp) (by rw [hUS]; simp) (by simpa [upB, upV] using hFW)))
  · intro B u w' hall hF
    have z0 := hF.get (i := 0) (d := 8) (v := .agg #[.int .i64 v.k, .string (bs v.l), .string (bs v.x), .slice v.A v.n v.c, .string (bs v.e)]) (by rw [hVS]; simp) (hall 0 (by simp))
    have z1 := hF.get (i := 1) (d := 9) (v := .agg #[.int .i64 usual.d, .int .i64 usual.n, .int .i64 usual.b, .int .i64 usual.a, .int .i64 usual.x]) (by rw [hVS]; simp) (hall 1 (by simp))
    have z5 := hF.get (i := 5) (d := 12) (v := .int .i64 c1.1) (by rw [hVS]; simp) (hall 5 (by simp))
    have z6 := hF.get (i := 6) (d := 13) (v := .int .i64 c1.2) (by rw [hVS]; simp) (hall 6 (by simp))
    have z8 := hF.get (i := 8) (d := 5) (v := .int .i64 c1.1) (by rw [hVS]; simp) (hall 8 (by simp))
    have z9 := hF.get (i := 9) (d := 6) (v := .int .i64 c1.2) (by rw [hVS]; simp) (hall 9 (by simp))
    have hFW := hF.wd
    clear hF hVS hUS
    simp only [List.foldl_cons, List.foldl_nil, Act.put, List.setIfInBounds_toArray, List.set_cons_zero, List.set_cons_succ, z0, z1, z5, z6, z8, z9]
    clear z0 z1 z5 z6 z8 z9
    obtain ⟨hg, _, _, _⟩ := hFW
    have HG := Lib.hid (HG0.out.trans hg)
    clear hall hg
    by_cases hz : c1.2 = 0
    · have hz2 : (c1.2 != 0) = false := by simp [hz]
      rw [if_pos hz] at HQV
      clear hz
      go_wp2_with fail
      go_ret2
      exact ⟨by rw [HQV.out]; rfl, HG.out⟩
    · have hz2 : (c1.2 != 0) = true := by simp [hz]
      rw [if_neg hz] at HQV
      clear hz
      go_wp2_with fail
      go_ret2
      exact ⟨by rw [HQV.out]; rfl, HG.out⟩
set_option maxRecDepth 100000 in
set_option maxHeartbeats 4000000 in
theorem aliasesP_any (m : Nat) (v : ND) (t : NT) (w : World) (hr : NRep anyB m w v t) (hl : lenF t ≤ 1152921504606846976) (hc : countF t ≤ 1000000) : Calls Try.prog 13 #[.agg #[.int .i64 v.k, .string (bs v.l), .string (bs v.x), .slice v.A v.n v.c, .string (bs v.e)]] w (RI (if properB t = true then kindF 10 t else 0) w) := by
  obtain ⟨b2, hb2⟩ : ∃ b, properB t = b := ⟨_, rfl⟩
  have h2 := fun W (hg : Gr w W) => properP_any m v t W (hr.gr hg) hl
  have h3 := fun W (hg : Gr w W) => countKP_any m v t W (hr.gr hg) (Nat.le_trans hc (by decide))
  rw [hb2] at h2 ⊢
  generalize hq : (if b2 = true then kindF 10 t else 0) = q
  have HQ := Lib.hid hq
  clear hq
  have H2 := Lib.hid h2
  have H3 := Lib.hid h3
  clear hr hb2 h2 h3 hc hl
  go_enter Try.func13, Try.ntmps13
  go_wp2_with fail
  have hn0 : NBox (w.alloc (.cells #[.int .i64 v.k, .string (bs v.l), .string (bs v.x), .slice v.A v.n v.c, .string (bs v.e)] 24)) w.heap.size v := heap_alloc_new w (.cells #[.int .i64 v.k, .string (bs v.l), .string (bs v.x), .slice v.A v.n v.c, .string (bs v.e)] 24)
  refine (H2.out _ ((Gr.refl w).alloc _)).mono ?_
  rintro e w1 ⟨rfl, hb1⟩
  have hg1 : Gr w w1 := ((Gr.refl w).alloc _).trans hb1
  have hn1 := hn0.gr hb1
  obtain ⟨k0, k1, k2, k3, k4⟩ := hn1.cells
  have kl := lt_of_block hn1
  clear hn0 hn1 hb1
  cases b2 with
  | false =>
    go_wp2_with fail
    go_ret
    exact ⟨by rw [← HQ.out]; rfl, hg1⟩
  | true =>
    go_wp2_with fail
    refine (H3.out _ hg1).mono ?_
    rintro e w2 ⟨rfl, hb2⟩
    go_wp2_with fail
    go_ret
    exact ⟨by rw [← HQ.out]; rfl, hg1.trans hb2⟩
end Go.Proofs.Ytbfnmgiccbdglaa
