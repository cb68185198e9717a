/- Whole and Inner of the reference, walked. -/
import Derived.Test.YtklncffhkdbkhaaTrGet
namespace Go.Proofs.Ytklncffhkdbkhaa
open Go.ChangeShapes Go.WideShapes Go.ChangeAt Go.RowKit

def SpRelR (w : World) (b0 : Nat) (zs : List Int) (T : Nat) (Q : Option (Nat × NT)) (n : Nat) (fv iv : Value) (wr : World) : Prop :=
  ∃ (j p m : Nat) (d : ND) (t : NT), j ≤ n ∧ iv = .int .i64 j ∧ fv = .int .i64 p ∧ NRep anyB m w d t ∧ NBox wr b0 d ∧ SBox wr (b0 + 1) 0 0 ∧ spanF t (zs.drop j) p = Q ∧ p + lenF t ≤ T ∧ Gr w wr
def SumRelR (w : World) (b0 : Nat) (d : ND) (ks : List NT) (p0 : Nat) (n : Nat) (fv iv : Value) (wr : World) : Prop :=
  ∃ j : Nat, j ≤ n ∧ iv = .int .i64 j ∧ fv = .int .i64 (p0 + lenL (ks.take j) : Nat) ∧ NBox wr b0 d ∧ SBox wr (b0 + 1) 0 0 ∧ Gr w wr
set_option maxRecDepth 100000 in
set_option maxHeartbeats 4000000 in
theorem wholeRP_any (m0 : Nat) (v : ND) (t0 : NT) (A : Option Addr) (n c : Nat) (zs : List Int) (w : World) (hr : NRep anyB m0 w v t0) (hz : IntsAt .i64 w A n zs) (hn : n ≤ 9223372036854775807) (hl : lenF t0 ≤ 1152921504606846976) :
    Calls Try.prog 20 #[.agg #[.int .i64 v.k, .string (bs v.l), .string (bs v.x), .slice v.A v.n v.c, .string (bs v.e)], .slice A n c] w (VPost (WholeVal (spanF t0 zs 0)) w) := by
  generalize hQ : spanF t0 zs 0 = Q
  have HQ := Lib.hid hQ
  have HR := Lib.hid hr
  have HZ := Lib.hid hz
  have HZL := Lib.hid hz.1
  clear hr hz hQ
  go_enter Try.func20, Try.ntmps20
  go_wp2_with fail
  have hbn : NBox ((w.alloc (.cells #[.int .i64 v.k, .string (bs v.l), .string (bs v.x), .slice v.A v.n v.c, .string (bs v.e)] 24)).alloc (.cells #[.int .i64 0, .int .i64 0] 40)) w.heap.size v := (heapOld (by simp)).trans (heap_alloc_new w _)
  have hbs : SBox ((w.alloc (.cells #[.int .i64 v.k, .string (bs v.l), .string (bs v.x), .slice v.A v.n v.c, .string (bs v.e)] 24)).alloc (.cells #[.int .i64 0, .int .i64 0] 40)) (w.heap.size + 1) 0 0 := by
    have h := heap_alloc_new (w.alloc (.cells #[.int .i64 v.k, .string (bs v.l), .string (bs v.x), .slice v.A v.n v.c, .string (bs v.e)] 24)) (.cells #[.int .i64 0, .int .i64 0] 40)
    have hz : (w.alloc (.cells #[.int .i64 v.k, .string (bs v.l), .string (bs v.x), .slice v.A v.n v.c, .string (bs v.e)] 24)).heap.size = w.heap.size + 1 := by simp
    rwa [hz] at h
  have hG1 : Gr w ((w.alloc (.cells #[.int .i64 v.k, .string (bs v.l), .string (bs v.x), .slice v.A v.n v.c, .string (bs v.e)] 24)).alloc (.cells #[.int .i64 0, .int .i64 0] 40)) := ((Gr.refl w).alloc _).alloc _
  have HBN := Lib.hid hbn
  have HBS := Lib.hid hbs
  clear hbn hbs
  generalize ((w.alloc (.cells #[.int .i64 v.k, .string (bs v.l), .string (bs v.x), .slice v.A v.n v.c, .string (bs v.e)] 24)).alloc (.cells #[.int .i64 0, .int .i64 0] 40)) = W1 at *
  have hb0 : w.heap.size ≤ w.heap.size := Nat.le_refl _
  generalize hbe : w.heap.size = b0 at *
  go_loopw [6, 7] (fun fv iv wr => SpRelR w b0 zs (lenF t0) Q n fv iv wr) (fun _ iv _ => n - (intOf iv).toNat)
  case atStart => exact ⟨0, 0, m0, v, t0, Nat.zero_le _, rfl, rfl, HR.out, HBN.out, HBS.out, HQ.out, by omega, hG1⟩
  case round =>
    obtain ⟨j, p, m, d, t, hj, rfl, rfl, hrt, hnb, hsb, hsp, hpl, hG⟩ := hrel
    cases m with
    | zero => exact hrt.elim
    | succ m =>
    obtain ⟨A1, n1, c1, rfl, p1, p2, p3, p4, p5, p6, p7, p8, p9⟩ := hrt.open5
    have HNB := Lib.hid hnb
    have HSB := Lib.hid hsb
    have HSP := Lib.hid hsp
    obtain ⟨k0, k1, k2, k3, k4⟩ := hnb.cells
    have s0 := cell_of_cells hsb 0
    have s1 := cell_of_cells hsb 1
    have f0 := free_of_cells hsb 0
    have f1 := free_of_cells hsb 1
    simp only [List.getElem?_toArray, List.getElem?_cons_zero, List.getElem?_cons_succ] at k0 k1 k2 k3 k4 s0 s1
    have hlb := lt_of_block hnb
    have hls := lt_of_block hsb
    have hsx : ((bs t.l).size : Int) = t.l.length := rfl
    have hsy : ((bs t.x).size : Int) = t.x.length := rfl
    have HT := Lib.hid hrt
    have HN1 := Lib.hid p1
    have HK1 : Hid (Kids anyB m w A1 t.ks) := Lib.hid p9
    have hll := lenF_eq t
    have hn163 : n1 ≤ maxLen := Nat.le_trans p2 p3
    unfold maxLen at hn163 p3
    have hb7 : p + t.l.length + t.x.length + lenL t.ks ≤ 1152921504606846976 := by omega
    have HLL := Lib.hid hll
    clear hnb hsb hsp hrt p9 p8 p4 p1 hll
    by_cases hlt : j < n
    · obtain ⟨z, hgz⟩ : ∃ z, zs[j]? = some z := ⟨zs[j]'(by rw [HZL.out]; exact hlt), List.getElem?_eq_getElem _⟩
      obtain ⟨_, hwf, h3⟩ := HZ.out.keep hG
      obtain ⟨bz, oz, rfl, hbz, hcell⟩ := h3 (by omega)
      have hc := hcell j hlt
      rw [List.getD, hgz, Option.getD_some] at hc
      have hwz := wf_bounds (hwf z (List.mem_of_getElem? hgz))
      have HDZ := Lib.hid (drop_at hgz)
      have hj0 : (0 : Int) ≤ (j : Int) := by omega
      have hj1 : (j : Int) < (n : Int) := by omega
      clear h3 hcell hwf hgz
      by_cases hbad : z < 0 ∨ (n1 : Int) ≤ z
      · have hq : Q = none := by rw [← HSP.out, HDZ.out]; exact spanF_bad (by have := HN1.out; omega)
        have HQZ := Lib.hid hq
        clear hq
        by_cases hz0 : z < 0
        case pos =>
          go_wp2_with fail
          have kq9_0 := cell_regrown hc
          have kq9_1 := cell_regrown k3
          refine wp_region_quiet_below (by kernel_rfl) (by kernel_rfl) ?_
          repeat (go_big_quiet_step (fail))
          refine wpQuiet_nil ?_
          intro wq9 hwq9
          have hbq9 := gr_regrown hwq9
          clear hwq9
          replace kq9_0 := hbq9.cell hc
          replace kq9_1 := hbq9.cell k3
          have hGq := hG.trans hbq9
          have HSBq := Lib.hid (HSB.out.gr hbq9)
          have HNBq := Lib.hid (HNB.out.gr hbq9)
          have s0 := cell_of_cells HSBq.out 0
          have s1 := cell_of_cells HSBq.out 1
          simp only [List.getElem?_toArray, List.getElem?_cons_zero, List.getElem?_cons_succ] at s0 s1
          have f0 := free_of_cells HSBq.out 0
          have f1 := free_of_cells HSBq.out 1
          have hlq := lt_of_block HNBq.out
          have hls := lt_of_block HSBq.out
          go_wp2_with fail
          refine bodyPost_ret (v := WholeVal Q) ?_ rfl ⟨rfl, ?_⟩
          · rw [HQZ.out]
            simp [results, Try.results20, go_sem, WholeVal, s0, s1]
          · exact (by with_reducible (repeat (first | exact Gr.refl _ | assumption | apply Gr.alloc | apply Gr.drew | apply Gr.drewN | refine Gr.setCell ?_ (by first | (simp; done) | (simp; omega)) _ | refine Gr.trans ?_ (by assumption))))
        case neg =>
          have hz1 : (n1 : Int) ≤ z := by omega
          have t1 : decide (z < 0) = false := decide_eq_false hz0
          have t2 : decide ((n1 : Int) ≤ z) = true := decide_eq_true hz1
          go_wp2_with fail
          have kq9_0 := cell_regrown hc
          have kq9_1 := cell_regrown k3
          refine wp_region_quiet_below (by kernel_rfl) (by kernel_rfl) ?_
          repeat (go_big_quiet_step (fail))
          refine wpQuiet_nil ?_
          intro wq9 hwq9
          have hbq9 := gr_regrown hwq9
          clear hwq9
          replace kq9_0 := hbq9.cell hc
          replace kq9_1 := hbq9.cell k3
          have hGq := hG.trans hbq9
          have HSBq := Lib.hid (HSB.out.gr hbq9)
          have HNBq := Lib.hid (HNB.out.gr hbq9)
          have s0 := cell_of_cells HSBq.out 0
          have s1 := cell_of_cells HSBq.out 1
          simp only [List.getElem?_toArray, List.getElem?_cons_zero, List.getElem?_cons_succ] at s0 s1
          have f0 := free_of_cells HSBq.out 0
          have f1 := free_of_cells HSBq.out 1
          have hlq := lt_of_block HNBq.out
          have hls := lt_of_block HSBq.out
          go_wp2_with fail
          refine bodyPost_ret (v := WholeVal Q) ?_ rfl ⟨rfl, ?_⟩
          · rw [HQZ.out]
            simp [results, Try.results20, go_sem, WholeVal, s0, s1]
          · exact (by with_reducible (repeat (first | exact Gr.refl _ | assumption | apply Gr.alloc | apply Gr.drew | apply Gr.drewN | refine Gr.setCell ?_ (by first | (simp; done) | (simp; omega)) _ | refine Gr.trans ?_ (by assumption))))
      · obtain ⟨i, rfl⟩ := Int.eq_ofNat_of_zero_le (show 0 ≤ z by omega)
        have hin : i < n1 := by omega
        obtain ⟨y, hy⟩ : ∃ y, t.ks[i]? = some y := ⟨t.ks[i]'(by rw [← HN1.out]; exact hin), List.getElem?_eq_getElem _⟩
        have HY := Lib.hid hy
        obtain ⟨bk, ok, d, hA, _, hbk, hce, hre⟩ := HK1.out i y hy
        subst hA
        have hla := lenL_at hy
        have hlg := lenL_get _ _ _ hy
        have hst : spanF y (zs.drop (j + 1)) (p + t.l.length + t.x.length + lenL (t.ks.take i)) = Q := by rw [← HSP.out, HDZ.out]; exact (spanF_go hy).symm
        have HST := Lib.hid hst
        have HCE := Lib.hid hce
        have HRE := Lib.hid hre
        have hi1 : (0 : Int) ≤ (i : Int) := by omega
        have hi2 : (i : Int) < (n1 : Int) := by omega
        have t19 : decide ((i : Int) < 0) = false := decide_eq_false (by omega)
        have t25 : decide (n1 ≤ i) = false := decide_eq_false (by omega)
        clear hy hst hce hre hbad
        go_wp2_with fail
        have kq9_0 := cell_regrown hc
        have kq9_1 := cell_regrown k3
        refine wp_region_quiet_below (by kernel_rfl) (by kernel_rfl) ?_
        repeat (go_big_quiet_step (fail))
        refine wpQuiet_nil ?_
        intro wq9 hwq9
        have hbq9 := gr_regrown hwq9
        clear hwq9
        replace kq9_0 := hbq9.cell hc
        replace kq9_1 := hbq9.cell k3
        have hGq := hG.trans hbq9
        have HSBq := Lib.hid (HSB.out.gr hbq9)
        have HNBq := Lib.hid (HNB.out.gr hbq9)
        have s0 := cell_of_cells HSBq.out 0
        have s1 := cell_of_cells HSBq.out 1
        simp only [List.getElem?_toArray, List.getElem?_cons_zero, List.getElem?_cons_succ] at s0 s1
        have f0 := free_of_cells HSBq.out 0
        have f1 := free_of_cells HSBq.out 1
        have hlq := lt_of_block HNBq.out
        have hls := lt_of_block HSBq.out
        obtain ⟨k0, k1, k2, k3, k4⟩ := HNBq.out.cells
        simp only at k0 k1 k2 k3 k4
        go_wp2_with fail
        obtain ⟨wo, rfl⟩ : ∃ wo : World, wo = wq9 := ⟨_, rfl⟩
        go_loopw [6, 8] (fun fv iv wr => SumRelR wo b0 ⟨t.k, t.l, t.x, some ⟨bk, ok, none⟩, n1, c1, t.e⟩ t.ks (p + (t.l.length + t.x.length)) i fv iv wr) (fun _ iv _ => i - (intOf iv).toNat)
        case atStart => exact ⟨0, Nat.zero_le _, rfl, by simp [lenL] <;> omega, HNBq.out, HSBq.out, Gr.refl _⟩
        case round =>
          obtain ⟨j2, hj2, rfl, rfl, hnb2, hsb2, hG2⟩ := hrel
          have HNB2 := Lib.hid hnb2
          have HSB2 := Lib.hid hsb2
          obtain ⟨g0, g1, g2, g3, g4⟩ := hnb2.cells
          simp only at g0 g1 g2 g3 g4
          have hlb2 := lt_of_block hnb2
          have hls2 := lt_of_block hsb2
          have hcz := hG2.cell kq9_0
          clear hnb2 hsb2
          by_cases hlt2 : j2 < i
          · obtain ⟨y2, hy2⟩ : ∃ y, t.ks[j2]? = some y := ⟨t.ks[j2]'(by rw [← HN1.out]; omega), List.getElem?_eq_getElem _⟩
            have HY2 := Lib.hid hy2
            obtain ⟨bk2, ok2, d2, hA2, _, hbk2, hce2, hre2⟩ := (HK1.out.gr (hGq.trans hG2)) j2 y2 hy2
            cases hA2
            have hlg2 := lenL_get _ _ _ hy2
            have hst2 : lenL (t.ks.take (j2 + 1)) = lenL (t.ks.take j2) + lenF y2 := by
              rw [take_succ_at hy2, lenL_app]
              simp [lenL]
            have HST2 := Lib.hid hst2
            have HRE2 := Lib.hid hre2
            obtain ⟨e0, e1, e2, e3, e4⟩ := hce2
            have hlt3 : (j2 : Int) < n1 := by omega
            have hlt4 : (0 : Int) ≤ (j2 : Int) := by omega
            clear hy2 hst2 hre2
            go_wp2_with (go_at_call 32; refine (lenRP_any _ d2 y2 _ (HRE2.out.gr (Gr.refl _)) (by omega)).mono ?_; rintro e w5 ⟨rfl, hb5⟩)
            go_roundw
            case rel => exact ⟨j2 + 1, by omega, by go_num, by rw [HST2.out]; go_num, HNB2.out.gr hb5, HSB2.out.gr hb5, hG2.trans hb5⟩
            case measure => simp [intOf] <;> omega
          · obtain rfl : i = j2 := by omega
            have hce3 := HCE.out.keep ((hGq.trans hG2).on anyB) trivial hbk
            obtain ⟨e0, e1, e2, e3, e4⟩ := hce3
            have hbw : bk < wr.heap.size := Gr.lt (hGq.trans hG2) hbk
            have hGw : Gr w wr := hGq.trans hG2
            clear hc k0 k1 k2 k3 k4 s0 s1 f0 f1
            go_wp2_with fail
            go_still_tail 8, (by kernel_rfl)
            have hdr : Gr wr wr.drew := (Gr.refl _).drew
            have hGd := hGw.trans hdr
            have HSBd := Lib.hid (HSB2.out.gr hdr)
            have HNBd := Lib.hid (HNB2.out.gr hdr)
            have z0 := free_of_cells HNBd.out 0
            have z1 := free_of_cells HNBd.out 1
            have z2 := free_of_cells HNBd.out 2
            have z3 := free_of_cells HNBd.out 3
            have z4 := free_of_cells HNBd.out 4
            obtain ⟨k0, k1, k2, k3, k4⟩ := HNBd.out.cells
            simp only at k0 k1 k2 k3 k4
            have hlq := lt_of_block HNBd.out
            have hld := lt_of_block HSBd.out
            change wpList _ _ _ _ _ wr.drew
            generalize wr.drew = w5 at *
            go_wp2_with fail
            go_roundw
            case rel => exact ⟨j + 1, p + (t.l.length + t.x.length) + lenL (t.ks.take i), m, d, y, by omega, by go_num, rfl, HRE.out, HNBd.out.set d, HSBd.out.set d, by rw [← HST.out]; congr 1; omega, by omega, (by with_reducible (repeat (first | exact Gr.refl _ | assumption | apply Gr.alloc | apply Gr.drew | apply Gr.drewN | refine Gr.setCell ?_ (by first | (simp; done) | (simp; omega)) _ | refine Gr.trans ?_ (by assumption))))⟩
            case measure => simp [intOf] <;> omega
    · have hjn : j = n := by omega
      have hq : Q = some (p, t) := by rw [← HSP.out, hjn, ← HZL.out, List.drop_length, spanF]
      have HQZ := Lib.hid hq
      clear hq hjn
      have hb8 : lenF t ≤ 1152921504606846976 := by omega
      have hb9 : p + lenF t ≤ 1152921504606846976 := by omega
      go_wp2_with (go_at_call 32; refine (lenRP_any (m + 1) ⟨t.k, t.l, t.x, A1, n1, c1, t.e⟩ t _ (HT.out.gr hG) hb8).mono ?_; rintro e w5 ⟨rfl, hb5⟩; have s50 := hb5.cell s0; have s51 := hb5.cell s1; have f50 := free_of_cells (HSB.out.gr hb5) 0; have f51 := free_of_cells (HSB.out.gr hb5) 1; have hls5 := Gr.lt hb5 hls)
      refine bodyPost_ret (v := WholeVal Q) ?_ rfl ⟨rfl, ?_⟩
      · rw [HQZ.out]
        simp [results, Try.results20, go_sem, WholeVal, s50, s51]
      · exact (by with_reducible (repeat (first | exact Gr.refl _ | assumption | apply Gr.alloc | apply Gr.drew | apply Gr.drewN | refine Gr.setCell ?_ (by first | (simp; done) | (simp; omega)) _ | refine Gr.trans ?_ (by assumption))))
set_option maxRecDepth 100000 in
set_option maxHeartbeats 4000000 in
theorem innerRP_any (m0 : Nat) (v : ND) (t0 : NT) (A : Option Addr) (n c : Nat) (zs : List Int) (w : World) (hr : NRep anyB m0 w v t0) (hz : IntsAt .i64 w A n zs) (hn : n ≤ 9223372036854775807) (hl : lenF t0 ≤ 1152921504606846976) :
    Calls Try.prog 21 #[.agg #[.int .i64 v.k, .string (bs v.l), .string (bs v.x), .slice v.A v.n v.c, .string (bs v.e)], .slice A n c] w (VPost (InnerVal (spanF t0 zs 0)) w) := by
  have hb := fun q y => spanF_le zs t0 0 q y
  have hgs := getF_span zs t0 0
  have HC : Hid (∀ w', Gr w w' → Calls Try.prog 20 #[.agg #[.int .i64 v.k, .string (bs v.l), .string (bs v.x), .slice v.A v.n v.c, .string (bs v.e)], .slice A n c] w' (VPost (WholeVal (spanF t0 zs 0)) w')) := Lib.hid (fun w' hg => wholeRP_any m0 v t0 A n c zs w' (hr.gr hg) (hz.keep hg) hn hl)
  have HD : Hid (∀ w', Gr w w' → Calls Try.prog 14 #[.agg #[.int .i64 v.k, .string (bs v.l), .string (bs v.x), .slice v.A v.n v.c, .string (bs v.e)], .slice A n c] w' (GetPost (getF t0 zs) w')) := Lib.hid (fun w' hg => getRP_any m0 v t0 A n c zs w' (hr.gr hg) (hz.keep hg) hn)
  generalize spanF t0 zs 0 = Q at *
  have hbn : NBox ((w.alloc (.cells #[.int .i64 v.k, .string (bs v.l), .string (bs v.x), .slice v.A v.n v.c, .string (bs v.e)] 24)).alloc (.cells #[.int .i64 0, .int .i64 0] 40)) w.heap.size v := (heapOld (by simp)).trans (heap_alloc_new w _)
  have hbs : SBox ((w.alloc (.cells #[.int .i64 v.k, .string (bs v.l), .string (bs v.x), .slice v.A v.n v.c, .string (bs v.e)] 24)).alloc (.cells #[.int .i64 0, .int .i64 0] 40)) (w.heap.size + 1) 0 0 := by
    have h := heap_alloc_new (w.alloc (.cells #[.int .i64 v.k, .string (bs v.l), .string (bs v.x), .slice v.A v.n v.c, .string (bs v.e)] 24)) (.cells #[.int .i64 0, .int .i64 0] 40)
    have hz : (w.alloc (.cells #[.int .i64 v.k, .string (bs v.l), .string (bs v.x), .slice v.A v.n v.c, .string (bs v.e)] 24)).heap.size = w.heap.size + 1 := by simp
    rwa [hz] at h
  have hG1 : Gr w ((w.alloc (.cells #[.int .i64 v.k, .string (bs v.l), .string (bs v.x), .slice v.A v.n v.c, .string (bs v.e)] 24)).alloc (.cells #[.int .i64 0, .int .i64 0] 40)) := ((Gr.refl w).alloc _).alloc _
  have HBN := Lib.hid hbn
  have HBS := Lib.hid hbs
  clear hr hz hbn hbs
  cases Q with
  | none =>
    unfold VPost WholeVal at HC
    dsimp only at HC
    clear hb hgs HD
    go_enter Try.func21, Try.ntmps21
    go_wp2_with fail
    refine (HC.out _ hG1).mono ?_
    rintro e w1 ⟨rfl, hb1⟩
    have hs1 := HBS.out.gr hb1
    have s0 := cell_of_cells hs1 0
    have s1 := cell_of_cells hs1 1
    simp only [List.getElem?_toArray, List.getElem?_cons_zero, List.getElem?_cons_succ] at s0 s1
    have f0 := free_of_cells hs1 0
    have f1 := free_of_cells hs1 1
    have hls := lt_of_block hs1
    clear hs1
    go_wp2_with fail
    refine bodyPost_ret (v := InnerVal none) ?_ rfl ⟨rfl, ?_⟩
    · simp [results, Try.results21, go_sem, InnerVal, s0, s1, hls]
    · have hg := hG1.trans hb1
      exact (by with_reducible (repeat (first | exact Gr.refl _ | assumption | apply Gr.alloc | apply Gr.drew | apply Gr.drewN | refine Gr.setCell ?_ (by first | (simp; done) | (simp; omega)) _ | refine Gr.trans ?_ (by assumption))))
  | some qy =>
    obtain ⟨q, y⟩ := qy
    obtain ⟨_, hqb⟩ := hb q y rfl
    have hyl := lenF_eq y
    have hx1 : q + y.l.length ≤ 1152921504606846976 := by omega
    have hx2 : q + lenF y ≤ 1152921504606846976 := by omega
    unfold VPost WholeVal at HC
    dsimp only at HC
    rw [hgs] at HD
    simp only [Option.map_some] at HD
    clear hb hyl hgs
    go_enter Try.func21, Try.ntmps21
    go_wp2_with fail
    refine (HC.out _ hG1).mono ?_
    rintro e w1 ⟨rfl, hb1⟩
    have hg1 := hG1.trans hb1
    have HBS1 := Lib.hid (HBS.out.gr hb1)
    have HBN1 := Lib.hid (HBN.out.gr hb1)
    have hsp : SBox (w1.alloc (.cells #[.int .i64 q, .int .i64 (q + lenF y : Nat)] 40)) w1.heap.size q (q + lenF y : Nat) := heap_alloc_new w1 _
    have HSP := Lib.hid hsp
    obtain ⟨k0, k1, k2, k3, k4⟩ := HBN1.out.cells
    have hlb := lt_of_block HBN1.out
    clear hb1 hsp
    go_wp2_with fail
    refine (HD.out _ (hg1.trans ((Gr.refl _).alloc _))).mono ?_
    rintro e w2 ⟨m2, d2, rfl, hr2, hb2⟩
    have hb2' : Gr w1 w2 := ((Gr.refl w1).alloc _).trans hb2
    obtain ⟨m', _, _, h2l, _⟩ := hr2.parts
    simp only [Option.getD_some] at h2l
    have hg2 := hg1.trans hb2'
    have HBS2 := Lib.hid (HBS1.out.gr hb2')
    have HSP2 := Lib.hid (HSP.out.gr hb2)
    have s0 := cell_of_cells HBS2.out 0
    have s1 := cell_of_cells HBS2.out 1
    have r0 := cell_of_cells HSP2.out 0
    have r1 := cell_of_cells HSP2.out 1
    simp only [List.getElem?_toArray, List.getElem?_cons_zero, List.getElem?_cons_succ] at s0 s1 r0 r1
    have f0 := free_of_cells HBS2.out 0
    have f1 := free_of_cells HBS2.out 1
    have q0 := free_of_cells HSP2.out 0
    have hls := lt_of_block HBS2.out
    have hlp := lt_of_block HSP2.out
    have hne : w.heap.size + 1 < w1.heap.size := lt_of_block HBS1.out
    obtain ⟨dk, dl, dx, dA, dn, dc, de⟩ := d2
    simp only at h2l
    subst h2l
    have hsx : ((bs y.l).size : Int) = y.l.length := rfl
    have hx3 : y.l.length ≤ 1152921504606846976 := by omega
    have hx4 : (q : Int) + y.l.length ≤ 1152921504606846976 := by omega
    clear hr2 hb2 hb2' hg1 k0 k1 k2 k3 k4 hlb
    go_wp2_with fail
    refine bodyPost_ret (v := InnerVal (some (q, y))) ?_ rfl ⟨rfl, ?_⟩
    · simp [results, Try.results21, go_sem, InnerVal, s0, s1, hls]
    · have hnl : w.heap.size ≤ w1.heap.size := by omega
      exact (by with_reducible (repeat (first | exact Gr.refl _ | assumption | apply Gr.alloc | apply Gr.drew | apply Gr.drewN | refine Gr.setCell ?_ (by first | (simp; done) | (simp; omega)) _ | refine Gr.trans ?_ (by assumption))))
end Go.Proofs.Ytklncffhkdbkhaa
