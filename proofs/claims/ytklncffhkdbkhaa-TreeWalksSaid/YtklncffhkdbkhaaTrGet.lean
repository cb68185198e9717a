/- The descendant at given indices, walked: find of package tree and Get of its reference. -/
import Derived.Test.YtklncffhkdbkhaaTrOwn
import Derived.StillTailTactics
namespace Go.Proofs.Ytklncffhkdbkhaa
open Go.ChangeShapes Go.WideShapes Go.ChangeAt Go.RowKit

def zeroD : ND := ⟨0, [], [], none, 0, 0, []⟩
def zeroT : NT := .mk 0 [] [] [] []
theorem zero_rep (P : Nat → Prop) (W : World) : NRep P 1 W zeroD zeroT :=
  ⟨rfl, rfl, rfl, rfl, rfl, Nat.le_refl _, Nat.zero_le _, by decide, Nat.zero_le _, Nat.zero_le _, Nat.zero_le _, fun _ => rfl, fun i y hy => by simp at hy⟩
theorem NBox.set_other {W : World} {b b' : Nat} {d : ND} (h : NBox W b' d) (hne : b' ≠ b) (e : ND) : NBox (((((W.setCell ⟨b, 0, none⟩ (.int .i64 e.k)).setCell ⟨b, 1, none⟩ (.string (bs e.l))).setCell ⟨b, 2, none⟩ (.string (bs e.x))).setCell ⟨b, 3, none⟩ (.slice e.A e.n e.c)).setCell ⟨b, 4, none⟩ (.string (bs e.e))) b' d := by
  have k : ∀ (w : World) (o : Nat) (u : Value), (w.setCell ⟨b, o, none⟩ u).heap[b']? = w.heap[b']? := fun w o u => heap_set_other hne
  unfold NBox at *
  rw [k, k, k, k, k]
  exact h
def GetPost (q : Option NT) (w : World) (e : Ending) (w' : World) : Prop :=
  ∃ (m : Nat) (d : ND), e = .returned (.tuple #[.agg #[.int .i64 d.k, .string (bs d.l), .string (bs d.x), .slice d.A d.n d.c, .string (bs d.e)], .bool q.isSome]) ∧ NRep anyB m w' d (q.getD zeroT) ∧ Gr w w'
def GetRel (w : World) (b0 : Nat) (zs : List Int) (Q : Option NT) (n : Nat) (iv : Value) (wr : World) : Prop :=
  ∃ (j m : Nat) (d : ND) (t : NT), j ≤ n ∧ iv = .int .i64 j ∧ NRep anyB m w d t ∧ NBox wr b0 d ∧ NBox wr (b0 + 1) zeroD ∧ getF t (zs.drop j) = Q ∧ Gr w wr
set_option maxRecDepth 100000 in
set_option maxHeartbeats 4000000 in
theorem findGP_any (m0 : Nat) (v : ND) (t0 : NT) (A : Option Addr) (n c : Nat) (zs : List Int) (w : World) (hr : NRep anyB m0 w v t0) (hz : IntsAt .i64 w A n zs) (hn : n ≤ 9223372036854775807) :
    Calls Try.prog 40 #[.agg #[.int .i64 v.k, .string (bs v.l), .string (bs v.x), .slice v.A v.n v.c, .string (bs v.e)], .slice A n c] w (GetPost (getF t0 zs) w) := by
  generalize hQ : getF t0 zs = Q
  have HQ := Lib.hid hQ
  have HR := Lib.hid hr
  have HZ := Lib.hid hz
  have HZL := Lib.hid hz.1
  clear hr hz hQ
  go_enter Try.func40, Try.ntmps40
  go_wp2_with fail
  have hbn : NBox ((w.alloc (.cells #[.int .i64 v.k, .string (bs v.l), .string (bs v.x), .slice v.A v.n v.c, .string (bs v.e)] 24)).alloc (.cells #[.int .i64 0, .string (bs []), .string (bs []), .slice none 0 0, .string (bs [])] 24)) w.heap.size v := (heapOld (by simp)).trans (heap_alloc_new w _)
  have hbs : NBox ((w.alloc (.cells #[.int .i64 v.k, .string (bs v.l), .string (bs v.x), .slice v.A v.n v.c, .string (bs v.e)] 24)).alloc (.cells #[.int .i64 0, .string (bs []), .string (bs []), .slice none 0 0, .string (bs [])] 24)) (w.heap.size + 1) zeroD := by
    have h := heap_alloc_new (w.alloc (.cells #[.int .i64 v.k, .string (bs v.l), .string (bs v.x), .slice v.A v.n v.c, .string (bs v.e)] 24)) (.cells #[.int .i64 0, .string (bs []), .string (bs []), .slice none 0 0, .string (bs [])] 24)
    have hz : (w.alloc (.cells #[.int .i64 v.k, .string (bs v.l), .string (bs v.x), .slice v.A v.n v.c, .string (bs v.e)] 24)).heap.size = w.heap.size + 1 := by simp
    rwa [hz] at h
  have hG1 : Gr w ((w.alloc (.cells #[.int .i64 v.k, .string (bs v.l), .string (bs v.x), .slice v.A v.n v.c, .string (bs v.e)] 24)).alloc (.cells #[.int .i64 0, .string (bs []), .string (bs []), .slice none 0 0, .string (bs [])] 24)) := ((Gr.refl w).alloc _).alloc _
  have HBN := Lib.hid hbn
  have HBS := Lib.hid hbs
  clear hbn hbs
  have hgen : ∃ W : World, W = ((w.alloc (.cells #[.int .i64 v.k, .string (bs v.l), .string (bs v.x), .slice v.A v.n v.c, .string (bs v.e)] 24)).alloc (.cells #[.int .i64 0, .string (bs []), .string (bs []), .slice none 0 0, .string (bs [])] 24)) := ⟨_, rfl⟩
  obtain ⟨W1, hW1⟩ := hgen
  try rw [← hW1] at HBN HBS hG1
  try change wpList _ _ _ _ _ ((w.alloc (.cells #[.int .i64 v.k, .string (bs v.l), .string (bs v.x), .slice v.A v.n v.c, .string (bs v.e)] 24)).alloc (.cells #[.int .i64 0, .string (bs []), .string (bs []), .slice none 0 0, .string (bs [])] 24))
  generalize hbe : w.heap.size = b0 at *
  go_loopw [10] (fun iv wr => GetRel w b0 zs Q n iv wr) (fun iv _ => n - (intOf iv).toNat)
  case atStart => exact ⟨0, m0, v, t0, Nat.zero_le _, rfl, HR.out, by first | exact HBN.out | (rw [hW1] at HBN; exact HBN.out), by first | exact HBS.out | (rw [hW1] at HBS; exact HBS.out), HQ.out, by first | exact hG1 | (rw [hW1] at hG1; exact hG1)⟩
  case round =>
    obtain ⟨j, m, d, t, hj, rfl, hrt, hnb, hsb, hsp, hG⟩ := hrel
    cases m with
    | zero => exact hrt.elim
    | succ m =>
    obtain ⟨A1, n1, c1, rfl, p1, p2, p3, p4, p5, p6, p7, p8, p9⟩ := hrt.open5
    have HNB := Lib.hid hnb
    have HSB := Lib.hid hsb
    have HSP := Lib.hid hsp
    obtain ⟨k0, k1, k2, k3, k4⟩ := hnb.cells
    obtain ⟨s0, s1, s2, s3, s4⟩ := hsb.cells
    simp only [zeroD] at k0 k1 k2 k3 k4 s0 s1 s2 s3 s4
    have f0 := free_of_cells hsb 0
    have f1 := free_of_cells hsb 1
    have f2 := free_of_cells hsb 2
    have f3 := free_of_cells hsb 3
    have f4 := free_of_cells hsb 4
    have hlb := lt_of_block hnb
    have hls := lt_of_block hsb
    have HT := Lib.hid hrt
    have HN1 := Lib.hid p1
    have HK1 : Hid (Kids anyB m w A1 t.ks) := Lib.hid p9
    have hn163 : n1 ≤ maxLen := Nat.le_trans p2 p3
    unfold maxLen at hn163 p3
    clear hnb hsb hsp hrt p9 p8 p4 p1
    by_cases hlt : j < n
    · obtain ⟨z, hgz⟩ : ∃ z, zs[j]? = some z := ⟨zs[j]'(by rw [HZL.out]; exact hlt), List.getElem?_eq_getElem _⟩
      obtain ⟨_, hwf, h3⟩ := HZ.out.keep hG
      obtain ⟨bz, oz, rfl, hbz, hcell⟩ := h3 (by omega)
      have hc := hcell j hlt
      rw [List.getD, hgz, Option.getD_some] at hc
      have hwz := wf_bounds (hwf z (List.mem_of_getElem? hgz))
      have HDZ := Lib.hid (drop_at hgz)
      have hj0 : (0 : Int) ≤ (j : Int) := by omega
      have hj1 : (j : Int) < (n : Int) := by omega
      clear h3 hcell hwf hgz
      by_cases hbad : z < 0 ∨ (n1 : Int) ≤ z
      · have hq : Q = none := by rw [← HSP.out, HDZ.out]; exact getF_bad (by have := HN1.out; omega)
        have HQZ := Lib.hid hq
        clear hq
        by_cases hz0 : z < 0
        case pos =>
          go_wp2_with fail
          refine bodyPost_ret (v := .tuple #[.agg #[.int .i64 0, .string (bs []), .string (bs []), .slice none 0 0, .string (bs [])], .bool false]) ?_ rfl ?_
          · simp [results, Try.results40, go_sem, s0, s1, s2, s3, s4]
            try rfl
          · rw [HQZ.out]
            exact ⟨1, zeroD, rfl, zero_rep _ _, (by with_reducible (repeat (first | exact Gr.refl _ | assumption | apply Gr.alloc | apply Gr.drew | apply Gr.drewN | refine Gr.setCell ?_ (by first | (simp; done) | (simp; omega)) _ | refine Gr.trans ?_ (by assumption))))⟩
        case neg =>
          have hz1 : (n1 : Int) ≤ z := by omega
          have t1 : decide (z < 0) = false := decide_eq_false hz0
          have t2 : decide ((n1 : Int) ≤ z) = true := decide_eq_true hz1
          go_wp2_with fail
          refine bodyPost_ret (v := .tuple #[.agg #[.int .i64 0, .string (bs []), .string (bs []), .slice none 0 0, .string (bs [])], .bool false]) ?_ rfl ?_
          · simp [results, Try.results40, go_sem, s0, s1, s2, s3, s4]
            try rfl
          · rw [HQZ.out]
            exact ⟨1, zeroD, rfl, zero_rep _ _, (by with_reducible (repeat (first | exact Gr.refl _ | assumption | apply Gr.alloc | apply Gr.drew | apply Gr.drewN | refine Gr.setCell ?_ (by first | (simp; done) | (simp; omega)) _ | refine Gr.trans ?_ (by assumption))))⟩
      · obtain ⟨i, rfl⟩ := Int.eq_ofNat_of_zero_le (show 0 ≤ z by omega)
        have hin : i < n1 := by omega
        obtain ⟨y, hy⟩ : ∃ y, t.ks[i]? = some y := ⟨t.ks[i]'(by rw [← HN1.out]; exact hin), List.getElem?_eq_getElem _⟩
        obtain ⟨bk, ok, d, hA, _, hbk, hce, hre⟩ := HK1.out i y hy
        subst hA
        have hst : getF y (zs.drop (j + 1)) = Q := by rw [← HSP.out, HDZ.out]; exact (getF_go hy).symm
        have HST := Lib.hid hst
        have HRE := Lib.hid hre
        obtain ⟨e0, e1, e2, e3, e4⟩ := hce.keep (hG.on anyB) trivial hbk
        have hbw : bk < wr.heap.size := Gr.lt hG hbk
        have hi1 : (0 : Int) ≤ (i : Int) := by omega
        have hi2 : (i : Int) < (n1 : Int) := by omega
        have t19 : decide ((i : Int) < 0) = false := decide_eq_false (by omega)
        have t25 : decide (n1 ≤ i) = false := decide_eq_false (by omega)
        have z0 := free_of_cells HNB.out 0
        have z1 := free_of_cells HNB.out 1
        have z2 := free_of_cells HNB.out 2
        have z3 := free_of_cells HNB.out 3
        have z4 := free_of_cells HNB.out 4
        clear hy hst hce hre hbad
        go_wp2_with fail
        go_roundw
        case rel => exact ⟨j + 1, m, d, y, by omega, by go_num, HRE.out, HNB.out.set d, HSB.out.set_other (by omega) d, HST.out, (by with_reducible (repeat (first | exact Gr.refl _ | assumption | apply Gr.alloc | apply Gr.drew | apply Gr.drewN | refine Gr.setCell ?_ (by first | (simp; done) | (simp; omega)) _ | refine Gr.trans ?_ (by assumption))))⟩
        case measure => simp [intOf] <;> omega
    · have hjn : j = n := by omega
      have hq : Q = some t := by rw [← HSP.out, hjn, ← HZL.out, List.drop_length, getF]
      have HQZ := Lib.hid hq
      clear hq hjn
      go_wp2_with fail
      refine bodyPost_ret (v := .tuple #[.agg #[.int .i64 t.k, .string (bs t.l), .string (bs t.x), .slice A1 n1 c1, .string (bs t.e)], .bool true]) ?_ rfl ?_
      · simp [results, Try.results40, go_sem, s0, s1, s2, s3, s4]
      · rw [HQZ.out]
        exact ⟨m + 1, ⟨t.k, t.l, t.x, A1, n1, c1, t.e⟩, rfl, HT.out.gr (by with_reducible (repeat (first | exact Gr.refl _ | assumption | apply Gr.alloc | apply Gr.drew | apply Gr.drewN | refine Gr.setCell ?_ (by first | (simp; done) | (simp; omega)) _ | refine Gr.trans ?_ (by assumption)))), (by with_reducible (repeat (first | exact Gr.refl _ | assumption | apply Gr.alloc | apply Gr.drew | apply Gr.drewN | refine Gr.setCell ?_ (by first | (simp; done) | (simp; omega)) _ | refine Gr.trans ?_ (by assumption))))⟩
set_option maxRecDepth 100000 in
set_option maxHeartbeats 4000000 in
theorem getRP_any (m0 : Nat) (v : ND) (t0 : NT) (A : Option Addr) (n c : Nat) (zs : List Int) (w : World) (hr : NRep anyB m0 w v t0) (hz : IntsAt .i64 w A n zs) (hn : n ≤ 9223372036854775807) :
    Calls Try.prog 14 #[.agg #[.int .i64 v.k, .string (bs v.l), .string (bs v.x), .slice v.A v.n v.c, .string (bs v.e)], .slice A n c] w (GetPost (getF t0 zs) w) := by
  generalize hQ : getF t0 zs = Q
  have HQ := Lib.hid hQ
  have HR := Lib.hid hr
  have HZ := Lib.hid hz
  have HZL := Lib.hid hz.1
  clear hr hz hQ
  go_enter Try.func14, Try.ntmps14
  go_wp2_with fail
  have hbn : NBox ((w.alloc (.cells #[.int .i64 v.k, .string (bs v.l), .string (bs v.x), .slice v.A v.n v.c, .string (bs v.e)] 24)).alloc (.cells #[.int .i64 0, .string (bs []), .string (bs []), .slice none 0 0, .string (bs [])] 24)) w.heap.size v := (heapOld (by simp)).trans (heap_alloc_new w _)
  have hbs : NBox ((w.alloc (.cells #[.int .i64 v.k, .string (bs v.l), .string (bs v.x), .slice v.A v.n v.c, .string (bs v.e)] 24)).alloc (.cells #[.int .i64 0, .string (bs []), .string (bs []), .slice none 0 0, .string (bs [])] 24)) (w.heap.size + 1) zeroD := by
    have h := heap_alloc_new (w.alloc (.cells #[.int .i64 v.k, .string (bs v.l), .string (bs v.x), .slice v.A v.n v.c, .string (bs v.e)] 24)) (.cells #[.int .i64 0, .string (bs []), .string (bs []), .slice none 0 0, .string (bs [])] 24)
    have hz : (w.alloc (.cells #[.int .i64 v.k, .string (bs v.l), .string (bs v.x), .slice v.A v.n v.c, .string (bs v.e)] 24)).heap.size = w.heap.size + 1 := by simp
    rwa [hz] at h
  have hG1 : Gr w ((w.alloc (.cells #[.int .i64 v.k, .string (bs v.l), .string (bs v.x), .slice v.A v.n v.c, .string (bs v.e)] 24)).alloc (.cells #[.int .i64 0, .string (bs []), .string (bs []), .slice none 0 0, .string (bs [])] 24)) := ((Gr.refl w).alloc _).alloc _
  have HBN := Lib.hid hbn
  have HBS := Lib.hid hbs
  clear hbn hbs
  have hgen : ∃ W : World, W = ((w.alloc (.cells #[.int .i64 v.k, .string (bs v.l), .string (bs v.x), .slice v.A v.n v.c, .string (bs v.e)] 24)).alloc (.cells #[.int .i64 0, .string (bs []), .string (bs []), .slice none 0 0, .string (bs [])] 24)) := ⟨_, rfl⟩
  obtain ⟨W1, hW1⟩ := hgen
  try rw [← hW1] at HBN HBS hG1
  try change wpList _ _ _ _ _ ((w.alloc (.cells #[.int .i64 v.k, .string (bs v.l), .string (bs v.x), .slice v.A v.n v.c, .string (bs v.e)] 24)).alloc (.cells #[.int .i64 0, .string (bs []), .string (bs []), .slice none 0 0, .string (bs [])] 24))
  generalize hbe : w.heap.size = b0 at *
  go_loopw [6] (fun iv wr => GetRel w b0 zs Q n iv wr) (fun iv _ => n - (intOf iv).toNat)
  case atStart => exact ⟨0, m0, v, t0, Nat.zero_le _, rfl, HR.out, by first | exact HBN.out | (rw [hW1] at HBN; exact HBN.out), by first | exact HBS.out | (rw [hW1] at HBS; exact HBS.out), HQ.out, by first | exact hG1 | (rw [hW1] at hG1; exact hG1)⟩
  case round =>
    obtain ⟨j, m, d, t, hj, rfl, hrt, hnb, hsb, hsp, hG⟩ := hrel
    cases m with
    | zero => exact hrt.elim
    | succ m =>
    obtain ⟨A1, n1, c1, rfl, p1, p2, p3, p4, p5, p6, p7, p8, p9⟩ := hrt.open5
    have HNB := Lib.hid hnb
    have HSB := Lib.hid hsb
    have HSP := Lib.hid hsp
    obtain ⟨k0, k1, k2, k3, k4⟩ := hnb.cells
    obtain ⟨s0, s1, s2, s3, s4⟩ := hsb.cells
    simp only [zeroD] at k0 k1 k2 k3 k4 s0 s1 s2 s3 s4
    have f0 := free_of_cells hsb 0
    have f1 := free_of_cells hsb 1
    have f2 := free_of_cells hsb 2
    have f3 := free_of_cells hsb 3
    have f4 := free_of_cells hsb 4
    have hlb := lt_of_block hnb
    have hls := lt_of_block hsb
    have HT := Lib.hid hrt
    have HN1 := Lib.hid p1
    have HK1 : Hid (Kids anyB m w A1 t.ks) := Lib.hid p9
    have hn163 : n1 ≤ maxLen := Nat.le_trans p2 p3
    unfold maxLen at hn163 p3
    clear hnb hsb hsp hrt p9 p8 p4 p1
    by_cases hlt : j < n
    · obtain ⟨z, hgz⟩ : ∃ z, zs[j]? = some z := ⟨zs[j]'(by rw [HZL.out]; exact hlt), List.getElem?_eq_getElem _⟩
      obtain ⟨_, hwf, h3⟩ := HZ.out.keep hG
      obtain ⟨bz, oz, rfl, hbz, hcell⟩ := h3 (by omega)
      have hc := hcell j hlt
      rw [List.getD, hgz, Option.getD_some] at hc
      have hwz := wf_bounds (hwf z (List.mem_of_getElem? hgz))
      have HDZ := Lib.hid (drop_at hgz)
      have hj0 : (0 : Int) ≤ (j : Int) := by omega
      have hj1 : (j : Int) < (n : Int) := by omega
      clear h3 hcell hwf hgz
      by_cases hbad : z < 0 ∨ (n1 : Int) ≤ z
      · have hq : Q = none := by rw [← HSP.out, HDZ.out]; exact getF_bad (by have := HN1.out; omega)
        have HQZ := Lib.hid hq
        clear hq
        by_cases hz0 : z < 0
        case pos =>
          go_wp2_with fail
          have kq9_0 := cell_regrown hc
          have kq9_1 := cell_regrown k3
          refine wp_region_quiet_below (by kernel_rfl) (by kernel_rfl) ?_
          repeat (go_big_quiet_step (fail))
          refine wpQuiet_nil ?_
          intro wq9 hwq9
          have hbq9 := gr_regrown hwq9
          clear hwq9
          replace kq9_0 := hbq9.cell hc
          replace kq9_1 := hbq9.cell k3
          have hGq := hG.trans hbq9
          have HSBq := Lib.hid (HSB.out.gr hbq9)
          have HNBq := Lib.hid (HNB.out.gr hbq9)
          obtain ⟨s0, s1, s2, s3, s4⟩ := HSBq.out.cells
          simp only [zeroD] at s0 s1 s2 s3 s4
          have f0 := free_of_cells HSBq.out 0
          have f1 := free_of_cells HSBq.out 1
          have f2 := free_of_cells HSBq.out 2
          have f3 := free_of_cells HSBq.out 3
          have f4 := free_of_cells HSBq.out 4
          have hlq := lt_of_block HNBq.out
          have hls := lt_of_block HSBq.out
          go_wp2_with fail
          refine bodyPost_ret (v := .tuple #[.agg #[.int .i64 0, .string (bs []), .string (bs []), .slice none 0 0, .string (bs [])], .bool false]) ?_ rfl ?_
          · simp [results, Try.results14, go_sem, s0, s1, s2, s3, s4]
            try rfl
          · rw [HQZ.out]
            exact ⟨1, zeroD, rfl, zero_rep _ _, (by with_reducible (repeat (first | exact Gr.refl _ | assumption | apply Gr.alloc | apply Gr.drew | apply Gr.drewN | refine Gr.setCell ?_ (by first | (simp; done) | (simp; omega)) _ | refine Gr.trans ?_ (by assumption))))⟩
        case neg =>
          have hz1 : (n1 : Int) ≤ z := by omega
          have t1 : decide (z < 0) = false := decide_eq_false hz0
          have t2 : decide ((n1 : Int) ≤ z) = true := decide_eq_true hz1
          go_wp2_with fail
          have kq9_0 := cell_regrown hc
          have kq9_1 := cell_regrown k3
          refine wp_region_quiet_below (by kernel_rfl) (by kernel_rfl) ?_
          repeat (go_big_quiet_step (fail))
          refine wpQuiet_nil ?_
          intro wq9 hwq9
          have hbq9 := gr_regrown hwq9
          clear hwq9
          replace kq9_0 := hbq9.cell hc
          replace kq9_1 := hbq9.cell k3
          have hGq := hG.trans hbq9
          have HSBq := Lib.hid (HSB.out.gr hbq9)
          have HNBq := Lib.hid (HNB.out.gr hbq9)
          obtain ⟨s0, s1, s2, s3, s4⟩ := HSBq.out.cells
          simp only [zeroD] at s0 s1 s2 s3 s4
          have f0 := free_of_cells HSBq.out 0
          have f1 := free_of_cells HSBq.out 1
          have f2 := free_of_cells HSBq.out 2
          have f3 := free_of_cells HSBq.out 3
          have f4 := free_of_cells HSBq.out 4
          have hlq := lt_of_block HNBq.out
          have hls := lt_of_block HSBq.out
          go_wp2_with fail
          refine bodyPost_ret (v := .tuple #[.agg #[.int .i64 0, .string (bs []), .string (bs []), .slice none 0 0, .string (bs [])], .bool false]) ?_ rfl ?_
          · simp [results, Try.results14, go_sem, s0, s1, s2, s3, s4]
            try rfl
          · rw [HQZ.out]
            exact ⟨1, zeroD, rfl, zero_rep _ _, (by with_reducible (repeat (first | exact Gr.refl _ | assumption | apply Gr.alloc | apply Gr.drew | apply Gr.drewN | refine Gr.setCell ?_ (by first | (simp; done) | (simp; omega)) _ | refine Gr.trans ?_ (by assumption))))⟩
      · obtain ⟨i, rfl⟩ := Int.eq_ofNat_of_zero_le (show 0 ≤ z by omega)
        have hin : i < n1 := by omega
        obtain ⟨y, hy⟩ : ∃ y, t.ks[i]? = some y := ⟨t.ks[i]'(by rw [← HN1.out]; exact hin), List.getElem?_eq_getElem _⟩
        obtain ⟨bk, ok, d, hA, _, hbk, hce, hre⟩ := HK1.out i y hy
        subst hA
        have hst : getF y (zs.drop (j + 1)) = Q := by rw [← HSP.out, HDZ.out]; exact (getF_go hy).symm
        have HST := Lib.hid hst
        have HRE := Lib.hid hre
        obtain ⟨e0, e1, e2, e3, e4⟩ := hce.keep (hG.on anyB) trivial hbk
        have hbw : bk < wr.heap.size := Gr.lt hG hbk
        have hi1 : (0 : Int) ≤ (i : Int) := by omega
        have hi2 : (i : Int) < (n1 : Int) := by omega
        have t19 : decide ((i : Int) < 0) = false := decide_eq_false (by omega)
        have t25 : decide (n1 ≤ i) = false := decide_eq_false (by omega)
        have z0 := free_of_cells HNB.out 0
        have z1 := free_of_cells HNB.out 1
        have z2 := free_of_cells HNB.out 2
        have z3 := free_of_cells HNB.out 3
        have z4 := free_of_cells HNB.out 4
        clear hy hst hce hre hbad
        go_wp2_with fail
        go_wp2_with fail
        have kq9_0 := cell_regrown hc
        have kq9_1 := cell_regrown k3
        refine wp_region_quiet_below (by kernel_rfl) (by kernel_rfl) ?_
        repeat (go_big_quiet_step (fail))
        refine wpQuiet_nil ?_
        intro wq9 hwq9
        have hbq9 := gr_regrown hwq9
        clear hwq9
        replace kq9_0 := hbq9.cell hc
        replace kq9_1 := hbq9.cell k3
        have hGq := hG.trans hbq9
        have HSBq := Lib.hid (HSB.out.gr hbq9)
        have HNBq := Lib.hid (HNB.out.gr hbq9)
        obtain ⟨s0, s1, s2, s3, s4⟩ := HSBq.out.cells
        simp only [zeroD] at s0 s1 s2 s3 s4
        have f0 := free_of_cells HSBq.out 0
        have f1 := free_of_cells HSBq.out 1
        have f2 := free_of_cells HSBq.out 2
        have f3 := free_of_cells HSBq.out 3
        have f4 := free_of_cells HSBq.out 4
        have hlq := lt_of_block HNBq.out
        have hls := lt_of_block HSBq.out
        obtain ⟨k0, k1, k2, k3, k4⟩ := HNBq.out.cells
        simp only at k0 k1 k2 k3 k4
        replace e0 := hbq9.cell e0
        replace e1 := hbq9.cell e1
        replace e2 := hbq9.cell e2
        replace e3 := hbq9.cell e3
        replace e4 := hbq9.cell e4
        have z0 := free_of_cells HNBq.out 0
        have z1 := free_of_cells HNBq.out 1
        have z2 := free_of_cells HNBq.out 2
        have z3 := free_of_cells HNBq.out 3
        have z4 := free_of_cells HNBq.out 4
        have hbwq := Gr.lt hbq9 hbw
        go_wp2_with fail
        go_still_tail 8, (by kernel_rfl)
        have hdr : Gr wq9 wq9.drew := (Gr.refl _).drew
        have hGd := hGq.trans hdr
        have HSBd := Lib.hid (HSBq.out.gr hdr)
        have HNBd := Lib.hid (HNBq.out.gr hdr)
        have z0 := free_of_cells HNBd.out 0
        have z1 := free_of_cells HNBd.out 1
        have z2 := free_of_cells HNBd.out 2
        have z3 := free_of_cells HNBd.out 3
        have z4 := free_of_cells HNBd.out 4
        obtain ⟨k0, k1, k2, k3, k4⟩ := HNBd.out.cells
        simp only at k0 k1 k2 k3 k4
        have hlq := lt_of_block HNBd.out
        have hld := lt_of_block HSBd.out
        change wpList _ _ _ _ _ wq9.drew
        generalize wq9.drew = w5 at *
        go_wp2_with fail
        go_roundw
        case rel => exact ⟨j + 1, m, d, y, by omega, by go_num, HRE.out, HNBd.out.set d, HSBd.out.set_other (by omega) d, HST.out, (by with_reducible (repeat (first | exact Gr.refl _ | assumption | apply Gr.alloc | apply Gr.drew | apply Gr.drewN | refine Gr.setCell ?_ (by first | (simp; done) | (simp; omega)) _ | refine Gr.trans ?_ (by assumption))))⟩
        case measure => simp [intOf] <;> omega
    · have hjn : j = n := by omega
      have hq : Q = some t := by rw [← HSP.out, hjn, ← HZL.out, List.drop_length, getF]
      have HQZ := Lib.hid hq
      clear hq hjn
      go_wp2_with fail
      refine bodyPost_ret (v := .tuple #[.agg #[.int .i64 t.k, .string (bs t.l), .string (bs t.x), .slice A1 n1 c1, .string (bs t.e)], .bool true]) ?_ rfl ?_
      · simp [results, Try.results14, go_sem, s0, s1, s2, s3, s4]
      · rw [HQZ.out]
        exact ⟨m + 1, ⟨t.k, t.l, t.x, A1, n1, c1, t.e⟩, rfl, HT.out.gr (by with_reducible (repeat (first | exact Gr.refl _ | assumption | apply Gr.alloc | apply Gr.drew | apply Gr.drewN | refine Gr.setCell ?_ (by first | (simp; done) | (simp; omega)) _ | refine Gr.trans ?_ (by assumption)))), (by with_reducible (repeat (first | exact Gr.refl _ | assumption | apply Gr.alloc | apply Gr.drew | apply Gr.drewN | refine Gr.setCell ?_ (by first | (simp; done) | (simp; omega)) _ | refine Gr.trans ?_ (by assumption))))⟩
end Go.Proofs.Ytklncffhkdbkhaa
