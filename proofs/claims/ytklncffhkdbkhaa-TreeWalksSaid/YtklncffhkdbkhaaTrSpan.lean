/- The span of a descendant, walked. -/
import Derived.Test.YtklncffhkdbkhaaTrPrt2
import Derived.Deep.RegionHeld3
import Derived.Deep.DrawnRows
namespace Go.Proofs.Ytklncffhkdbkhaa
open Go.ChangeShapes Go.WideShapes Go.ChangeAt Go.RowKit
attribute [local go_sem ↓] Go.wp_at_zero Go.wp_at_succ

/-- The descendant at these indices: where its text begins, and itself. -/
def spanF : NT → List Int → Nat → Option (Nat × NT)
  | t, [], p => some (p, t)
  | t, i :: r, p => if 0 ≤ i ∧ i < t.ks.length then (match t.ks[i.toNat]? with
      | some y => spanF y r (p + t.l.length + t.x.length + lenL (t.ks.take i.toNat))
      | none => none) else none
theorem spanF_bad {t : NT} {i : Int} {r : List Int} {p : Nat} (h : i < 0 ∨ (t.ks.length : Int) ≤ i) : spanF t (i :: r) p = none := by
  rw [spanF, if_neg (by omega)]
theorem spanF_go {t y : NT} {i : Nat} {r : List Int} {p : Nat} (h : t.ks[i]? = some y) : spanF t ((i : Int) :: r) p = spanF y r (p + t.l.length + t.x.length + lenL (t.ks.take i)) := by
  have hi := (List.getElem?_eq_some_iff.1 h).1
  rw [spanF, if_pos (by omega), Int.toNat_natCast, h]
theorem lenL_at {t y : NT} {i : Nat} (h : t.ks[i]? = some y) : t.l.length + t.x.length + lenL (t.ks.take i) + lenF y ≤ lenF t := by
  have h1 := lenL_get _ _ _ h
  have h2 := lenF_eq t
  omega
def NBox (W : World) (b : Nat) (d : ND) : Prop := W.heap[b]? = some (.cells #[.int .i64 d.k, .string (bs d.l), .string (bs d.x), .slice d.A d.n d.c, .string (bs d.e)] 24 (0, 0))
def SBox (W : World) (b : Nat) (f t : Int) : Prop := W.heap[b]? = some (.cells #[.int .i64 f, .int .i64 t] 40 (0, 0))
theorem NBox.cells {W : World} {b : Nat} {d : ND} (h : NBox W b d) : W.cell? ⟨b, 0, none⟩ = some (.int .i64 d.k) ∧ W.cell? ⟨b, 1, none⟩ = some (.string (bs d.l)) ∧ W.cell? ⟨b, 2, none⟩ = some (.string (bs d.x)) ∧ W.cell? ⟨b, 3, none⟩ = some (.slice d.A d.n d.c) ∧ W.cell? ⟨b, 4, none⟩ = some (.string (bs d.e)) :=
  ⟨cell_of_cells h 0, cell_of_cells h 1, cell_of_cells h 2, cell_of_cells h 3, cell_of_cells h 4⟩
theorem free_of_cells {W : World} {b : Nat} {cs : Array Value} {t : TypeId} (h : W.heap[b]? = some (.cells cs t (0, 0))) (o : Nat) : W.frozen? ⟨b, o, none⟩ = false := by simp [World.frozen?, h]
theorem NBox.gr {W w : World} {b : Nat} {d : ND} (h : NBox W b d) (hg : Gr W w) : NBox w b d := (hg.block b (lt_of_block h)).trans h
theorem SBox.gr {W w : World} {b : Nat} {f t : Int} (h : SBox W b f t) (hg : Gr W w) : SBox w b f t := (hg.block b (lt_of_block h)).trans h
theorem NBox.set {W : World} {b : Nat} {d : ND} (h : NBox W b d) (e : ND) : NBox (((((W.setCell ⟨b, 0, none⟩ (.int .i64 e.k)).setCell ⟨b, 1, none⟩ (.string (bs e.l))).setCell ⟨b, 2, none⟩ (.string (bs e.x))).setCell ⟨b, 3, none⟩ (.slice e.A e.n e.c)).setCell ⟨b, 4, none⟩ (.string (bs e.e))) b e := by
  unfold NBox at *
  simp [World.setCell, Array.getElem?_modify, h]
theorem heap_set_other {w : World} {a : Addr} {u : Value} {k : Nat} (h : k ≠ a.block) : (w.setCell a u).heap[k]? = w.heap[k]? := Below.heap_setCell _ _ _ _ h
theorem SBox.set {W : World} {b : Nat} {f t : Int} (h : SBox W (b + 1) f t) (e : ND) : SBox (((((W.setCell ⟨b, 0, none⟩ (.int .i64 e.k)).setCell ⟨b, 1, none⟩ (.string (bs e.l))).setCell ⟨b, 2, none⟩ (.string (bs e.x))).setCell ⟨b, 3, none⟩ (.slice e.A e.n e.c)).setCell ⟨b, 4, none⟩ (.string (bs e.e))) (b + 1) f t := by
  have k : ∀ (w : World) (o : Nat) (u : Value), (w.setCell ⟨b, o, none⟩ u).heap[b + 1]? = w.heap[b + 1]? := fun w o u => heap_set_other (show b + 1 ≠ b by omega)
  unfold SBox at *
  rw [k, k, k, k, k]
  exact h
def SpanVal (q : Option (Nat × NT)) : Value := match q with
  | none => .tuple #[.agg #[.int .i64 0, .int .i64 0], .int .i64 0, .int .i64 7]
  | some (p, t) => .tuple #[.agg #[.int .i64 p, .int .i64 (p + lenF t : Nat)], .int .i64 t.l.length, .int .i64 0]
def SpanPost (q : Option (Nat × NT)) (w : World) (e : Ending) (w' : World) : Prop := e = .returned (SpanVal q) ∧ Gr w w'
def SpRel (w : World) (b0 : Nat) (zs : List Int) (T : Nat) (Q : Option (Nat × NT)) (n : Nat) (fv iv : Value) (wr : World) : Prop :=
  ∃ (j p m : Nat) (d : ND) (t : NT), j ≤ n ∧ iv = .int .i64 j ∧ fv = .int .i64 p ∧ NRep anyB m w d t ∧ NBox wr b0 d ∧ SBox wr (b0 + 1) 0 0 ∧ spanF t (zs.drop j) p = Q ∧ p + lenF t ≤ T ∧ Gr w wr
def SumRel (w : World) (b0 : Nat) (d : ND) (ks : List NT) (p0 : Nat) (n : Nat) (fv iv : Value) (wr : World) : Prop :=
  ∃ j : Nat, j ≤ n ∧ iv = .int .i64 j ∧ fv = .int .i64 (p0 + lenL (ks.take j) : Nat) ∧ NBox wr b0 d ∧ SBox wr (b0 + 1) 0 0 ∧ Gr w wr
set_option maxRecDepth 100000 in
set_option maxHeartbeats 4000000 in
theorem spanP_any (m0 : Nat) (v : ND) (t0 : NT) (A : Option Addr) (n c : Nat) (zs : List Int) (w : World) (hr : NRep anyB m0 w v t0) (hz : IntsAt .i64 w A n zs) (hn : n ≤ 9223372036854775807) (hl : lenF t0 ≤ 1152921504606846976) :
    Calls Try.prog 42 #[.agg #[.int .i64 v.k, .string (bs v.l), .string (bs v.x), .slice v.A v.n v.c, .string (bs v.e)], .slice A n c] w (SpanPost (spanF t0 zs 0) w) := by
  generalize hQ : spanF t0 zs 0 = Q
  have HQ := Lib.hid hQ
  have HR := Lib.hid hr
  have HZ := Lib.hid hz
  have HZL := Lib.hid hz.1
  clear hr hz hQ
  go_enter Try.func42, Try.ntmps42
  go_wp2_with fail
  have hbn : NBox ((w.alloc (.cells #[.int .i64 v.k, .string (bs v.l), .string (bs v.x), .slice v.A v.n v.c, .string (bs v.e)] 24)).alloc (.cells #[.int .i64 0, .int .i64 0] 40)) w.heap.size v := (heapOld (by simp)).trans (heap_alloc_new w _)
  have hbs : SBox ((w.alloc (.cells #[.int .i64 v.k, .string (bs v.l), .string (bs v.x), .slice v.A v.n v.c, .string (bs v.e)] 24)).alloc (.cells #[.int .i64 0, .int .i64 0] 40)) (w.heap.size + 1) 0 0 := by
    have h := heap_alloc_new (w.alloc (.cells #[.int .i64 v.k, .string (bs v.l), .string (bs v.x), .slice v.A v.n v.c, .string (bs v.e)] 24)) (.cells #[.int .i64 0, .int .i64 0] 40)
    have hz : (w.alloc (.cells #[.int .i64 v.k, .string (bs v.l), .string (bs v.x), .slice v.A v.n v.c, .string (bs v.e)] 24)).heap.size = w.heap.size + 1 := by simp
    rwa [hz] at h
  have hG1 : Gr w ((w.alloc (.cells #[.int .i64 v.k, .string (bs v.l), .string (bs v.x), .slice v.A v.n v.c, .string (bs v.e)] 24)).alloc (.cells #[.int .i64 0, .int .i64 0] 40)) := ((Gr.refl w).alloc _).alloc _
  have HBN := Lib.hid hbn
  have HBS := Lib.hid hbs
  clear hbn hbs
  generalize ((w.alloc (.cells #[.int .i64 v.k, .string (bs v.l), .string (bs v.x), .slice v.A v.n v.c, .string (bs v.e)] 24)).alloc (.cells #[.int .i64 0, .int .i64 0] 40)) = W1 at *
  have hb0 : w.heap.size ≤ w.heap.size := Nat.le_refl _
  generalize hbe : w.heap.size = b0 at *
  go_loopw [7, 14] (fun fv iv wr => SpRel w b0 zs (lenF t0) Q n fv iv wr) (fun _ iv _ => n - (intOf iv).toNat)
  case atStart => exact ⟨0, 0, m0, v, t0, Nat.zero_le _, rfl, rfl, HR.out, HBN.out, HBS.out, HQ.out, by omega, hG1⟩
  case round =>
    obtain ⟨j, p, m, d, t, hj, rfl, rfl, hrt, hnb, hsb, hsp, hpl, hG⟩ := hrel
    cases m with
    | zero => exact hrt.elim
    | succ m =>
    obtain ⟨A1, n1, c1, rfl, p1, p2, p3, p4, p5, p6, p7, p8, p9⟩ := hrt.open5
    have HNB := Lib.hid hnb
    have HSB := Lib.hid hsb
    have HSP := Lib.hid hsp
    obtain ⟨k0, k1, k2, k3, k4⟩ := hnb.cells
    have s0 := cell_of_cells hsb 0
    have s1 := cell_of_cells hsb 1
    have f0 := free_of_cells hsb 0
    have f1 := free_of_cells hsb 1
    simp only [List.getElem?_toArray, List.getElem?_cons_zero, List.getElem?_cons_succ] at k0 k1 k2 k3 k4 s0 s1
    have hlb := lt_of_block hnb
    have hls := lt_of_block hsb
    have hsx : ((bs t.l).size : Int) = t.l.length := rfl
    have hsy : ((bs t.x).size : Int) = t.x.length := rfl
    have HT := Lib.hid hrt
    have HN1 := Lib.hid p1
    have HK1 : Hid (Kids anyB m w A1 t.ks) := Lib.hid p9
    have hll := lenF_eq t
    have hn163 : n1 ≤ maxLen := Nat.le_trans p2 p3
    unfold maxLen at hn163 p3
    have hb7 : p + t.l.length + t.x.length + lenL t.ks ≤ 1152921504606846976 := by omega
    have HLL := Lib.hid hll
    clear hnb hsb hsp hrt p9 p8 p4 p1 hll
    by_cases hlt : j < n
    · obtain ⟨z, hgz⟩ : ∃ z, zs[j]? = some z := ⟨zs[j]'(by rw [HZL.out]; exact hlt), List.getElem?_eq_getElem _⟩
      obtain ⟨_, hwf, h3⟩ := HZ.out.keep hG
      obtain ⟨bz, oz, rfl, hbz, hcell⟩ := h3 (by omega)
      have hc := hcell j hlt
      rw [List.getD, hgz, Option.getD_some] at hc
      have hwz := wf_bounds (hwf z (List.mem_of_getElem? hgz))
      have HDZ := Lib.hid (drop_at hgz)
      clear h3 hcell hwf hgz
      by_cases hbad : z < 0 ∨ (n1 : Int) ≤ z
      · have hq : Q = none := by rw [← HSP.out, HDZ.out]; exact spanF_bad (by have := HN1.out; omega)
        have HQZ := Lib.hid hq
        clear hq
        by_cases hz0 : z < 0
        all_goals
          go_wp2_with fail
          refine bodyPost_ret (v := SpanVal Q) ?_ rfl ⟨rfl, ?_⟩
          · rw [HQZ.out]
            simp [results, Try.results42, go_sem, SpanVal, s0, s1]
          · exact (by with_reducible (repeat (first | exact Gr.refl _ | assumption | apply Gr.alloc | apply Gr.drew | apply Gr.drewN | refine Gr.setCell ?_ (by first | (simp; done) | (simp; omega)) _ | refine Gr.trans ?_ (by assumption))))
      · obtain ⟨i, rfl⟩ := Int.eq_ofNat_of_zero_le (show 0 ≤ z by omega)
        have hin : i < n1 := by omega
        obtain ⟨y, hy⟩ : ∃ y, t.ks[i]? = some y := ⟨t.ks[i]'(by rw [← HN1.out]; exact hin), List.getElem?_eq_getElem _⟩
        have HY := Lib.hid hy
        obtain ⟨bk, ok, d, hA, _, hbk, hce, hre⟩ := HK1.out i y hy
        subst hA
        have hla := lenL_at hy
        have hlg := lenL_get _ _ _ hy
        have hst : spanF y (zs.drop (j + 1)) (p + t.l.length + t.x.length + lenL (t.ks.take i)) = Q := by rw [← HSP.out, HDZ.out]; exact (spanF_go hy).symm
        have HST := Lib.hid hst
        have HCE := Lib.hid hce
        have HRE := Lib.hid hre
        have hi1 : (0 : Int) ≤ (i : Int) := by omega
        have hi2 : (i : Int) < (n1 : Int) := by omega
        have hi3 : (i : Int) ≤ (c1 : Int) := by omega
        have hi4 : i ≤ c1 := by omega
        have t19 : decide ((i : Int) < 0) = false := decide_eq_false (by omega)
        have t25 : decide (n1 ≤ i) = false := decide_eq_false (by omega)
        clear hy hst hce hre hbad
        go_wp2_with fail
        obtain ⟨wo, rfl⟩ : ∃ wo : World, wo = wr := ⟨_, rfl⟩
        go_loopw [7, 42] (fun fv iv wr => SumRel wo b0 ⟨t.k, t.l, t.x, some ⟨bk, ok, none⟩, n1, c1, t.e⟩ t.ks (p + (t.l.length + t.x.length)) i fv iv wr) (fun _ iv _ => i - (intOf iv).toNat)
        case atStart => exact ⟨0, Nat.zero_le _, rfl, by simp [lenL], HNB.out, HSB.out, Gr.refl _⟩
        case round =>
          obtain ⟨j2, hj2, rfl, rfl, hnb2, hsb2, hG2⟩ := hrel
          have HNB2 := Lib.hid hnb2
          have HSB2 := Lib.hid hsb2
          obtain ⟨g0, g1, g2, g3, g4⟩ := hnb2.cells
          simp only at g0 g1 g2 g3 g4
          have hlb2 := lt_of_block hnb2
          have hls2 := lt_of_block hsb2
          clear hnb2 hsb2
          by_cases hlt2 : j2 < i
          · obtain ⟨y2, hy2⟩ : ∃ y, t.ks[j2]? = some y := ⟨t.ks[j2]'(by rw [← HN1.out]; omega), List.getElem?_eq_getElem _⟩
            have HY2 := Lib.hid hy2
            obtain ⟨bk2, ok2, d2, hA2, _, hbk2, hce2, hre2⟩ := (HK1.out.gr (hG.trans hG2)) j2 y2 hy2
            cases hA2
            have hlg2 := lenL_get _ _ _ hy2
            have hst2 : lenL (t.ks.take (j2 + 1)) = lenL (t.ks.take j2) + lenF y2 := by
              rw [take_succ_at hy2, lenL_app]
              simp [lenL]
            have HST2 := Lib.hid hst2
            have HRE2 := Lib.hid hre2
            obtain ⟨e0, e1, e2, e3, e4⟩ := hce2
            have hlt3 : j2 < n1 := by omega
            clear hy2 hst2 hre2
            go_wp2_with (go_at_call 31; refine (lenP_any _ d2 y2 _ (HRE2.out.gr ((Gr.refl _).alloc _)) (by omega)).mono ?_; rintro e w5 ⟨rfl, hb5⟩)
            have hb5' := ((Gr.refl wr).alloc _).trans hb5
            go_roundw
            case rel => exact ⟨j2 + 1, by omega, by go_num, by rw [HST2.out]; go_num, HNB2.out.gr hb5', HSB2.out.gr hb5', hG2.trans hb5'⟩
            case measure => simp [intOf] <;> omega
          · obtain rfl : i = j2 := by omega
            have hce3 := HCE.out.keep ((hG.trans hG2).on anyB) trivial hbk
            obtain ⟨e0, e1, e2, e3, e4⟩ := hce3
            have hbw : bk < wr.heap.size := Gr.lt (hG.trans hG2) hbk
            have z0 := free_of_cells HNB2.out 0
            have z1 := free_of_cells HNB2.out 1
            have z2 := free_of_cells HNB2.out 2
            have z3 := free_of_cells HNB2.out 3
            have z4 := free_of_cells HNB2.out 4
            go_wp2_with fail
            have hGw : Gr w wr := hG.trans hG2
            go_roundw
            case rel => exact ⟨j + 1, p + (t.l.length + t.x.length) + lenL (t.ks.take i), m, d, y, by omega, by go_num, rfl, HRE.out, HNB2.out.set d, HSB2.out.set d, by rw [← HST.out]; congr 1; omega, by omega, (by with_reducible (repeat (first | exact Gr.refl _ | assumption | apply Gr.alloc | apply Gr.drew | apply Gr.drewN | refine Gr.setCell ?_ (by first | (simp; done) | (simp; omega)) _ | refine Gr.trans ?_ (by assumption))))⟩
            case measure => simp [intOf] <;> omega
    · have hjn : j = n := by omega
      have hq : Q = some (p, t) := by rw [← HSP.out, hjn, ← HZL.out, List.drop_length, spanF]
      have HQZ := Lib.hid hq
      clear hq hjn
      have hb8 : lenF t ≤ 1152921504606846976 := by omega
      have hb9 : p + lenF t ≤ 1152921504606846976 := by omega
      have hwr : IntKind.i64.wrap ((p : Int) + (lenF t : Int)) = (p : Int) + (lenF t : Int) := by rw [IntKind.wrap_i64]; omega
      have HWR := Lib.hid hwr
      clear hwr
      go_wp2_with fail
      have hwr := HWR.out
      go_region_held3 (fun w' => w'.cell? ⟨b0, 0, none⟩ = some (.int .i64 t.k) ∧ w'.cell? ⟨b0, 1, none⟩ = some (.string (bs t.l)) ∧ w'.cell? ⟨b0, 2, none⟩ = some (.string (bs t.x)) ∧ w'.cell? ⟨b0, 3, none⟩ = some (.slice A1 n1 c1) ∧ w'.cell? ⟨b0, 4, none⟩ = some (.string (bs t.e)))
        (go_keep)
        ((go_at_call 31; refine (lenP_any (m + 1) ⟨t.k, t.l, t.x, A1, n1, c1, t.e⟩ t _ (HT.out.gr (by with_reducible (repeat (first | exact Gr.refl _ | assumption | apply Gr.alloc | apply Gr.drew | apply Gr.drewN | refine Gr.setCell ?_ (by first | (simp; done) | (simp; omega)) _ | refine Gr.trans ?_ (by assumption))))) hb8).mono ?_; rintro e w5 ⟨rfl, hb5⟩; obtain ⟨hc5, hf5, _⟩ := Gr.cells hb5; have c50 := fun o => hc5 b0 o (by first | assumption | (simp; done) | (simp; omega)); have c51 := fun o => hc5 (b0 + 1) o (by first | assumption | (simp; done) | (simp; omega)); have f51 := fun o => hf5 (b0 + 1) o (by first | assumption | (simp; done) | (simp; omega)); clear hc5 hf5))
      all_goals go_wp2_with fail
      all_goals
        refine bodyPost_ret (v := SpanVal Q) ?_ rfl ⟨rfl, ?_⟩
        · rw [HQZ.out]
          simp [results, Try.results42, go_sem, SpanVal, c51, s0, s1]
        · exact (by with_reducible (repeat (first | exact Gr.refl _ | assumption | apply Gr.alloc | apply Gr.drew | apply Gr.drewN | refine Gr.setCell ?_ (by first | (simp; done) | (simp; omega)) _ | refine Gr.trans ?_ (by assumption))))
end Go.Proofs.Ytklncffhkdbkhaa
