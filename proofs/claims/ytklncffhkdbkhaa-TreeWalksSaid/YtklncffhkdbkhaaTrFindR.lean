/- Find of the reference, and whether two lists of ints are the same, walked. -/
import Derived.Test.YtklncffhkdbkhaaTrFind
import Derived.Test.YtklncffhkdbkhaaApp
namespace Go.Proofs.Ytklncffhkdbkhaa
open Go.ChangeShapes Go.WideShapes Go.ChangeAt Go.RowKit

theorem IntsAt.of_ownw {W : World} {B n : Nat} {v : Value} {zs : List Int} (hown : OwnN W B v n zs) (hs : ∀ z ∈ zs, (Lit.int .i64 z).wf = true) : ∃ A c, v = .slice A n c ∧ n ≤ c ∧ c ≤ maxLen ∧ IntsAt .i64 W A n zs := by
  have hl := hown.len
  have hown' := hown
  rcases hown.2 with ⟨rfl, h0⟩ | ⟨g, cap, cur, rfl, _, hh, hc, hm, _⟩
  · subst h0
    exact ⟨none, 0, rfl, by omega, Nat.zero_le _, hl, hs, fun h => absurd h (by omega)⟩
  · refine ⟨_, _, rfl, hc, hm, hl, hs, fun _ => ⟨g, 0, rfl, lt_of_block hh, fun i hi => ?_⟩⟩
    have h2 := World.ownsRow.cellAt hown' i (by simpa [hl] using hi)
    rw [List.getElem?_map, List.getElem?_eq_getElem (by omega)] at h2
    simpa [List.getD, List.getElem?_eq_getElem (show i < zs.length by omega)] using h2
mutual
theorem findF_len : ∀ (t : NT) (a : Int), (findF t a).length + 1 ≤ depthF t
  | .mk k l x ks e, a => by
    rw [findF, depthF]
    split
    · simp
    · have := findL_len ks (a - (l.length + x.length : Nat)) 0
      omega
theorem findL_len : ∀ (l : List NT) (a : Int) (i : Nat), (findL l a i).length ≤ depthL l
  | [], a, i => by rw [findL]; simp
  | y :: r, a, i => by
    rw [findL, depthL]
    split
    · have := findF_len y a
      rw [List.length_cons]; omega
    · have := findL_len r (a - lenF y) (i + 1)
      omega
end
def FrRel (w : World) (b0 : Nat) (d : ND) (ks : List NT) (Q : List Int) (n : Nat) (av iv : Value) (wr : World) : Prop :=
  ∃ (j : Nat) (a : Int), j ≤ n ∧ iv = .int .i64 j ∧ av = .int .i64 a ∧ (a < 0 → Q = []) ∧ (0 ≤ a → findL (ks.drop j) a j = Q) ∧ -1152921504606846976 ≤ a ∧ a ≤ 1152921504606846976 ∧ NBox wr b0 d ∧ Gr w wr
theorem nil_post (w w' : World) (hg : Gr w w') (q : List Int) (hq : q = []) : FindPost (some q) w (.returned (.tuple #[.slice none 0 0, .bool true])) w' := by
  subst hq
  exact ⟨none, 0, 0, rfl, Nat.le_refl _, Nat.zero_le _, ⟨rfl, (fun _ h => by cases h), fun h => absurd h (by omega)⟩, hg⟩
set_option maxRecDepth 100000 in
set_option maxHeartbeats 4000000 in
theorem findRP_in : ∀ (m : Nat) (v : ND) (t : NT) (a0 : Nat) (w : World), NRep anyB m w v t → lenF t ≤ 1152921504606846976 → (a0 : Int) < lenF t → depthF t ≤ 1000000 → countF t ≤ 1000000 → Calls Try.prog 23 #[.agg #[.int .i64 v.k, .string (bs v.l), .string (bs v.x), .slice v.A v.n v.c, .string (bs v.e)], .int .i64 a0] w (FindPost (some (findF t a0)) w) := by
  intro m
  induction m with
  | zero => intro v t a0 w h; exact h.elim
  | succ m ih =>
    intro v t a0 w hr hl ha hd hc
    have HL : Hid (∀ w', Gr w w' → Calls Try.prog 32 #[.agg #[.int .i64 v.k, .string (bs v.l), .string (bs v.x), .slice v.A v.n v.c, .string (bs v.e)]] w' (RI (lenF t) w')) := Lib.hid (fun w' hg => lenRP_any (m + 1) v t w' (hr.gr hg) hl)
    obtain ⟨A, n, c, rfl, p1, p2, p3, p4, p5, p6, p7, p8, p9⟩ := hr.open5
    have hn63 : n ≤ maxLen := Nat.le_trans p2 p3
    unfold maxLen at hn63 p3
    have HI := Lib.hid ih
    have HN := Lib.hid p1
    have HK0 : Hid (Kids anyB m w A t.ks) := Lib.hid p9
    have hff := findF_eq t a0
    have hdd := depthF_eq t
    have hcc := countF_eq t
    have hll := lenF_eq t
    have hkl := countL_length t.ks
    have hn6 : n ≤ 1000000 := by omega
    obtain ⟨i0, hi, hz0, hz1, hz2⟩ := info_parts infoInt
    have t12 : decide ((a0 : Int) < 0) = false := decide_eq_false (by omega)
    have t17 : decide (lenF t ≤ a0) = false := decide_eq_false (by omega)
    generalize hLQ : findF t a0 = LQ at *
    have HFF := Lib.hid hff
    dsimp only at HL ⊢
    have hsx : ((bs t.l).size : Int) = t.l.length := rfl
    have hsy : ((bs t.x).size : Int) = t.x.length := rfl
    obtain ⟨a1, ha1⟩ : ∃ a1 : Int, (a0 : Int) - (t.l.length : Int) - (t.x.length : Int) = a1 := ⟨_, rfl⟩
    have hq1 : a1 < 0 → LQ = [] := fun h => by rw [HFF.out, if_pos (by omega)]
    have hq2 : 0 ≤ a1 → findL (t.ks.drop 0) a1 0 = LQ := fun h => by
      rw [HFF.out, if_neg (by omega), List.drop_zero]
      congr 1
      omega
    have HQ1 := Lib.hid hq1
    have HQ2 := Lib.hid hq2
    have hab : -1152921504606846976 ≤ a1 ∧ a1 ≤ 1152921504606846976 := by omega
    have HAB := Lib.hid hab
    have hbl : t.l.length ≤ 1152921504606846976 := by omega
    have hbx : t.x.length ≤ 1152921504606846976 := by omega
    have hba : a0 ≤ 1152921504606846976 := by omega
    have hkd : depthL t.ks ≤ 1000000 := by omega
    have hkc : countL t.ks ≤ 1000000 := by omega
    have hkln : lenL t.ks ≤ 1152921504606846976 := by omega
    clear ih hr p9 p8 p4 p1 hff hdd hcc hll hkl hLQ hq1 hq2 hab ha
    go_enter Try.func23, Try.ntmps23
    go_wp2_with fail
    refine (HL.out _ ((Gr.refl w).alloc _)).mono ?_
    rintro e w1 ⟨rfl, hb1⟩
    have hbn : NBox (w.alloc (.cells #[.int .i64 t.k, .string (bs t.l), .string (bs t.x), .slice A n c, .string (bs t.e)] 24)) w.heap.size ⟨t.k, t.l, t.x, A, n, c, t.e⟩ := heap_alloc_new w _
    have HBN := Lib.hid (hbn.gr hb1)
    have hG1 : Gr w w1 := ((Gr.refl w).alloc _).trans hb1
    obtain ⟨k0, k1, k2, k3, k4⟩ := HBN.out.cells
    simp only at k0 k1 k2 k3 k4
    have hlb := lt_of_block HBN.out
    clear hbn hb1 HL
    go_wp2_with fail
    try rw [ha1]
    have HA1 := Lib.hid ha1
    clear ha1
    go_loopw [1, 6] (fun av iv wr => FrRel w w.heap.size ⟨t.k, t.l, t.x, A, n, c, t.e⟩ t.ks LQ n av iv wr) (fun _ iv _ => n - (intOf iv).toNat)
    case atStart => exact ⟨0, a1, Nat.zero_le _, rfl, by first | rfl | rw [← HA1.out], HQ1.out, HQ2.out, HAB.out.1, HAB.out.2, HBN.out, hG1⟩
    case round =>
      obtain ⟨j, a, hj, rfl, rfl, hneg, hpos, hb1, hb2, hnb, hG⟩ := hrel
      have HNEG := Lib.hid hneg
      have HPOS := Lib.hid hpos
      have HNB := Lib.hid hnb
      obtain ⟨g0, g1, g2, g3, g4⟩ := hnb.cells
      simp only at g0 g1 g2 g3 g4
      have hlb2 := lt_of_block hnb
      clear hneg hpos hnb k0 k1 k2 k3 k4
      by_cases hlt : j < n
      · by_cases hlo : a < 0
        · have hq := HNEG.out hlo
          have HQ := Lib.hid hq
          clear hq
          go_wp2_with fail
          go_ret2
          exact nil_post w wr hG _ HQ.out
        · obtain ⟨a, rfl⟩ := Int.eq_ofNat_of_zero_le (show 0 ≤ a by omega)
          have hq := HPOS.out (by omega)
          have HQ := Lib.hid hq
          obtain ⟨y, hy⟩ : ∃ y, t.ks[j]? = some y := ⟨t.ks[j]'(by rw [← HN.out]; omega), List.getElem?_eq_getElem _⟩
          have HY := Lib.hid hy
          obtain ⟨bk, ok, d, hA, _, hbk, hce, hre⟩ := HK0.out j y hy
          subst hA
          have hlg := lenL_get _ _ _ hy
          have hcg := countL_get _ _ _ hy
          have hdg := depthL_get _ _ _ hy
          have HRE := Lib.hid hre
          have HCE := Lib.hid hce
          have hbw : bk < wr.heap.size := Gr.lt hG hbk
          obtain ⟨e0, e1, e2, e3, e4⟩ := hce.keep (hG.on anyB) trivial hbk
          have hj0 : (0 : Int) ≤ (j : Int) := by omega
          have hj1 : (j : Int) < (n : Int) := by omega
          have tneg : decide ((a : Int) < 0) = false := decide_eq_false (by omega)
          clear hy hce hre hq hlo
          go_wp2_with fail
          refine (lenRP_any _ d y _ (HRE.out.gr (hG.trans (Gr.refl _))) (by omega)).mono ?_
          rintro e w5 ⟨rfl, hb5⟩
          have hG5 := hG.trans hb5
          have HNB5 := Lib.hid (HNB.out.gr hb5)
          by_cases hhit : a < lenF y
          · have hhit3 : (a : Int) < lenF y := by omega
            have hq2 : ((j : Int) :: findF y a) = LQ := by rw [← HQ.out, findL_hit HY.out hhit3]
            have hfl := findF_len y a
            have HQ2 := Lib.hid hq2
            obtain ⟨k0, k1, k2, k3, k4⟩ := HNB5.out.cells
            simp only at k0 k1 k2 k3 k4
            obtain ⟨e0, e1, e2, e3, e4⟩ := HCE.out.keep (hG5.on anyB) trivial hbk
            have hbw5 : bk < w5.heap.size := Gr.lt hG5 hbk
            have hlb5 := lt_of_block HNB5.out
            clear hq2 hb5
            go_wp2_with fail
            refine (HI.out d y a _ (HRE.out.gr hG5) (by omega) hhit3 (by omega) (by omega)).mono ?_
            rintro e w6 ⟨A6, n6, c6, rfl, hn6c, hc6, hia, hb6⟩
            have hG6 := hG5.trans hb6
            have hl6 := hia.1
            have HIA := Lib.hid hia
            have hn6b : n6 ≤ 1000000 := by omega
            have HL6 := Lib.hid hl6
            have hjw : (Lit.int .i64 (j : Int)).wf = true := wf_int (by omega)
            have HJW := Lib.hid hjw
            have hfr := heap_alloc_new w6 (.cells #[.int .i64 (j : Int)] 3)
            have HO6 := Lib.hid (own_fresh (W := w6.alloc (.cells #[.int .i64 (j : Int)] 3)) (base := w.heap.size) (n := 1) (size := 1) (cs := [.int .i64 (j : Int)]) hfr (Below.size hG6) rfl (Nat.le_refl _) rfl (by unfold maxLen; omega))
            have HS6 := Lib.hid (HIA.out.src.gr ((Gr.refl w6).alloc (.cells #[.int .i64 (j : Int)] 3)))
            have hsz6 : w.heap.size ≤ (w6.alloc (.cells #[.int .i64 (j : Int)] 3)).heap.size := by have := Below.size hG6; simp; omega
            clear hia hb6 hl6 hjw hfr hfl k0 k1 k2 k3 k4
            unfold maxLen at hc6
            go_wp2_with (at_builtin; go_must (refine wpList_app rfl (.tmp 56) (.tmp 57) 32 rfl w.heap.size 3 i0 _ 1 8 Try.underlying32 hi hz0 hz1 hz2 rfl (by decide) _ 1 _ rfl HO6.out A6 n6 c6 _ rfl HS6.out (by unfold maxLen; omega) (by omega) hsz6 ?_); intro v7 w7 hown7 hgrow7; have hG7 : Gr w w7 := Gr.grownOwn (hG6.alloc _) hgrow7 (fun k hk => (HO6.out.lt k hk).1); have HO7 : Hid (OwnN w7 w.heap.size v7 (1 + n6) ((j : Int) :: findF y a)) := Lib.hid hown7; clear hown7 hgrow7)
            go_ret2
            obtain ⟨A7, c7, rfl, q1, q2, q3⟩ := IntsAt.of_ownw HO7.out (fun z hz => by
              rcases List.mem_cons.1 hz with rfl | hz
              · exact HJW.out
              · exact HIA.out.2.1 z hz)
            rw [← HQ2.out]
            exact ⟨A7, _, c7, rfl, q1, q2, q3, hG7⟩
          · have hst := findL_go (a := (a : Int)) (i := j) HY.out (by omega)
            rw [HQ.out] at hst
            have HST := Lib.hid hst
            have hhit2 : (lenF y : Int) ≤ a := by omega
            clear hst hb5
            go_wp2_with fail
            go_roundw
            case rel => exact ⟨j + 1, (a : Int) - lenF y, by omega, by go_num, rfl, fun h => absurd h (by omega), fun _ => HST.out.symm, by omega, by omega, HNB5.out, hG5⟩
            case measure => simp [intOf] <;> omega
      · have hq : LQ = [] := by
          by_cases hlo : a < 0
          · exact HNEG.out hlo
          · rw [← HPOS.out (by omega), List.drop_of_length_le (by have := HN.out; omega), findL]
        have HQ := Lib.hid hq
        clear hq
        go_wp2_with fail
        go_ret2
        exact nil_post w wr hG _ HQ.out
set_option maxRecDepth 100000 in
set_option maxHeartbeats 4000000 in
theorem findRP_neg (v : ND) (a : Int) (w : World) (ha : a < 0) : Calls Try.prog 23 #[.agg #[.int .i64 v.k, .string (bs v.l), .string (bs v.x), .slice v.A v.n v.c, .string (bs v.e)], .int .i64 a] w (FindPost none w) := by
  go_enter Try.func23, Try.ntmps23
  go_wp2_with fail
  go_ret2
  exact ⟨rfl, (by with_reducible (repeat (first | exact Gr.refl _ | assumption | apply Gr.alloc | apply Gr.drew | apply Gr.drewN | refine Gr.setCell ?_ (by first | (simp; done) | (simp; omega)) _ | refine Gr.trans ?_ (by assumption))))⟩
set_option maxRecDepth 100000 in
set_option maxHeartbeats 4000000 in
theorem findRP_past (m0 : Nat) (v : ND) (t0 : NT) (a : Int) (w : World) (hr : NRep anyB m0 w v t0) (hl : lenF t0 ≤ 1152921504606846976) (ha : 0 ≤ a) (hp : (lenF t0 : Int) ≤ a) : Calls Try.prog 23 #[.agg #[.int .i64 v.k, .string (bs v.l), .string (bs v.x), .slice v.A v.n v.c, .string (bs v.e)], .int .i64 a] w (FindPost none w) := by
  have HL : Hid (∀ w', Gr w w' → Calls Try.prog 32 #[.agg #[.int .i64 v.k, .string (bs v.l), .string (bs v.x), .slice v.A v.n v.c, .string (bs v.e)]] w' (RI (lenF t0) w')) := Lib.hid (fun w' hg => lenRP_any m0 v t0 w' (hr.gr hg) hl)
  clear hr
  generalize lenF t0 = T at *
  go_enter Try.func23, Try.ntmps23
  go_wp2_with fail
  refine (HL.out _ ((Gr.refl w).alloc _)).mono ?_
  rintro e w1 ⟨rfl, hb1⟩
  go_wp2_with fail
  go_ret2
  exact ⟨rfl, (by with_reducible (repeat (first | exact Gr.refl _ | assumption | apply Gr.alloc | apply Gr.drew | apply Gr.drewN | refine Gr.setCell ?_ (by first | (simp; done) | (simp; omega)) _ | refine Gr.trans ?_ (by assumption))))⟩
def InRel (w : World) (n : Nat) (iv : Value) (wr : World) : Prop := ∃ j : Nat, j ≤ n ∧ iv = .int .i64 j ∧ Gr w wr
set_option maxRecDepth 100000 in
set_option maxHeartbeats 4000000 in
theorem intsP_same (A A' : Option Addr) (n c c' : Nat) (zs : List Int) (w : World) (hz : IntsAt .i64 w A n zs) (hz' : IntsAt .i64 w A' n zs) (hn : n ≤ 9223372036854775807) :
    Calls Try.prog 16 #[.slice A n c, .slice A' n c'] w (RB true w) := by
  have HZ := Lib.hid hz
  have HZ' := Lib.hid hz'
  clear hz hz'
  go_enter Try.func16, Try.ntmps16
  go_wp2_with fail
  go_loopw [5] (fun iv wr => InRel w n iv wr) (fun iv _ => n - (intOf iv).toNat)
  case atStart => exact ⟨0, Nat.zero_le _, rfl, Gr.refl _⟩
  case round =>
    obtain ⟨j, hj, rfl, hG⟩ := hrel
    by_cases hlt : j < n
    · obtain ⟨_, _, h3⟩ := HZ.out.keep hG
      obtain ⟨_, _, h3'⟩ := HZ'.out.keep hG
      obtain ⟨bz, oz, rfl, hbz, hcell⟩ := h3 (by omega)
      obtain ⟨bz', oz', rfl, hbz', hcell'⟩ := h3' (by omega)
      have ha := hcell j hlt
      have hb := hcell' j hlt
      generalize zs.getD j 0 = z at ha hb
      have hj0 : (0 : Int) ≤ (j : Int) := by omega
      have hj1 : (j : Int) < (n : Int) := by omega
      clear h3 h3' hcell hcell'
      go_wp2_with fail
      have kq9_0 := cell_regrown ha
      have kq9_1 := cell_regrown hb
      refine wp_region_quiet_below (by kernel_rfl) (by kernel_rfl) ?_
      repeat (go_big_quiet_step (fail))
      refine wpQuiet_nil ?_
      intro wq9 hwq9
      have hbq9 := gr_regrown hwq9
      clear hwq9
      replace kq9_0 := hbq9.cell ha
      replace kq9_1 := hbq9.cell hb
      go_wp2_with fail
      go_roundw
      case rel => exact ⟨j + 1, by omega, by go_num, hG.trans hbq9⟩
      case measure => simp [intOf] <;> omega
    · go_wp2_with fail
      go_ret
      exact ⟨rfl, hG⟩
end Go.Proofs.Ytklncffhkdbkhaa
