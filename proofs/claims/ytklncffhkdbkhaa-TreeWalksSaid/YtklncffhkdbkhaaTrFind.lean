/- Find of package tree, walked. -/
import Derived.Test.YtklncffhkdbkhaaTrWhole
import Derived.Test.YtklncffhkdbkhaaInts
namespace Go.Proofs.Ytklncffhkdbkhaa
open Go.ChangeShapes Go.WideShapes Go.ChangeAt Go.RowKit

mutual
/-- The indices of the innermost descendant that has a byte. -/
def findF : NT → Int → List Int
  | .mk _ l x ks _, a => if a - (l.length + x.length : Nat) < 0 then [] else findL ks (a - (l.length + x.length : Nat)) 0
def findL : List NT → Int → Nat → List Int
  | [], _, _ => []
  | y :: r, a, i => if a < lenF y then (i : Int) :: findF y a else findL r (a - lenF y) (i + 1)
end
theorem findF_eq (t : NT) (a : Int) : findF t a = if a - (t.l.length + t.x.length : Nat) < 0 then [] else findL t.ks (a - (t.l.length + t.x.length : Nat)) 0 := by
  obtain ⟨k, l, x, ks, e⟩ := t
  rw [findF]
  rfl
theorem findL_go {ks : List NT} {j : Nat} {y : NT} {a : Int} {i : Nat} (h : ks[j]? = some y) (hc : ¬ a < lenF y) : findL (ks.drop j) a i = findL (ks.drop (j + 1)) (a - lenF y) (i + 1) := by
  rw [drop_at h, findL, if_neg hc]
theorem findL_hit {ks : List NT} {j : Nat} {y : NT} {a : Int} {i : Nat} (h : ks[j]? = some y) (hc : a < lenF y) : findL (ks.drop j) a i = (i : Int) :: findF y a := by
  rw [drop_at h, findL, if_pos hc]
def FindRel (w : World) (b0 : Nat) (T : Nat) (N : Nat) (L : List Int) (av ov : Value) (wr : World) : Prop :=
  ∃ (a : Nat) (m k : Nat) (d : ND) (t : NT) (out : List Int), av = .int .i64 a ∧ (a : Int) < lenF t ∧ lenF t ≤ T ∧ countF t ≤ 1000000 ∧ NRep anyB m w d t ∧ NBox wr b0 d ∧ OwnN wr w.heap.size ov k out ∧ out ++ findF t a = L ∧ k + depthF t ≤ N ∧ (∀ z ∈ out, 0 ≤ z ∧ z ≤ 4194304) ∧ Gr w wr
def KidRel (w : World) (b0 : Nat) (d : ND) (ks : List NT) (a1 n : Nat) (av iv wv : Value) (wr : World) : Prop :=
  ∃ (j a : Nat), j ≤ n ∧ iv = .int .i64 j ∧ av = .int .i64 a ∧ wv = .int .i64 (-1) ∧ a ≤ a1 ∧ findL (ks.drop j) a j = findL ks a1 0 ∧ NBox wr b0 d ∧ Gr w wr
def FindPost (q : Option (List Int)) (w : World) (e : Ending) (w' : World) : Prop := match q with
  | none => e = .returned (.tuple #[.slice none 0 0, .bool false]) ∧ Gr w w'
  | some l => ∃ A n c, e = .returned (.tuple #[.slice A n c, .bool true]) ∧ n ≤ c ∧ c ≤ maxLen ∧ IntsAt .i64 w' A n l ∧ Gr w w'
set_option maxRecDepth 100000 in
set_option maxHeartbeats 4000000 in
theorem findP_neg (m0 : Nat) (v : ND) (t0 : NT) (a : Int) (w : World) (_hr : NRep anyB m0 w v t0) (_hl : lenF t0 ≤ 1152921504606846976) (ha : a < 0) : Calls Try.prog 22 #[.agg #[.int .i64 v.k, .string (bs v.l), .string (bs v.x), .slice v.A v.n v.c, .string (bs v.e)], .int .i64 a] w (FindPost none w) := by
  clear _hr _hl
  go_enter Try.func22, Try.ntmps22
  go_wp2_with fail
  go_ret2
  exact ⟨rfl, (by with_reducible (repeat (first | exact Gr.refl _ | assumption | apply Gr.alloc | apply Gr.drew | apply Gr.drewN | refine Gr.setCell ?_ (by first | (simp; done) | (simp; omega)) _ | refine Gr.trans ?_ (by assumption))))⟩
set_option maxRecDepth 100000 in
set_option maxHeartbeats 4000000 in
theorem findP_past (m0 : Nat) (v : ND) (t0 : NT) (a : Int) (w : World) (hr : NRep anyB m0 w v t0) (hl : lenF t0 ≤ 1152921504606846976) (ha : 0 ≤ a) (hp : (lenF t0 : Int) ≤ a) : Calls Try.prog 22 #[.agg #[.int .i64 v.k, .string (bs v.l), .string (bs v.x), .slice v.A v.n v.c, .string (bs v.e)], .int .i64 a] w (FindPost none w) := by
  have HL : Hid (∀ w', Gr w w' → Calls Try.prog 31 #[.agg #[.int .i64 v.k, .string (bs v.l), .string (bs v.x), .slice v.A v.n v.c, .string (bs v.e)]] w' (RI (lenF t0) w')) := Lib.hid (fun w' hg => lenP_any m0 v t0 w' (hr.gr hg) hl)
  clear hr
  generalize lenF t0 = T at *
  go_enter Try.func22, Try.ntmps22
  go_wp2_with fail
  refine (HL.out _ ((Gr.refl w).alloc _)).mono ?_
  rintro e w1 ⟨rfl, hb1⟩
  go_wp2_with fail
  go_ret2
  exact ⟨rfl, (by with_reducible (repeat (first | exact Gr.refl _ | assumption | apply Gr.alloc | apply Gr.drew | apply Gr.drewN | refine Gr.setCell ?_ (by first | (simp; done) | (simp; omega)) _ | refine Gr.trans ?_ (by assumption))))⟩
set_option maxRecDepth 100000 in
set_option maxHeartbeats 4000000 in
theorem findP_in (m0 : Nat) (v : ND) (t0 : NT) (a0 : Nat) (w : World) (hr : NRep anyB m0 w v t0) (hl : lenF t0 ≤ 1152921504606846976) (ha : (a0 : Int) < lenF t0) (hd : depthF t0 ≤ 1000000) (hc : countF t0 ≤ 1000000) : Calls Try.prog 22 #[.agg #[.int .i64 v.k, .string (bs v.l), .string (bs v.x), .slice v.A v.n v.c, .string (bs v.e)], .int .i64 a0] w (FindPost (some (findF t0 a0)) w) := by
  have HL : Hid (∀ w', Gr w w' → Calls Try.prog 31 #[.agg #[.int .i64 v.k, .string (bs v.l), .string (bs v.x), .slice v.A v.n v.c, .string (bs v.e)]] w' (RI (lenF t0) w')) := Lib.hid (fun w' hg => lenP_any m0 v t0 w' (hr.gr hg) hl)
  have HR := Lib.hid hr
  generalize hLQ : findF t0 a0 = LQ
  have HLQ := Lib.hid hLQ
  obtain ⟨i0, hi, hz0, hz1, hz2⟩ := info_parts infoInt
  have t12 : decide ((a0 : Int) < 0) = false := decide_eq_false (by omega)
  have t17 : decide (lenF t0 ≤ a0) = false := decide_eq_false (by omega)
  clear hr hLQ
  go_enter Try.func22, Try.ntmps22
  go_wp2_with fail
  refine (HL.out _ ((Gr.refl w).alloc _)).mono ?_
  rintro e w1 ⟨rfl, hb1⟩
  have hbn : NBox (w.alloc (.cells #[.int .i64 v.k, .string (bs v.l), .string (bs v.x), .slice v.A v.n v.c, .string (bs v.e)] 24)) w.heap.size v := heap_alloc_new w _
  have HBN := Lib.hid (hbn.gr hb1)
  have hG1 : Gr w w1 := ((Gr.refl w).alloc _).trans hb1
  clear hbn hb1
  go_wp2_with fail
  go_loopw [1, 6] (fun av ov wr => FindRel w w.heap.size (lenF t0) (depthF t0) LQ av ov wr) (fun _ ov _ => depthF t0 - slLen ov)
  case atStart => exact ⟨a0, m0, 0, v, t0, [], rfl, ha, Nat.le_refl _, hc, HR.out, HBN.out, World.ownsRow_nil _ _ _ _, HLQ.out, by omega, (fun _ h => by cases h), hG1⟩
  case round =>
    obtain ⟨a, m, k, d, t, out, rfl, hal, hlt0, hct, hrt, hnb, hown, hfin, hkd, hsm, hG⟩ := hrel
    cases m with
    | zero => exact hrt.elim
    | succ m =>
    obtain ⟨A1, n1, c1, rfl, p1, p2, p3, p4, p5, p6, p7, p8, p9⟩ := hrt.open5
    obtain ⟨A5, c5, rfl⟩ := own_form hown
    have HNB := Lib.hid hnb
    have HOWN := Lib.hid hown
    have HFIN := Lib.hid hfin
    have HSM := Lib.hid hsm
    obtain ⟨k0, k1, k2, k3, k4⟩ := hnb.cells
    simp only at k0 k1 k2 k3 k4
    have hlb := lt_of_block hnb
    have hsx : ((bs t.l).size : Int) = t.l.length := rfl
    have hsy : ((bs t.x).size : Int) = t.x.length := rfl
    have HN1 := Lib.hid p1
    have HK1 : Hid (Kids anyB m w A1 t.ks) := Lib.hid p9
    have hll := lenF_eq t
    have hff := findF_eq t a
    have hdd := depthF_eq t
    have hcc := countF_eq t
    have hkl := countL_length t.ks
    have hn163 : n1 ≤ 1000000 := by omega
    have HFF := Lib.hid hff
    clear hnb hown hfin hrt p9 p8 p4 hsm hff p1
    by_cases hlead : (a : Int) - (t.l.length + t.x.length : Nat) < 0
    · have hq : LQ = out := by rw [← HFIN.out, HFF.out, if_pos hlead, List.append_nil]
      have hlead2 : (a : Int) - ((t.l.length : Int) + t.x.length) < 0 := by omega
      have HQ := Lib.hid hq
      clear hq
      go_wp2_with fail
      go_ret2
      obtain ⟨A6, c6, hv6, h5, h6, h7⟩ := IntsAt.of_own (HOWN.out.to rfl) (fun z hz => by have := HSM.out z hz; omega)
      rw [HOWN.out.len] at hv6 h7
      simp only [Value.slice.injEq, true_and] at hv6
      obtain ⟨rfl, rfl⟩ := hv6
      rw [HQ.out]
      exact ⟨A5, k, c5, rfl, by have := HOWN.out.len; omega, h6, h7, hG⟩
    · obtain ⟨a1, ha1⟩ : ∃ a1 : Nat, (a : Int) - ((t.l.length : Int) + t.x.length) = a1 := ⟨a - (t.l.length + t.x.length), by omega⟩
      have hq : out ++ findL t.ks a1 0 = LQ := by rw [← HFIN.out, HFF.out, if_neg hlead, ← ha1]; congr 2
      have HQ := Lib.hid hq
      have hab : a1 ≤ a := by omega
      clear hq hlead
      go_wp2_with fail
      obtain ⟨wo, rfl⟩ : ∃ wo : World, wo = wr := ⟨_, rfl⟩
      go_loopw [1, 34, 7] (fun av iv wv wr => KidRel wo w.heap.size ⟨t.k, t.l, t.x, A1, n1, c1, t.e⟩ t.ks a1 n1 av iv wv wr) (fun _ iv _ _ => n1 - (intOf iv).toNat)
      case atStart => exact ⟨0, a1, Nat.zero_le _, rfl, rfl, rfl, Nat.le_refl _, rfl, HNB.out, Gr.refl _⟩
      case round =>
        obtain ⟨j, a2, hj, rfl, rfl, rfl, ha2, hfl, hnb2, hG2⟩ := hrel
        have HFL := Lib.hid hfl
        have HNB2 := Lib.hid hnb2
        obtain ⟨g0, g1, g2, g3, g4⟩ := hnb2.cells
        simp only at g0 g1 g2 g3 g4
        have hlb2 := lt_of_block hnb2
        clear hnb2 hfl
        by_cases hlt : j < n1
        · obtain ⟨y, hy⟩ : ∃ y, t.ks[j]? = some y := ⟨t.ks[j]'(by rw [← HN1.out]; omega), List.getElem?_eq_getElem _⟩
          have HY := Lib.hid hy
          have hcey := HK1.out j y hy
          obtain ⟨bk, ok, d, hA, _, hbk, hce, hre⟩ := hcey
          subst hA
          have hla := lenL_at hy
          have hcg := countL_get _ _ _ hy
          have hdg := depthL_get _ _ _ hy
          have HRE := Lib.hid hre
          have HCE := Lib.hid hce
          have hce2 := hce.keep ((hG.trans hG2).on anyB) trivial hbk
          have hbw : bk < wr.heap.size := Gr.lt (hG.trans hG2) hbk
          obtain ⟨e0, e1, e2, e3, e4⟩ := hce2
          clear hy hce hre
          by_cases hhit : a2 < lenF y
          · have hhit3 : (a2 : Int) < lenF y := by omega
            have hq2 : out ++ ((j : Int) :: findF y a2) = LQ := by rw [← HQ.out, ← HFL.out, findL_hit HY.out hhit3]
            have HQ2 := Lib.hid hq2
            have z0 := free_of_cells HNB2.out 0
            have z1 := free_of_cells HNB2.out 1
            have z2 := free_of_cells HNB2.out 2
            have z3 := free_of_cells HNB2.out 3
            have z4 := free_of_cells HNB2.out 4
            have hdz := depthF_eq t
            clear hq2
            go_wp2_with fail
            refine (lenP_any _ d y _ (HRE.out.gr ((hG.trans hG2).alloc _)) (by omega)).mono ?_
            rintro e w5 ⟨rfl, hb5⟩
            have hb5' := ((Gr.refl wr).alloc _).trans hb5
            have hG5 : Gr w w5 := (hG.trans hG2).trans hb5'
            have HO5 : Hid (OwnN w5 w.heap.size (.slice A5 k c5) k out) := Lib.hid (own_same HOWN.out (fun b hb => (hG2.trans hb5').block b (HOWN.out.lt b hb).2))
            have HNB5 := Lib.hid (HNB2.out.gr hb5')
            have hw5 := Below.size hG5
            go_wp2_with (at_builtin; go_must (refine wpList_append_own _ rfl (.tmp 52) (.tmp 54) 32 rfl w.heap.size 3 i0 _ 1 8 Try.underlying32 hi hz0 hz1 hz2 rfl (by decide) _ k _ rfl (HO5.out.alloc _) ⟨w5.heap.size, 0, none⟩ 1 1 [.int .i64 j] rfl rfl (news_new (by simp)) (by simp [Value.oneCell']) (by unfold maxLen; omega) (by omega) (by simp; omega) ?_); intro v6 w6 hown6 hgrow6 _; have hne6 : some w.heap.size ≠ (Value.slice A5 k c5).ownBlock := (fun he => own_type HO5.out HNB5.out (by decide) he.symm); have hnb6 : NBox w6 w.heap.size ⟨t.k, t.l, t.x, some ⟨bk, ok, none⟩, n1, c1, t.e⟩ := (hgrow6.block _ (by have := lt_of_block HNB5.out; simp; omega) hne6).trans ((heapOld (lt_of_block HNB5.out)).trans HNB5.out); have HNB6 := Lib.hid hnb6; have y0 := cell_of_cells hnb6 0; have y1 := cell_of_cells hnb6 1; have y2 := cell_of_cells hnb6 2; have y3 := cell_of_cells hnb6 3; have y4 := cell_of_cells hnb6 4; have x0 := free_of_cells hnb6 0; have x1 := free_of_cells hnb6 1; have x2 := free_of_cells hnb6 2; have x3 := free_of_cells hnb6 3; have x4 := free_of_cells hnb6 4; have hG6 : Gr w w6 := Gr.grownOwn (hG5.alloc _) hgrow6 (fun k hk => (HO5.out.lt k hk).1); have hce6 := HCE.out.keep (hG6.on anyB) trivial hbk; obtain ⟨f0, f1, f2, f3, f4⟩ := hce6; have HO6 := Lib.hid (OwnN.snoc hown6 rfl); obtain ⟨A6, c6, rfl⟩ := own_form hown6; clear hnb6 hgrow6 hown6)
            go_roundw
            case rel => exact ⟨a2, m, k + 1, d, y, out ++ [(j : Int)], rfl, hhit3, by omega, by omega, HRE.out, HNB6.out.set d, own_same HO6.out (fun b hb => by
              have hne : b ≠ w.heap.size := fun he => own_type HO6.out HNB6.out (by decide) (by rw [hb, he])
              rw [heap_set_other hne, heap_set_other hne, heap_set_other hne, heap_set_other hne, heap_set_other hne]), by rw [← HQ2.out, List.append_assoc]; rfl, by omega, (fun z hz => by
              rcases List.mem_append.1 hz with hz | hz
              · exact HSM.out z hz
              · rw [List.mem_singleton] at hz; omega), (by with_reducible (repeat (first | exact Gr.refl _ | assumption | apply Gr.alloc | apply Gr.drew | apply Gr.drewN | refine Gr.setCell ?_ (by first | (simp; done) | (simp; omega)) _ | refine Gr.trans ?_ (by assumption))))⟩
            case measure => simp [slLen]; omega
          · have hst := findL_go (a := (a2 : Int)) (i := j) HY.out (by omega)
            obtain ⟨a3, ha3⟩ : ∃ a3 : Nat, (a2 : Int) - lenF y = a3 := ⟨a2 - lenF y, by omega⟩
            rw [ha3, HFL.out] at hst
            have HST := Lib.hid hst
            have hhit2 : (lenF y : Int) ≤ a2 := by omega
            clear hst
            go_wp2_with (go_at_call 31; refine (lenP_any _ d y _ (HRE.out.gr ((hG.trans hG2).alloc _)) (by omega)).mono ?_; rintro e w5 ⟨rfl, hb5⟩)
            have hb5' := ((Gr.refl wr).alloc _).trans hb5
            go_roundw
            case rel => exact ⟨j + 1, a3, by omega, by go_num, rfl, rfl, by omega, HST.out.symm, HNB2.out.gr hb5', hG2.trans hb5'⟩
            case measure => simp [intOf] <;> omega
        · have hnil : findL t.ks a1 0 = [] := by rw [← HFL.out, List.drop_of_length_le (by have := HN1.out; omega), findL]
          have hq2 : LQ = out := by rw [← HQ.out, hnil, List.append_nil]
          have HQ2 := Lib.hid hq2
          clear hq2 hnil
          go_wp2_with fail
          go_ret2
          have HOW2 : OwnN wr w.heap.size (.slice A5 k c5) k out := own_same HOWN.out (fun b hb => hG2.block b (HOWN.out.lt b hb).2)
          obtain ⟨A6, c6, hv6, h5, h6, h7⟩ := IntsAt.of_own (HOW2.to rfl) (fun z hz => by have := HSM.out z hz; omega)
          rw [HOW2.len] at hv6 h7
          simp only [Value.slice.injEq, true_and] at hv6
          obtain ⟨rfl, rfl⟩ := hv6
          rw [HQ2.out]
          exact ⟨A5, k, c5, rfl, by have := HOW2.len; omega, h6, h7, hG.trans hG2⟩
end Go.Proofs.Ytklncffhkdbkhaa
