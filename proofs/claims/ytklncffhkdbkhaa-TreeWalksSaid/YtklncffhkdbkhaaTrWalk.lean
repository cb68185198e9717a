/- walk, walked: it hands over each node with its indices. -/
import Derived.Test.YtklncffhkdbkhaaTrWalkG
import Derived.Test.YtklncffhkdbkhaaTrClone
namespace Go.Proofs.Ytklncffhkdbkhaa
open Go.ChangeShapes Go.WideShapes Go.ChangeAt Go.RowKit
open Go.Shelf
attribute [local go_sem] Oper.semAt_some

/-- What is handed over: the indices' slice and the node's cells; what they mean. -/
structure WX where
  (A : Option Addr) (n c : Nat) (zs : List Int) (d : ND) (t : NT) (m : Nat)
def encW (x : WX) : Array Value := #[.slice x.A x.n x.c, .agg #[.int .i64 x.d.k, .string (bs x.d.l), .string (bs x.d.x), .slice x.d.A x.d.n x.d.c, .string (bs x.d.e)]]
def OkW (L : List (List Int × NT)) (pre : List WX) (x : WX) (W : World) : Prop := L[pre.length]? = some (x.zs, x.t) ∧ RowI W x.A x.n x.c x.zs ∧ NRep anyB x.m W x.d x.t
def YieldW (L : List (List Int × NT)) (B l : Nat) (J Jx : List WX → World → Prop) : Prop :=
  ∀ k pre x W, J pre W → OkW L pre x W → YieldAt Fence.wide k Try.prog l (encW x) W fun e W' => (e = .returned (.bool true) ∧ J (pre ++ [x]) W' ∧ KeepT B W W') ∨ (e = .returned (.bool false) ∧ Jx (pre ++ [x]) W')
def WalkPost (B c : Nat) (J Jx : List WX → World → Prop) (pre : List WX) (W : World) (e : Ending) (W' : World) : Prop :=
  (e = .returned (.bool true) ∧ (∃ xs : List WX, xs.length = c ∧ J (pre ++ xs) W') ∧ KeepT B W W') ∨ (e = .returned (.bool false) ∧ ∃ q : List WX, Jx (pre ++ q) W')
def WaRel (B b0 : Nat) (J : List WX → World → Prop) (pre : List WX) (d : ND) (ks : List NT) (W1 : World) (n : Nat) (iv : Value) (wr : World) : Prop :=
  ∃ (j : Nat) (xs : List WX), j ≤ n ∧ iv = .int .i64 j ∧ xs.length = 1 + countL (ks.take j) ∧ J (pre ++ xs) wr ∧ NBox wr b0 d ∧ KeepT B W1 wr
def P1 (B : Nat) (J Jx : List WX → World → Prop) (pre : List WX) (W : World) (r : Bool) (W2 : World) : Prop := ∃ x, (r = true ∧ J (pre ++ [x]) W2 ∧ KeepT B W W2) ∨ (r = false ∧ Jx (pre ++ [x]) W2)
def P6 (B c : Nat) (J Jx : List WX → World → Prop) (pre : List WX) (W : World) (r : Bool) (W2 : World) : Prop := (r = true ∧ (∃ xs : List WX, xs.length = c ∧ J (pre ++ xs) W2) ∧ KeepT B W W2) ∨ (r = false ∧ ∃ q : List WX, Jx (pre ++ q) W2)
theorem depthL_get2 : ∀ (l : List NT) (i : Nat) (y : NT), l[i]? = some y → depthF y ≤ depthL l := depthL_get
set_option maxRecDepth 100000 in
set_option maxHeartbeats 20000000 in
theorem walk_in (L : List (List Int × NT)) (Bk l B0 : Nat) (J Jx : List WX → World → Prop) (hJ : AbidesFrom B0 J) (hY : YieldW L Bk l J Jx) :
    ∀ (m : Nat) (v : ND) (t : NT) (k : Nat) (pre : List WX) (W : World) (A0 : Option Addr) (n0 c0 : Nat) (zs : List Int), NRep (fun b => b < Bk) m W v t → J pre W → RowI W A0 n0 c0 zs → n0 + depthF t ≤ 1000000 → countF t ≤ 1000000 →
      (∀ j e, (walkN t zs)[j]? = some e → L[pre.length + j]? = some e) →
      CallsIn Fence.wide k Try.prog 39 #[.agg #[.int .i64 v.k, .string (bs v.l), .string (bs v.x), .slice v.A v.n v.c, .string (bs v.e)], .slice A0 n0 c0, .func (.yield l) #[] #[]] W (WalkPost Bk (countF t) J Jx pre W) := by
  intro m
  induction m with
  | zero => intro v t k pre W A0 n0 c0 zs h; exact h.elim
  | succ m ih =>
    intro v t k pre W A0 n0 c0 zs hr hp hrow hdep hcnt hL
    obtain ⟨m1, hm1⟩ : ∃ m1, m1 = m + 1 := ⟨_, rfl⟩
    have HRA := Lib.hid (NRep.mono (P := fun b => b < Bk) (Q := anyB) (fun _ _ => trivial) hr)
    rw [← hm1] at HRA
    obtain ⟨A, n, c, rfl, p1, p2, p3, p4, p5, p6, p7, p8, p9⟩ := hr.open5
    have hn63 : n ≤ maxLen := Nat.le_trans p2 p3
    unfold maxLen at hn63 p3
    have HI := Lib.hid ih
    have HN := Lib.hid p1
    have HK0 : Hid (Kids (fun b => b < Bk) m W A t.ks) := Lib.hid p9
    have HCC := Lib.hid (countF_eq t)
    have HDD := Lib.hid (depthF_eq t)
    have HLL := Lib.hid hL
    have HDEP := Lib.hid hdep
    have HCNT := Lib.hid hcnt
    have hn0 : n0 ≤ 1000000 := by omega
    have HJ := Lib.hid hJ
    have HY := Lib.hid hY
    have HP := Lib.hid hp
    have HROW := Lib.hid hrow
    obtain ⟨hz1, hz2, hz3, hz4, _⟩ := hrow
    have HZW := Lib.hid hz4
    unfold maxLen at hz3
    obtain ⟨i0, hi, hiz0, hiz1, hiz2⟩ := info_parts infoInt
    clear ih hr p9 p8 p4 p5 p6 p7 p1 hJ hY hp hL hdep hcnt hz4
    dsimp only
    refine callsIn_of_wp Try.func39 rfl trivial ?_ rfl
    simp only [Try.ntmps39, List.size_toArray, List.length_cons, List.length_nil, Nat.reduceAdd, Nat.reduceSub, Array.replicate_succ, Array.replicate_zero, List.push_toArray, List.append_toArray, List.nil_append, List.cons_append]
    gi_wp2
    obtain ⟨W1, hW1⟩ : ∃ W1, W1 = W.alloc (.cells #[.int .i64 t.k, .string (bs t.l), .string (bs t.x), .slice A n c, .string (bs t.e)] 24) := ⟨_, rfl⟩
    have hG1 : Gr W W1 := by rw [hW1]; exact (Gr.refl W).alloc _
    have HBX : Hid (NBox W1 W.heap.size ⟨t.k, t.l, t.x, A, n, c, t.e⟩) := Lib.hid (by rw [hW1]; exact heap_alloc_new W _)
    have HG1 := Lib.hid hG1
    try rw [← hW1]
    clear hW1 hG1
    refine wpIn_region_frame (fun _ _ _ _ _ => trivial) (by kernel_rfl) (by kernel_rfl) [9, 10, 11, 12, 13, 14, 15, 16] (by simp) (G1 W1 l W.heap.size A0 n0 c0 zs (.agg #[.int .i64 t.k, .string (bs t.l), .string (bs t.x), .slice A n c, .string (bs t.e)]) m1 t (P1 Bk J Jx pre W1)) ?_ ?_ ?_
    · exact { gr := fun _ => (Gr.refl _).drew, u1 := by simp [slot], u2 := by simp [slot], u3 := by simp [slot], f0 := fun h => (by cases h), f1 := fun h => (by cases h), f2 := fun h => (by cases h), c3 := fun h => (by cases h), c5 := fun h => (by cases h), f3 := fun h => (by cases h), f4 := fun h => (by cases h), f5 := fun h => (by cases h), c6 := fun h => (by cases h), c7 := fun h => (by cases h), f6 := fun h => (by cases h) }
    · intro B a' w' i o hfr hF ho hBi hdp
      have hi8 := (Array.getElem?_eq_some_iff.1 ho).1
      simp only [List.size_toArray, List.length_cons, List.length_nil] at hi8
      have hor : i = 0 ∨ i = 1 ∨ i = 2 ∨ i = 3 ∨ i = 4 ∨ i = 5 ∨ i = 6 ∨ i = 7 := by omega
      clear hi8
      rcases hor with rfl | rfl | rfl | rfl | rfl | rfl | rfl | rfl
      all_goals (
        simp only [List.getElem?_toArray, List.getElem?_cons_zero, List.getElem?_cons_succ, Option.some.injEq] at ho
        subst ho
        rw [if_pos (show Region.wanted _ _ = true from rfl)]
        refine wpIn_hideK ?_
        intro K hK)
      · have e2 := slot_spell hF.u2
        go_simp
        exact hK.out _ _ (close_put hfr (d := 9) (by decide) (by simp) _ (F := fun u => G1 W1 l W.heap.size A0 n0 c0 zs (.agg #[.int .i64 t.k, .string (bs t.l), .string (bs t.x), .slice A n c, .string (bs t.e)]) m1 t (P1 Bk J Jx pre W1) (upB B 0) u _) (hF.s0))
      · have h6 := hF.not6 (.inl hBi)
        go_simp
        exact hK.out _ _ (close_put hfr (d := 10) (by decide) (by simp) _ (F := fun u => G1 W1 l W.heap.size A0 n0 c0 zs (.agg #[.int .i64 t.k, .string (bs t.l), .string (bs t.x), .slice A n c, .string (bs t.e)]) m1 t (P1 Bk J Jx pre W1) (upB B 1) u _) (hF.s1 h6))
      · have e1 := slot_spell hF.u1
        go_simp
        exact hK.out _ _ (close_put hfr (d := 11) (by decide) (by simp) _ (F := fun u => G1 W1 l W.heap.size A0 n0 c0 zs (.agg #[.int .i64 t.k, .string (bs t.l), .string (bs t.x), .slice A n c, .string (bs t.e)]) m1 t (P1 Bk J Jx pre W1) (upB B 2) u _) (hF.s2))
      · have h6 := hF.not6 (.inr (.inl hBi))
        have hB1 : B 1 = true := hdp ⟨1, .data⟩ (by simp) (by rfl)
        have hB2 : B 2 = true := hdp ⟨2, .data⟩ (by simp) (by rfl)
        obtain ⟨g, hg10, hge, hemp⟩ := hF.f1 hB1 hBi
        obtain ⟨v8, w8, hrun, hown, hgrow, _⟩ := run_app2 (P := Try.prog) (w := w') W1.heap.size 32 32 3 i0 _ 1 8 Try.underlying32 hi hiz0 hiz1 hiz2 rfl (by decide) (.slice (some ⟨g, 0, none⟩) 0 0) 0 [] (own_fresh (n := 0) (cap := 0) (size := 1) (cs := []) hemp hge rfl (Nat.le_refl _) rfl (by decide)) A0 n0 c0 _ ((HROW.out.gr (HG1.out.trans (hF.gr h6))).ints.src) (by unfold maxLen; omega) (by omega) (Below.size (hF.gr h6))
        refine wpIn_app rfl (.tmp 10) (.tmp 11) 32 rfl hg10 (hF.f2 hB2) hrun ?_
        exact hK.out _ _ (close_put hfr (d := 12) (by decide) (by simp) _ (F := fun u => G1 W1 l W.heap.size A0 n0 c0 zs (.agg #[.int .i64 t.k, .string (bs t.l), .string (bs t.x), .slice A n c, .string (bs t.e)]) m1 t (P1 Bk J Jx pre W1) (upB B 3) u _) (hF.s3 hown hgrow hge hemp HZW.out hB1 hBi h6))
      · have h6 := hF.not6 (.inr (.inr (.inl hBi)))
        have hb := HBX.out.gr (hF.gr h6)
        obtain ⟨y0, y1, y2, y3, y4⟩ := hb.cells
        simp only at y0 y1 y2 y3 y4
        have e3 := slot_spell hF.u3
        go_simp
        exact hK.out _ _ (close_put hfr (d := 13) (by decide) (by simp) _ (F := fun u => G1 W1 l W.heap.size A0 n0 c0 zs (.agg #[.int .i64 t.k, .string (bs t.l), .string (bs t.x), .slice A n c, .string (bs t.e)]) m1 t (P1 Bk J Jx pre W1) (upB B 4) u _) (hF.s4))
      · have h6 := hF.not6 (.inr (.inr (.inr hBi)))
        have hB4 : B 4 = true := hdp ⟨4, .data⟩ (by simp) (by rfl)
        have e13 := slot_spell (hF.f4 hB4)
        have HFF := Lib.hid hF
        have HFR := Lib.hid hfr
        have HG2 := Lib.hid (HG1.out.trans (hF.gr h6))
        clear hF hfr hdp
        go_simp
        refine ⟨trivial, (fun h => by cases h), ?_⟩
        refine callsIn_wide.2 ?_
        refine (cloneP_any m1 ⟨t.k, t.l, t.x, A, n, c, t.e⟩ t _ (HRA.out.gr HG2.out) HCNT.out).mono ?_
        rintro e w10 ⟨d9, rfl, hs9, hb9⟩
        have hF := HFF.out
        have hfr := HFR.out
        exact hK.out _ _ (close_put hfr (d := 14) (by decide) (by simp) _ (F := fun u => G1 W1 l W.heap.size A0 n0 c0 zs (.agg #[.int .i64 t.k, .string (bs t.l), .string (bs t.x), .slice A n c, .string (bs t.e)]) m1 t (P1 Bk J Jx pre W1) (upB B 5) u _) (hF.s5 hb9 hs9.any hB4 h6))
      · have hB0 : B 0 = true := hdp ⟨0, .data⟩ (by simp) (by rfl)
        have hB3 : B 3 = true := hdp ⟨3, .data⟩ (by simp) (by rfl)
        have hB5 : B 5 = true := hdp ⟨5, .data⟩ (by simp) (by rfl)
        obtain ⟨A9, c9, q1, hr9⟩ := hF.f3 hB3 hBi
        obtain ⟨d9, q2, hn9⟩ := hF.f5 hB5 hBi
        have e9 := slot_spell (hF.f0 hB0)
        have e12 := slot_spell q1
        have e14 := slot_spell q2
        have hB1 := hF.c3 hB3
        have hG2 := HG1.out.trans (hF.gr hBi)
        have hJ2 := AbidesFrom.gr HJ.out HP.out hG2
        have hL0 := HLL.out 0 (zs, t) (by rw [walkN_eq]; rfl)
        have hyy := HY.out (k - 1) pre ⟨A9, n0, c9, zs, d9, t, m1⟩ w' hJ2 ⟨by simpa using hL0, hr9, hn9⟩
        obtain ⟨fn, tmps, assign, body, hy, hR⟩ := hyy
        dsimp only [encW] at hy
        have HFF := Lib.hid hF
        have HFR := Lib.hid hfr
        have HK2 := Lib.hid (hF.gr hBi)
        clear hF hfr hdp hJ2 hL0 hr9 hn9 hG2
        go_simp
        refine ⟨(fun h => by cases h), ?_⟩
        refine hR.mono ?_
        clear hR hy
        have hF := HFF.out
        have hfr := HFR.out
        rintro e W2 (⟨rfl, hJ2, hk2⟩ | ⟨rfl, hx2⟩)
        · exact hK.out _ _ (close_put hfr (d := 15) (by decide) (by simp) _ (F := fun u => G1 W1 l W.heap.size A0 n0 c0 zs (.agg #[.int .i64 t.k, .string (bs t.l), .string (bs t.x), .slice A n c, .string (bs t.e)]) m1 t (P1 Bk J Jx pre W1) (upB B 6) u _) (hF.s6 (r := true) ⟨_, .inl ⟨rfl, hJ2, (KeepT.gr HK2.out).trans hk2⟩⟩ hB1 hB3 hB5 hBi))
        · exact hK.out _ _ (close_put hfr (d := 15) (by decide) (by simp) _ (F := fun u => G1 W1 l W.heap.size A0 n0 c0 zs (.agg #[.int .i64 t.k, .string (bs t.l), .string (bs t.x), .slice A n c, .string (bs t.e)]) m1 t (P1 Bk J Jx pre W1) (upB B 6) u _) (hF.s6 (r := false) ⟨_, .inr ⟨rfl, hx2⟩⟩ hB1 hB3 hB5 hBi))
      · have hB6 : B 6 = true := hdp ⟨6, .data⟩ (by simp) (by rfl)
        obtain ⟨r, hpt, hv, _⟩ := hF.f6 hB6
        have e15 := slot_spell (hv hBi)
        go_simp
        exact hK.out _ _ (close_put hfr (d := 16) (by decide) (by simp) _ (F := fun u => G1 W1 l W.heap.size A0 n0 c0 zs (.agg #[.int .i64 t.k, .string (bs t.l), .string (bs t.x), .slice A n c, .string (bs t.e)]) m1 t (P1 Bk J Jx pre W1) (upB B 7) u _) (hF.s7 hpt hB6))
    · intro B u w' hall hF
      obtain ⟨r, ⟨x, hpt⟩, _, hv⟩ := hF.f6 (hall 6 (by simp))
      have hu16 := hv (hall 7 (by simp))
      simp only [List.foldl_cons, List.foldl_nil, Act.put, List.setIfInBounds_toArray, List.set_cons_zero, List.set_cons_succ]
      rw [hu16]
      clear hv hu16 hF hall
      rcases hpt with ⟨rfl, hJ2, hk2⟩ | ⟨rfl, hx2⟩
      rotate_left
      · gi_wp2
        go_ret
        exact .inr ⟨rfl, [x], hx2⟩
      · have HJ2 := Lib.hid hJ2
        have HKK := Lib.hid ((KeepT.gr HG1.out).trans hk2)
        have HBX2 := Lib.hid (hk2.box HBX.out)
        have hb0 : ∃ b, b = W.heap.size := ⟨_, rfl⟩
        obtain ⟨b0, hb0⟩ := hb0
        rw [← hb0] at HBX2
        rw [← hb0]
        obtain ⟨k0, k1, k2, k3, k4⟩ := HBX2.out.cells
        simp only at k0 k1 k2 k3 k4
        have hlb := lt_of_block HBX2.out
        have hst : WaRel Bk b0 J pre ⟨t.k, t.l, t.x, A, n, c, t.e⟩ t.ks W n (.int .i64 0) w' := ⟨0, [x], Nat.zero_le _, rfl, by simp [countL], HJ2.out, HBX2.out, HKK.out⟩
        have HST := Lib.hid hst
        clear hst hJ2 hk2 hb0
        gi_wp2
        clear k0 k1 k2 k3 k4
        gi_loopw [20] (fun iv wr => WaRel Bk b0 J pre ⟨t.k, t.l, t.x, A, n, c, t.e⟩ t.ks W n iv wr) (fun iv _ => n - (intOf iv).toNat)
        case atStart => exact HST.out
        case round =>
          obtain ⟨j, xs, hj, rfl, hxl, hJx, hnb, hkw⟩ := hrel
          have HJX := Lib.hid hJx
          have HXL := Lib.hid hxl
          have HKW := Lib.hid hkw
          have HNB := Lib.hid hnb
          obtain ⟨g0, g1, g2, g3, g4⟩ := hnb.cells
          simp only at g0 g1 g2 g3 g4
          have hlb2 := lt_of_block hnb
          clear hJx hxl hkw hnb
          by_cases hlt : j < n
          · obtain ⟨y, hy⟩ : ∃ y, t.ks[j]? = some y := ⟨t.ks[j]'(by rw [← HN.out]; omega), List.getElem?_eq_getElem _⟩
            have HY2 := Lib.hid hy
            obtain ⟨bk, ok, d, hA, hbs, hbk, hce, hre⟩ := HK0.out j y hy
            subst hA
            have hcg := countL_get _ _ _ hy
            have hdg := depthL_get _ _ _ hy
            obtain ⟨c0', c1, c2, c3, c4⟩ := hce
            have e0 := HKW.out.cell hbs c0'
            have e1 := HKW.out.cell hbs c1
            have e2 := HKW.out.cell hbs c2
            have e3 := HKW.out.cell hbs c3
            have e4 := HKW.out.cell hbs c4
            have hbw : bk < wr.heap.size := Nat.lt_of_lt_of_le hbk HKW.out.1
            have hstk : countL (t.ks.take (j + 1)) = countL (t.ks.take j) + countF y := by
              rw [take_succ_at hy, countL_app]
              simp [countL]
            have HST2 := Lib.hid hstk
            have hjw : (Lit.int .i64 (j : Int)).wf = true := wf_int (by have h1 := HCC.out; have h2 := HCNT.out; have h3 := countL_length t.ks; have h4 := HN.out; omega)
            have HJW := Lib.hid hjw
            have HDY : Hid (n0 + 1 + depthF y ≤ 1000000 ∧ countF y ≤ 1000000) := Lib.hid (by have h1 := HCC.out; have h2 := HCNT.out; have h3 := HDD.out; have h4 := HDEP.out; omega)
            have hwl := walkL_take t.ks zs hy
            have HLY : Hid (∀ i e, (walkN y (zs ++ [(j : Int)]))[i]? = some e → L[(pre ++ xs).length + i]? = some e) := Lib.hid (fun i e he => by
              have h1 := HLL.out (1 + countL (t.ks.take j) + i) e (by
                rw [walkN_eq, show 1 + countL (t.ks.take j) + i = (countL (t.ks.take j) + i) + 1 by omega, List.getElem?_cons_succ]
                have h2 : walkL t.ks zs 0 = walkL (t.ks.take (j + 1)) zs 0 ++ walkL (t.ks.drop (j + 1)) zs (0 + (t.ks.take (j + 1)).length) := by rw [← walkL_app, List.take_append_drop]
                rw [h2, hwl, List.append_assoc, List.getElem?_append_right (by rw [walkL_len]; omega), walkL_len, show countL (t.ks.take j) + i - countL (t.ks.take j) = i by omega, List.getElem?_append_left (List.getElem?_eq_some_iff.1 he).1]
                exact he)
              rw [List.length_append, HXL.out, show pre.length + (1 + countL (t.ks.take j)) + i = pre.length + (1 + countL (t.ks.take j) + i) by omega]
              exact h1)
            have HRE0 := Lib.hid (NRep.keepT HKW.out m d y hre)
            clear hy hre c0' c1 c2 c3 c4 hstk hjw hwl hcg hdg
            gi_wp2
            clear e0 e1 e2 e3 e4 g0 g1 g2 g3 g4
            obtain ⟨W5, hW5⟩ : ∃ W5, W5 = wr.alloc (.cells #[.int .i64 d.k, .string (bs d.l), .string (bs d.x), .slice d.A d.n d.c, .string (bs d.e)] 24) := ⟨_, rfl⟩
            have hG5 : Gr wr W5 := by rw [hW5]; exact (Gr.refl wr).alloc _
            have HBK : Hid (NBox W5 wr.heap.size d) := Lib.hid (by rw [hW5]; exact heap_alloc_new wr _)
            try rw [← hW5]
            clear hW5
            have HROW5 := Lib.hid ((HKW.out.row HROW.out).gr hG5)
            have HJ5 := Lib.hid (AbidesFrom.gr HJ.out HJX.out hG5)
            have HRE := Lib.hid (NRep.keepT (KeepT.gr hG5) m d y HRE0.out)
            have HG5 := Lib.hid hG5
            clear hG5
            refine wpIn_region_frame (fun _ _ _ _ _ => trivial) (by kernel_rfl) (by kernel_rfl) [25, 26, 27, 28, 29, 30, 31, 32, 33, 34, 35, 36, 37] (by simp) (G6 W5 l wr.heap.size A0 n0 c0 zs j (.agg #[.int .i64 d.k, .string (bs d.l), .string (bs d.x), .slice d.A d.n d.c, .string (bs d.e)]) (P6 Bk (countF y) J Jx (pre ++ xs) W5)) ?_ ?_ ?_
            · exact { gr := fun _ => (Gr.refl _).drew, u1 := by simp [slot], u2 := by simp [slot], u7 := by simp [slot], u8 := by simp [slot], f0 := fun h => (by cases h), f1 := fun h => (by cases h), f2 := fun h => (by cases h), f3 := fun h => (by cases h), f4 := fun h => (by cases h), f5 := fun h => (by cases h), f6 := fun h => (by cases h), f7 := fun h => (by cases h), f8 := fun h => (by cases h), c9 := fun h => (by cases h), f9 := fun h => (by cases h), f10 := fun h => (by cases h), c11 := fun h => (by cases h), c12 := fun h => (by cases h), f11 := fun h => (by cases h) }
            · intro B a' w' i o hfr hF ho hBi hdp
              have hi8 := (Array.getElem?_eq_some_iff.1 ho).1
              simp only [List.size_toArray, List.length_cons, List.length_nil] at hi8
              have hor : i = 0 ∨ i = 1 ∨ i = 2 ∨ i = 3 ∨ i = 4 ∨ i = 5 ∨ i = 6 ∨ i = 7 ∨ i = 8 ∨ i = 9 ∨ i = 10 ∨ i = 11 ∨ i = 12 := by omega
              clear hi8
              rcases hor with rfl | rfl | rfl | rfl | rfl | rfl | rfl | rfl | rfl | rfl | rfl | rfl | rfl
              all_goals (
                simp only [List.getElem?_toArray, List.getElem?_cons_zero, List.getElem?_cons_succ, Option.some.injEq] at ho
                subst ho
                rw [if_pos (show Region.wanted _ _ = true from rfl)]
                refine wpIn_hideK ?_
                intro K hK)
              · have h11 := hF.not11 (.inl hBi)
                have hb := HBK.out.gr (hF.gr h11)
                obtain ⟨y0, y1, y2, y3, y4⟩ := hb.cells
                have e8 := slot_spell hF.u8
                go_simp
                exact hK.out _ _ (close_put hfr (d := 25) (by decide) (by simp) _ (F := fun u => G6 W5 l wr.heap.size A0 n0 c0 zs j (.agg #[.int .i64 d.k, .string (bs d.l), .string (bs d.x), .slice d.A d.n d.c, .string (bs d.e)]) (P6 Bk (countF y) J Jx (pre ++ xs) W5) (upB B 0) u _) (hF.s0))
              · have e1 := slot_spell hF.u1
                go_simp
                exact hK.out _ _ (close_put hfr (d := 26) (by decide) (by simp) _ (F := fun u => G6 W5 l wr.heap.size A0 n0 c0 zs j (.agg #[.int .i64 d.k, .string (bs d.l), .string (bs d.x), .slice d.A d.n d.c, .string (bs d.e)]) (P6 Bk (countF y) J Jx (pre ++ xs) W5) (upB B 1) u _) (hF.s1))
              · have e1 := slot_spell hF.u1
                go_simp
                exact hK.out _ _ (close_put hfr (d := 27) (by decide) (by simp) _ (F := fun u => G6 W5 l wr.heap.size A0 n0 c0 zs j (.agg #[.int .i64 d.k, .string (bs d.l), .string (bs d.x), .slice d.A d.n d.c, .string (bs d.e)]) (P6 Bk (countF y) J Jx (pre ++ xs) W5) (upB B 2) u _) (hF.s2))
              · have hB2 : B 2 = true := hdp ⟨2, .data⟩ (by simp) (by rfl)
                have e27 := slot_spell (hF.f2 hB2)
                go_simp
                exact hK.out _ _ (close_put hfr (d := 28) (by decide) (by simp) _ (F := fun u => G6 W5 l wr.heap.size A0 n0 c0 zs j (.agg #[.int .i64 d.k, .string (bs d.l), .string (bs d.x), .slice d.A d.n d.c, .string (bs d.e)]) (P6 Bk (countF y) J Jx (pre ++ xs) W5) (upB B 3) u _) (hF.s3))
              · have e1 := slot_spell hF.u1
                go_simp
                exact hK.out _ _ (close_put hfr (d := 29) (by decide) (by simp) _ (F := fun u => G6 W5 l wr.heap.size A0 n0 c0 zs j (.agg #[.int .i64 d.k, .string (bs d.l), .string (bs d.x), .slice d.A d.n d.c, .string (bs d.e)]) (P6 Bk (countF y) J Jx (pre ++ xs) W5) (upB B 4) u _) (hF.s4))
              · have hB4 : B 4 = true := hdp ⟨4, .data⟩ (by simp) (by rfl)
                have e29 := slot_spell (hF.f4 hB4)
                go_simp
                exact hK.out _ _ (close_put hfr (d := 30) (by decide) (by simp) _ (F := fun u => G6 W5 l wr.heap.size A0 n0 c0 zs j (.agg #[.int .i64 d.k, .string (bs d.l), .string (bs d.x), .slice d.A d.n d.c, .string (bs d.e)]) (P6 Bk (countF y) J Jx (pre ++ xs) W5) (upB B 5) u _) (hF.s5))
              · have hB1 : B 1 = true := hdp ⟨1, .data⟩ (by simp) (by rfl)
                have hB3 : B 3 = true := hdp ⟨3, .data⟩ (by simp) (by rfl)
                have hB5 : B 5 = true := hdp ⟨5, .data⟩ (by simp) (by rfl)
                have e26 := slot_spell (hF.f1 hB1)
                have e28 := slot_spell (hF.f3 hB3)
                have e30 := slot_spell (hF.f5 hB5)
                go_simp
                exact hK.out _ _ (close_put hfr (d := 31) (by decide) (by simp) _ (F := fun u => G6 W5 l wr.heap.size A0 n0 c0 zs j (.agg #[.int .i64 d.k, .string (bs d.l), .string (bs d.x), .slice d.A d.n d.c, .string (bs d.e)]) (P6 Bk (countF y) J Jx (pre ++ xs) W5) (upB B 6) u _) (hF.s6))
              · have e7 := slot_spell hF.u7
                go_simp
                exact hK.out _ _ (close_put hfr (d := 32) (by decide) (by simp) _ (F := fun u => G6 W5 l wr.heap.size A0 n0 c0 zs j (.agg #[.int .i64 d.k, .string (bs d.l), .string (bs d.x), .slice d.A d.n d.c, .string (bs d.e)]) (P6 Bk (countF y) J Jx (pre ++ xs) W5) (upB B 7) u _) (hF.s7))
              · have hB7 : B 7 = true := hdp ⟨7, .data⟩ (by simp) (by rfl)
                have h11 := hF.not11 (.inr (.inl hBi))
                have e32 := slot_spell (hF.f7 hB7)
                go_simp
                exact hK.out _ _ (close_put hfr (d := 33) (by decide) (by simp) _ (F := fun u => G6 W5 l wr.heap.size A0 n0 c0 zs j (.agg #[.int .i64 d.k, .string (bs d.l), .string (bs d.x), .slice d.A d.n d.c, .string (bs d.e)]) (P6 Bk (countF y) J Jx (pre ++ xs) W5) (upB B 8) u _) (hF.s8 h11))
              · have hB6 : B 6 = true := hdp ⟨6, .data⟩ (by simp) (by rfl)
                have hB8 : B 8 = true := hdp ⟨8, .data⟩ (by simp) (by rfl)
                have h11 := hF.not11 (.inr (.inr hBi))
                obtain ⟨b, q1, q2⟩ := hF.f8 hB8 hBi
                obtain ⟨A9, c9, w9, hrun, hr9, hg9⟩ := app_full (P := Try.prog) (w := w') 32 32 3 rfl i0 _ Try.underlying32 hi hiz0 hiz1 hiz2 rfl (HROW5.out.gr (hF.gr h11)) hn0 q2 HJW.out
                refine wpIn_app rfl (.tmp 31) (.tmp 33) 32 rfl (hF.f6 hB6) q1 hrun ?_
                exact hK.out _ _ (close_put hfr (d := 34) (by decide) (by simp) _ (F := fun u => G6 W5 l wr.heap.size A0 n0 c0 zs j (.agg #[.int .i64 d.k, .string (bs d.l), .string (bs d.x), .slice d.A d.n d.c, .string (bs d.e)]) (P6 Bk (countF y) J Jx (pre ++ xs) W5) (upB B 9) u _) (hF.s9 hg9 hr9 hB8 h11))
              · have e2 := slot_spell hF.u2
                go_simp
                exact hK.out _ _ (close_put hfr (d := 35) (by decide) (by simp) _ (F := fun u => G6 W5 l wr.heap.size A0 n0 c0 zs j (.agg #[.int .i64 d.k, .string (bs d.l), .string (bs d.x), .slice d.A d.n d.c, .string (bs d.e)]) (P6 Bk (countF y) J Jx (pre ++ xs) W5) (upB B 10) u _) (hF.s10))
              · have hB0 : B 0 = true := hdp ⟨0, .data⟩ (by simp) (by rfl)
                have hB9 : B 9 = true := hdp ⟨9, .data⟩ (by simp) (by rfl)
                have hB10 : B 10 = true := hdp ⟨10, .data⟩ (by simp) (by rfl)
                obtain ⟨A9, c9, q1, hr9⟩ := hF.f9 hB9 hBi
                have hB8 := hF.c9 hB9
                have e25 := slot_spell (hF.f0 hB0)
                have e34 := slot_spell q1
                have e35 := slot_spell (hF.f10 hB10)
                have hcall := HI.out d y (k - 1) (pre ++ xs) w' A9 (n0 + 1) c9 (zs ++ [(j : Int)]) (NRep.keepT (KeepT.gr (hF.gr hBi)) m d y HRE.out) (AbidesFrom.gr HJ.out HJ5.out (hF.gr hBi)) hr9 HDY.out.1 HDY.out.2 HLY.out
                have HK2 := Lib.hid (hF.gr hBi)
                have HFF := Lib.hid hF
                have HFR := Lib.hid hfr
                have HCALL := Lib.hid hcall
                clear hF hfr hdp hr9 hcall q1
                go_simp
                refine ⟨trivial, (fun h => by cases h), ?_⟩
                refine HCALL.out.mono ?_
                have hF := HFF.out
                have hfr := HFR.out
                rintro e W6 (⟨rfl, hx6, hk6⟩ | ⟨rfl, hx6⟩)
                · exact hK.out _ _ (close_put hfr (d := 36) (by decide) (by simp) _ (F := fun u => G6 W5 l wr.heap.size A0 n0 c0 zs j (.agg #[.int .i64 d.k, .string (bs d.l), .string (bs d.x), .slice d.A d.n d.c, .string (bs d.e)]) (P6 Bk (countF y) J Jx (pre ++ xs) W5) (upB B 11) u _) (hF.s11 (r := true) (.inl ⟨rfl, hx6, (KeepT.gr HK2.out).trans hk6⟩) hB0 hB8 hB9 hBi))
                · exact hK.out _ _ (close_put hfr (d := 36) (by decide) (by simp) _ (F := fun u => G6 W5 l wr.heap.size A0 n0 c0 zs j (.agg #[.int .i64 d.k, .string (bs d.l), .string (bs d.x), .slice d.A d.n d.c, .string (bs d.e)]) (P6 Bk (countF y) J Jx (pre ++ xs) W5) (upB B 11) u _) (hF.s11 (r := false) (.inr ⟨rfl, hx6⟩) hB0 hB8 hB9 hBi))
              · have hB11 : B 11 = true := hdp ⟨11, .data⟩ (by simp) (by rfl)
                obtain ⟨r, hpt, hv, _⟩ := hF.f11 hB11
                have e36 := slot_spell (hv hBi)
                go_simp
                exact hK.out _ _ (close_put hfr (d := 37) (by decide) (by simp) _ (F := fun u => G6 W5 l wr.heap.size A0 n0 c0 zs j (.agg #[.int .i64 d.k, .string (bs d.l), .string (bs d.x), .slice d.A d.n d.c, .string (bs d.e)]) (P6 Bk (countF y) J Jx (pre ++ xs) W5) (upB B 12) u _) (hF.s12 hpt hB11))
            · intro B u w6 hall hF
              obtain ⟨r, hpt, _, hv⟩ := hF.f11 (hall 11 (by simp))
              have hu37 := hv (hall 12 (by simp))
              simp only [List.foldl_cons, List.foldl_nil, Act.put, List.setIfInBounds_toArray, List.set_cons_zero, List.set_cons_succ]
              rw [hu37]
              clear hv hu37 hF hall
              rcases hpt with ⟨rfl, ⟨ys, hys, hJ6⟩, hk6⟩ | ⟨rfl, ⟨q, hx6⟩⟩
              · have hkk := HKW.out.trans ((KeepT.gr HG5.out).trans hk6)
                have HKK2 := Lib.hid hkk
                have HJ6 := Lib.hid hJ6
                have HYS := Lib.hid hys
                have HNB2 := Lib.hid (((KeepT.gr HG5.out).trans hk6).box HNB.out)
                clear hkk hJ6 hys hk6
                gi_wp2
                go_roundw
                case rel => exact ⟨j + 1, xs ++ ys, by omega, by go_num, by rw [List.length_append, HXL.out, HYS.out, HST2.out]; omega, by rw [← List.append_assoc]; exact HJ6.out, HNB2.out, HKK2.out⟩
                case measure => simp [intOf] <;> omega
              · have HX6 := Lib.hid hx6
                clear hx6
                gi_wp2
                go_ret
                exact .inr ⟨rfl, xs ++ q, by rw [← List.append_assoc]; exact HX6.out⟩
          · have hjn : t.ks.take j = t.ks := List.take_of_length_le (by have := HN.out; omega)
            have HJN := Lib.hid hjn
            clear hjn
            gi_wp2
            go_ret
            exact .inl ⟨rfl, ⟨xs, by rw [HXL.out, HJN.out, HCC.out], HJX.out⟩, HKW.out⟩
end Go.Proofs.Ytklncffhkdbkhaa
