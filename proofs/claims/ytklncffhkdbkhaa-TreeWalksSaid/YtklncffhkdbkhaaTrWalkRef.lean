/- Walk of the reference, walked. -/
import Derived.Test.YtklncffhkdbkhaaTrWalkQ
namespace Go.Proofs.Ytklncffhkdbkhaa
open Go.ChangeShapes Go.WideShapes Go.ChangeAt Go.RowKit

def WOut (w wr : World) (ov : Value) (zss : List (List Int)) : Prop := ∃ vs, wr.ownsRow w.heap.size 32 1 ov vs.length vs ∧ RowsP wr vs zss
def WRel (w : World) (b0 n : Nat) (d : ND) (ks : List NT) (iv ov : Value) (wr : World) : Prop :=
  ∃ j : Nat, j ≤ n ∧ iv = .int .i64 j ∧ WOut w wr ov ([] :: refL (ks.take j) 0) ∧ NBox wr b0 d ∧ Gr w wr
def WRel2 (w : World) (b0 : Nat) (d : ND) (ks : List NT) (j : Nat) (ys : List (List Int)) (gl : Nat) (vl : List Value) (kv ov : Value) (wr : World) : Prop :=
  ∃ q : Nat, q ≤ ys.length ∧ kv = .int .i64 q ∧ WOut w wr ov ([] :: refL (ks.take j) 0 ++ (ys.take q).map ((j : Int) :: ·)) ∧ (∀ (i : Nat) (v : Value), vl[i]? = some v → wr.cell? ⟨gl, i, none⟩ = some v) ∧ RowsP wr vl ys ∧ NBox wr b0 d ∧ Gr w wr ∧ gl < wr.heap.size ∧ ov.ownBlock ≠ some gl
theorem WOut.gr {w wr wr' : World} {ov : Value} {zss : List (List Int)} (h : WOut w wr ov zss) (hg : Gr wr wr') : WOut w wr' ov zss := by
  obtain ⟨vs, h1, h2⟩ := h
  exact ⟨vs, own_same h1 (fun k hk => hg.block k (h1.lt k hk).2), h2.gr hg⟩
theorem refL_len (l : List NT) (i : Nat) : (refL l i).length = countL l := by
  have h := congrArg List.length (walkL_ref l [] i)
  rw [List.length_map, List.length_map, walkL_len] at h
  exact h.symm
mutual
theorem refF_deep : ∀ (t : NT) (z : List Int), z ∈ refF t → z.length ≤ depthF t
  | .mk k l x ks e, z, h => by
    rw [refF, List.mem_cons] at h
    have hd := depthF_eq (.mk k l x ks e)
    rcases h with rfl | h
    · simp
    · have h1 := refL_deep ks 0 z h
      simp only [NT.ks] at hd
      omega
theorem refL_deep : ∀ (l : List NT) (i : Nat) (z : List Int), z ∈ refL l i → z.length ≤ depthL l + 1
  | [], i, z, h => by rw [refL] at h; cases h
  | y :: r, i, z, h => by
    rw [refL, List.mem_append, List.mem_map] at h
    rw [depthL]
    rcases h with ⟨z', hz, rfl⟩ | h
    · have h1 := refF_deep y z' hz
      rw [List.length_cons]; omega
    · have h1 := refL_deep r (i + 1) z h
      omega
end
set_option maxRecDepth 100000 in
set_option maxHeartbeats 20000000 in
theorem walkRP_any : ∀ (m : Nat) (v : ND) (t : NT) (w : World), NRep anyB m w v t → countF t ≤ 1000000 → depthF t ≤ 1000000 → Calls Try.prog 13 #[.agg #[.int .i64 v.k, .string (bs v.l), .string (bs v.x), .slice v.A v.n v.c, .string (bs v.e)]] w (WRPost t w) := by
  intro m
  induction m with
  | zero => intro v t w h; exact h.elim
  | succ m ih =>
    intro v t w hr hcnt hdep
    obtain ⟨A, n, c, rfl, p1, p2, p3, p4, p5, p6, p7, p8, p9⟩ := hr.open5
    have hn63 : n ≤ maxLen := Nat.le_trans p2 p3
    unfold maxLen at hn63 p3
    have HI := Lib.hid ih
    have HN := Lib.hid p1
    have HK0 : Hid (Kids anyB m w A t.ks) := Lib.hid p9
    have HCC := Lib.hid (countF_eq t)
    have HDD := Lib.hid (depthF_eq t)
    have HDEP := Lib.hid hdep
    have HCNT := Lib.hid hcnt
    obtain ⟨i0, hi, hz0, hz1, hz2⟩ := info_parts infoInt
    obtain ⟨i1, hy, hy0, hy1, hy2⟩ := info_parts infoSl
    clear ih hr p9 p8 p4 p5 p6 p7 p1 hcnt hdep
    dsimp only
    go_enter Try.func13, Try.ntmps13
    go_wp2_with fail
    obtain ⟨W1, hW1⟩ : ∃ W1, W1 = (w.alloc (.cells #[.int .i64 t.k, .string (bs t.l), .string (bs t.x), .slice A n c, .string (bs t.e)] 24)).alloc (.cells #[.slice none 0 0] 32) := ⟨_, rfl⟩
    have HBX : Hid (NBox W1 w.heap.size ⟨t.k, t.l, t.x, A, n, c, t.e⟩) := Lib.hid (by rw [hW1]; exact NBox.gr (heap_alloc_new w _) ((Gr.refl _).alloc _))
    have HG : Hid (Gr w W1) := Lib.hid (by rw [hW1]; exact ((Gr.refl w).alloc _).alloc _)
    have HOUT : Hid (WOut w W1 (.slice (some ⟨w.heap.size + 1, 0, none⟩) 1 1) [[]]) := Lib.hid (by
      refine ⟨[.slice none 0 0], own_fresh (n := 1) (cap := 1) (size := 1) (cs := [.slice none 0 0]) ?_ (by omega) rfl (Nat.le_refl _) rfl (by unfold maxLen; omega), RowsP.one W1⟩
      have h := heap_alloc_new (w.alloc (.cells #[.int .i64 t.k, .string (bs t.l), .string (bs t.x), .slice A n c, .string (bs t.e)] 24)) (.cells #[.slice none 0 0] 32)
      have hz : (w.alloc (.cells #[.int .i64 t.k, .string (bs t.l), .string (bs t.x), .slice A n c, .string (bs t.e)] 24)).heap.size = w.heap.size + 1 := by simp
      rw [hz] at h
      rw [hW1]
      exact h)
    try rw [← hW1]
    clear hW1
    go_loopw [4, 3] (fun iv ov wr => WRel w w.heap.size n ⟨t.k, t.l, t.x, A, n, c, t.e⟩ t.ks iv ov wr) (fun iv _ _ => n - (intOf iv).toNat)
    case atStart => exact ⟨0, Nat.zero_le _, rfl, by simpa [refL] using HOUT.out, HBX.out, HG.out⟩
    case round =>
      obtain ⟨j, hj, rfl, hout, hnb, hG⟩ := hrel
      have HO2 := Lib.hid hout
      have HNB := Lib.hid hnb
      obtain ⟨g0, g1, g2, g3, g4⟩ := hnb.cells
      simp only at g0 g1 g2 g3 g4
      have hlb := lt_of_block hnb
      clear hout hnb
      by_cases hlt : j < n
      · obtain ⟨y, hyk⟩ : ∃ y, t.ks[j]? = some y := ⟨t.ks[j]'(by rw [← HN.out]; omega), List.getElem?_eq_getElem _⟩
        obtain ⟨bk, ok, d, hA, _, hbk, hce, hre⟩ := HK0.out j y hyk
        subst hA
        have hcg := countL_get _ _ _ hyk
        have hdg := depthL_get _ _ _ hyk
        have HTK := Lib.hid (refL_take t.ks hyk)
        have HTC := Lib.hid hcg
        have HB : Hid (countF y ≤ 1000000 ∧ depthF y ≤ 1000000) := Lib.hid (by have h1 := HCC.out; have h2 := HCNT.out; have h3 := HDD.out; have h4 := HDEP.out; omega)
        have hjb : j ≤ 1000000 := by have h1 := HCC.out; have h2 := HCNT.out; have h3 := countL_length t.ks; have h4 := HN.out; omega
        have hjw : (Lit.int .i64 (j : Int)).wf = true := wf_int (by omega)
        have HJW := Lib.hid hjw
        have HRE := Lib.hid (hre.gr hG)
        obtain ⟨e0, e1, e2, e3, e4⟩ := hce.keep (hG.on anyB) trivial hbk
        have hbw := Gr.lt hG hbk
        clear hyk hre hce hcg hdg hjw
        go_wp2_with fail
        refine (HI.out d y _ HRE.out HB.out.1 HB.out.2).mono ?_
        rintro e w3 ⟨gl, nl, cl, vl, rfl, hgw0, hnl, hlc, hlm, hgl, hvl, hrows, hb3⟩
        have hlen := refF_len y
        rw [← hlen] at hnl
        subst hnl
        have hyb : (refF y).length ≤ 1000000 := by rw [hlen]; exact HB.out.1
        have HNB3 := Lib.hid (HNB.out.gr hb3)
        have HO3 := Lib.hid (HO2.out.gr hb3)
        have HVL := Lib.hid hvl
        have HROWS := Lib.hid hrows
        have hG3 := hG.trans hb3
        obtain ⟨vs0, hov0, _⟩ := HO2.out
        have hne : ∀ k, wr.heap.size ≤ k → _ ≠ some k := fun k hk he => absurd (hov0.lt k he).2 (Nat.not_lt.2 hk)
        replace hne := hne gl hgw0
        clear hov0 hgw0
        have HG3 := Lib.hid hG3
        obtain ⟨ny, hny⟩ : ∃ ny, ny = (refF y).length := ⟨_, rfl⟩
        rw [← hny] at hyb hlc
        rw [← hny]
        have HNY := Lib.hid hny
        unfold maxLen at hlm
        clear e0 e1 e2 e3 e4 g0 g1 g2 g3 g4 hbw hvl hrows hlen hG hb3 hny hG3
        go_wp2_with fail
        go_loopw [6, 3] (fun kv ov wr2 => WRel2 w w.heap.size ⟨t.k, t.l, t.x, some ⟨bk, ok, none⟩, n, c, t.e⟩ t.ks j (refF y) gl vl kv ov wr2) (fun kv _ _ => ny - (intOf kv).toNat)
        case atStart => exact ⟨0, Nat.zero_le _, rfl, by simpa using HO3.out, HVL.out, HROWS.out, HNB3.out, HG3.out, hgl, hne⟩
        case round =>
          obtain ⟨q, hq, rfl, hout4, hvl4, hrow4, hnb4, hG4, hgl4, hne4⟩ := hrel
          have HO4 := Lib.hid hout4
          have HV4 := Lib.hid hvl4
          have HR4 := Lib.hid hrow4
          have HN4 := Lib.hid hnb4
          rw [← HNY.out] at hq
          clear hout4 hrow4 hnb4 hvl4
          by_cases hlq : q < ny
          · obtain ⟨zq, hzq⟩ : ∃ zq, (refF y)[q]? = some zq := ⟨(refF y)[q]'(by rw [← HNY.out]; omega), List.getElem?_eq_getElem _⟩
            obtain ⟨vq, hvq⟩ : ∃ vq, vl[q]? = some vq := ⟨vl[q]'(by rw [HR4.out.1, ← HNY.out]; omega), List.getElem?_eq_getElem _⟩
            obtain ⟨A9, c9, rfl, hr9⟩ := HR4.out.2 q vq zq hvq hzq
            have hcq := HV4.out q _ hvq
            have hzl : zq.length ≤ 1000000 := Nat.le_trans (refF_deep y zq (List.mem_of_getElem? hzq)) HB.out.2
            have HR9 := Lib.hid hr9
            have HZQ := Lib.hid hzq
            have hgw := World.block_lt_of_cell? _ _ hcq
            simp only at hgw
            have hfr := heap_alloc_new wr (.cells #[.int .i64 (j : Int)] 3)
            have HO6 := Lib.hid (own_fresh (W := wr.alloc (.cells #[.int .i64 (j : Int)] 3)) (base := w.heap.size) (n := 1) (size := 1) (cs := [.int .i64 (j : Int)]) hfr (Below.size hG4) rfl (Nat.le_refl _) rfl (by unfold maxLen; omega))
            have HS6 := Lib.hid ((HR9.out.gr ((Gr.refl wr).alloc (.cells #[.int .i64 (j : Int)] 3))).ints.src)
            have hsz6 : w.heap.size ≤ (wr.alloc (.cells #[.int .i64 (j : Int)] 3)).heap.size := by have := Below.size hG4; simp; omega
            clear hzq hvq hr9 hfr
            have HZW : Hid (∀ z ∈ (j : Int) :: zq, (Lit.int .i64 z).wf = true) := Lib.hid (fun z hz => by
              rcases List.mem_cons.1 hz with rfl | hz
              · exact HJW.out
              · exact HR9.out.2.2.2.1 z hz)
            obtain ⟨vs, hovs, hrvs⟩ := HO4.out
            have hvsl : vs.length = (([] :: refL (t.ks.take j) 0) ++ ((refF y).take q).map ((j : Int) :: ·)).length := hrvs.1
            have hvsb : vs.length ≤ 3000000 := by
              rw [hvsl]
              have h1 : (refL (t.ks.take j) 0).length = countL (t.ks.take j) := refL_len _ _
              have h2 := HTC.out
              have h3 := HCNT.out
              have h4 := HCC.out
              have h5 := HB.out.1
              simp only [List.length_append, List.length_cons, List.length_map, List.length_take, h1]
              have h6 := refF_len y
              omega
            have HOV := Lib.hid hovs
            have HRV := Lib.hid hrvs
            clear hovs hrvs hvsl
            go_wp2_with (at_builtin; (first
              | (refine wpList_app rfl (.tmp 29) (.tmp 33) 32 rfl w.heap.size 3 i0 _ 1 8 Try.underlying32 hi hz0 hz1 hz2 rfl (by decide) _ 1 _ rfl HO6.out A9 zq.length c9 _ rfl HS6.out (by unfold maxLen; omega) (by omega) hsz6 ?_; intro v7 w7 hown7 hgrow7; have hG7 : Gr w w7 := Gr.grownOwn (hG4.alloc _) hgrow7 (fun k hk => (HO6.out.lt k hk).1); (have hg47 : Gr wr w7 := Gr.grownOwn ((Gr.refl wr).alloc _) hgrow7 (fun k hk => (by cases hk; exact Nat.le_refl _))); (have hown7' : w7.ownsRow w.heap.size 3 1 v7 (1 + zq.length) (((j : Int) :: zq).map (Value.int .i64)) := hown7); (obtain ⟨A7, c7, hv7, hr7⟩ := RowI.of_own hown7' HZW.out); subst hv7; have HR7 := Lib.hid hr7; have HG47 := Lib.hid hg47; have HG7 := Lib.hid hG7; clear hown7 hown7' hgrow7 hr7 hg47 hG7)
              | (refine wpList_app2 rfl (.tmp 27) (.tmp 35) 30 rfl w.heap.size 32 i1 _ 1 24 Try.underlying30 hy hy0 hy1 hy2 rfl (by decide) _ vs.length vs rfl (own_same HOV.out (fun k hk => ((HG47.out.trans ((Gr.refl _).alloc _))).block k (HOV.out.lt k hk).2)) (some ⟨_, 0, none⟩) 1 1 _ rfl (src_fresh (cs := [.slice A7 (1 + zq.length) c7]) (heap_alloc_new w7 _) rfl (by simp [Value.oneCell'])) (by unfold maxLen; omega) (by omega) (by have := Below.size HG7.out; simp; omega) ?_; intro v8 w8 hown8 hgrow8 hat8; have HA8 := Lib.hid hat8; have HO8 := Lib.hid hown8; have HG8 := Lib.hid hgrow8; clear hown8 hgrow8 hat8)))
            have hga : Gr wr (w7.alloc (.cells #[.slice A7 (1 + zq.length) c7] 32)) := HG47.out.trans ((Gr.refl _).alloc _)
            have hov9 := own_same HOV.out (fun k hk => hga.block k (HOV.out.lt k hk).2)
            have hr77 : RowI w7 A7 ((j : Int) :: zq).length c7 ((j : Int) :: zq) := by rw [List.length_cons, Nat.add_comm]; exact HR7.out
            have HR8 := Lib.hid ((((HRV.out.gr HG47.out).snoc hr77).gr ((Gr.refl _).alloc (.cells #[.slice A7 (1 + zq.length) c7] 32))).grown hov9 HG8.out)
            go_roundw
            case rel =>
              have hbl : w8.heap[gl]? = wr.heap[gl]? := (HG8.out.block gl (Gr.lt hga hgl4) (fun he => hne4 he.symm)).trans (hga.block gl hgl4)
              have hG8 : Gr w w8 := Gr.grownOwn (hG4.trans hga) HG8.out (fun k hk => (hov9.lt k hk).1)
              have hts : (refF y).take (q + 1) = (refF y).take q ++ [zq] := by rw [List.take_add_one, HZQ.out]; rfl
              refine ⟨q + 1, by rw [← HNY.out]; omega, by go_num, ⟨vs ++ [.slice A7 (1 + zq.length) c7], by rw [List.length_append]; exact HO8.out, ?_⟩, fun i u hu => ?_, ?_, ?_, hG8, Nat.lt_of_lt_of_le (Gr.lt hga hgl4) HG8.out.size, ?_⟩
              · have h := HR8.out
                rw [List.length_cons, Nat.add_comm zq.length 1] at h
                rw [hts, List.map_append, ← List.append_assoc]
                exact h
              · have h := HV4.out i u hu
                simp only [World.cell?, hbl] at h ⊢
                exact h
              · exact (HR4.out.gr hga).grown hov9 HG8.out
              · exact (HG8.out.block _ (lt_of_block (HN4.out.gr hga)) (fun he => own_type hov9 (HN4.out.gr hga) (by decide) he.symm)).trans (HN4.out.gr hga)
              · rcases HA8.out with h | h
                · rw [h]; exact hne4
                · rw [h]; intro he; cases he; exact absurd (Gr.lt hga hgl4) (Nat.lt_irrefl _)
            case measure => simp [intOf] <;> omega
          · have htq : (refF y).take q = refF y := List.take_of_length_le (by rw [← HNY.out]; omega)
            have HTQ := Lib.hid htq
            clear htq
            go_wp2_with fail
            go_roundw
            case rel => exact ⟨j + 1, by omega, by go_num, by have h := HO4.out; rw [HTQ.out] at h; rw [HTK.out]; exact h, HN4.out, hG4⟩
            case measure => simp [intOf] <;> omega
      · have htk : t.ks.take j = t.ks := List.take_of_length_le (by have := HN.out; omega)
        have HTK := Lib.hid htk
        clear htk
        go_wp2_with fail
        go_ret
        obtain ⟨vs, hown, hrw⟩ := HO2.out
        rw [HTK.out, ← refF_eq] at hrw
        have hvl : vs.length = countF t := by rw [hrw.1, refF_len]
        have hps := countF_pos t
        rcases hown.2 with ⟨hv, h0⟩ | ⟨g, cap, cur, rfl, hge, hb, hnc, hcm, _, hxs⟩
        · omega
        · exact ⟨g, vs.length, cap, vs, rfl, hge, hvl, hnc, hcm, lt_of_block hb, fun i u hu => (hown.cellAt i (by have := (List.getElem?_eq_some_iff.1 hu).1; omega)).trans hu, hrw, hG⟩
end Go.Proofs.Ytklncffhkdbkhaa
