/- Names and Aliases of the reference, walked. -/
import Derived.Test.YtbfnmgiccbdglaaAnNames
namespace Go.Proofs.Ytbfnmgiccbdglaa
open Go.ChangeShapes Go.WideShapes Go.ChangeAt Go.RowKit

theorem own_src {W : World} {base n : Nat} {v : Value} {xs : List Value} (h : W.ownsRow base 9 1 v n xs) (h1 : ∀ u ∈ xs, u.oneCell' = true) : ∃ A c, v = .slice A n c ∧ SrcAt W A n 1 xs := by
  have hl := h.1
  rcases h.2 with ⟨rfl, rfl⟩ | ⟨g, cap, cur, rfl, _⟩
  · exact ⟨none, 0, rfl, by simpa using hl, h1, fun hn => absurd hn (by decide)⟩
  · refine ⟨_, cap, rfl, hl, h1, fun _ => ⟨_, rfl, fun j u hu => ?_⟩⟩
    have hj := (List.getElem?_eq_some_iff.1 hu).1
    have h5 := (h.cellAt j (by omega)).trans hu
    rw [add_shape rfl]
    simpa using h5
theorem strV_one (l : List (List UInt8)) : ∀ u ∈ l.map strV, u.oneCell' = true := fun u hu => by
  obtain ⟨s, _, rfl⟩ := List.mem_map.1 hu
  rfl
def OwnS (w wr : World) (ov : Value) (l : List (List UInt8)) : Prop := wr.ownsRow w.heap.size 9 1 ov l.length (l.map strV)
theorem OwnS.gr {w wr wr' : World} {ov : Value} {l : List (List UInt8)} (h : OwnS w wr ov l) (hg : Gr wr wr') : OwnS w wr' ov l := own_same h (fun k hk => hg.block k (h.lt k hk).2)
def NamesR (l : List (List UInt8)) (w : World) (e : Ending) (w' : World) : Prop := ∃ v, e = .returned v ∧ OwnS w w' v l ∧ Gr w w'
def NmRel (w : World) (b0 n : Nat) (d : ND) (pre : List (List UInt8)) (ks : List NT) (iv ov : Value) (wr : World) : Prop :=
  ∃ j : Nat, j ≤ n ∧ iv = .int .i64 j ∧ OwnS w wr ov (pre ++ textsL (ks.take j)) ∧ NBox wr b0 d ∧ Gr w wr
set_option maxRecDepth 100000 in
set_option maxHeartbeats 4000000 in
theorem namesR_any : ∀ (m : Nat) (v : ND) (t : NT) (w : World), NRep anyB m w v t → countF t ≤ 1000000 → markedB t = true → Calls Try.prog 30 #[.agg #[.int .i64 v.k, .string (bs v.l), .string (bs v.x), .slice v.A v.n v.c, .string (bs v.e)]] w (NamesR (textsF t) w) := by
  intro m
  induction m with
  | zero => intro v t w h; exact h.elim
  | succ m ih =>
    intro v t w hr hcnt hmk
    obtain ⟨A, n, c, rfl, p1, p2, p3, p4, p5, p6, p7, p8, p9⟩ := hr.open5
    have hn63 : n ≤ maxLen := Nat.le_trans p2 p3
    unfold maxLen at hn63 p3
    have HI := Lib.hid ih
    have HN := Lib.hid p1
    have HK0 : Hid (Kids anyB m w A t.ks) := Lib.hid p9
    have HCC := Lib.hid (countF_eq t)
    have HCNT := Lib.hid hcnt
    have HMK := Lib.hid hmk
    have HTX := Lib.hid (textsF_eq t)
    obtain ⟨i1, hy, hy0, hy1, hy2⟩ := info_parts infoStr
    dsimp only
    by_cases hk : t.k = 9
    · have r9 : (t.k == 9) = true := by simp [hk]
      have h2 := (named_len (marked_anchor hmk hk).1).1
      have HTXX : Hid (textsF t = [t.x] ++ textsL t.ks) := Lib.hid (by rw [HTX.out, if_pos hk])
      have HX := Lib.hid h2
      obtain ⟨nx, hnx⟩ : ∃ nx, nx = t.x.length := ⟨_, rfl⟩
      obtain ⟨nm, hnm⟩ : ∃ nm, nm = t.x.drop 1 := ⟨_, rfl⟩
      have yn : (bs t.x).extract 1 nx = bs nm := by rw [hnx, hnm]; exact bs_drop1 t.x
      have ys : (bs t.x).size = nx := hnx.symm
      have hx1 : ((1 : Int) ≤ (nx : Int)) = True := by simp; omega
      have HSV : Hid ([Value.string (bs nm)] = [strV t.x]) := Lib.hid (by rw [hnm]; rfl)
      clear ih hr p9 p8 p4 p5 p6 p7 p1 hcnt hmk hk h2 hnx hnm
      go_enter Try.func30, Try.ntmps30
      have hfr : SrcAt ((w.alloc (.cells #[.int .i64 t.k, .string (bs t.l), .string (bs t.x), .slice A n c, .string (bs t.e)] 24)).alloc (.cells #[.string (bs nm)] 9)) (some ⟨w.heap.size + 1, 0, none⟩) 1 1 [.string (bs nm)] := by
        have h := heap_alloc_new (w.alloc (.cells #[.int .i64 t.k, .string (bs t.l), .string (bs t.x), .slice A n c, .string (bs t.e)] 24)) (.cells #[.string (bs nm)] 9)
        have hz : (w.alloc (.cells #[.int .i64 t.k, .string (bs t.l), .string (bs t.x), .slice A n c, .string (bs t.e)] 24)).heap.size = w.heap.size + 1 := by simp
        rw [hz] at h
        exact src_fresh (cs := [.string (bs nm)]) h rfl (by simp [Value.oneCell'])
      have HFR := Lib.hid hfr
      have HBX0 : Hid (NBox ((w.alloc (.cells #[.int .i64 t.k, .string (bs t.l), .string (bs t.x), .slice A n c, .string (bs t.e)] 24)).alloc (.cells #[.string (bs nm)] 9)) w.heap.size ⟨t.k, t.l, t.x, A, n, c, t.e⟩) := Lib.hid (NBox.gr (heap_alloc_new w _) ((Gr.refl _).alloc _))
      have HG0 : Hid (Gr w ((w.alloc (.cells #[.int .i64 t.k, .string (bs t.l), .string (bs t.x), .slice A n c, .string (bs t.e)] 24)).alloc (.cells #[.string (bs nm)] 9))) := Lib.hid (((Gr.refl w).alloc _).alloc _)
      clear hfr
      go_wp2_with (at_builtin; refine wpList_app rfl (.tmp 8) (.tmp 12) 27 rfl w.heap.size 9 i1 _ 1 16 Try.underlying27 hy hy0 hy1 hy2 rfl (by decide) (.slice none 0 0) 0 [] rfl ⟨rfl, .inl ⟨rfl, rfl⟩⟩ (some ⟨w.heap.size + 1, 0, none⟩) 1 1 [.string (bs nm)] rfl HFR.out (by unfold maxLen; omega) (by omega) (by simp; omega) ?_; intro v7 w7 hown7 hgrow7; have HO7 := Lib.hid hown7; have HG7 := Lib.hid hgrow7; clear hown7 hgrow7)
      have hG7 : Gr w w7 := Gr.grownOwn HG0.out HG7.out (fun k hk => by cases hk)
      have HG := Lib.hid hG7
      have HBX : Hid (NBox w7 w.heap.size ⟨t.k, t.l, t.x, A, n, c, t.e⟩) := Lib.hid ((HG7.out.block _ (lt_of_block HBX0.out) (fun he => by cases he)).trans HBX0.out)
      have HOUT : Hid (OwnS w w7 v7 [t.x]) := Lib.hid (by have h := HO7.out; rw [List.nil_append, HSV.out] at h; exact h)
      clear hG7
      go_loopw [4, 3] (fun iv ov wr => NmRel w w.heap.size n ⟨t.k, t.l, t.x, A, n, c, t.e⟩ [t.x] t.ks iv ov wr) (fun iv _ _ => n - (intOf iv).toNat)
      case atStart => exact ⟨0, Nat.zero_le _, rfl, by simpa [textsL] using HOUT.out, HBX.out, HG.out⟩
      case round =>
        obtain ⟨j, hj, rfl, hout, hnb, hG⟩ := hrel
        have HO2 := Lib.hid hout
        have HNB := Lib.hid hnb
        obtain ⟨g0, g1, g2, g3, g4⟩ := hnb.cells
        simp only at g0 g1 g2 g3 g4
        have hlb := lt_of_block hnb
        clear hout hnb
        by_cases hlt : j < n
        · obtain ⟨y, hyk⟩ : ∃ y, t.ks[j]? = some y := ⟨t.ks[j]'(by rw [← HN.out]; omega), List.getElem?_eq_getElem _⟩
          obtain ⟨bk, ok, d, hA, _, hbk, hce, hre⟩ := HK0.out j y hyk
          subst hA
          have hcg := countL_get _ _ _ hyk
          have HTK := Lib.hid (textsL_take t.ks hyk)
          have HTC := Lib.hid hcg
          have HB : Hid (countF y ≤ 1000000) := Lib.hid (by have h1 := HCC.out; have h2 := HCNT.out; omega)
          have HMY := Lib.hid (marked_kids HMK.out hyk)
          have HRE := Lib.hid (hre.gr hG)
          obtain ⟨e0, e1, e2, e3, e4⟩ := hce.keep (hG.on anyB) trivial hbk
          have hbw := Gr.lt hG hbk
          clear hyk hre hce hcg
          obtain ⟨Ao, co, rfl⟩ := own_form HO2.out
          have HCALL := Lib.hid (HI.out d y wr HRE.out HB.out HMY.out)
          go_wp2_with (first | (go_at_call 30; refine HCALL.out.mono ?_; rintro e w5 ⟨v5, rfl, ho5, hb5⟩; obtain ⟨A5, c5, rfl, hs5⟩ := own_src ho5 (strV_one _); have HS5 := Lib.hid hs5; have HB5 := Lib.hid hb5; have HO5 := Lib.hid (HO2.out.gr hb5); have hbs5 := Below.size hb5; (have hlen1 := textsF_len y); (have hlen2 := textsL_len (t.ks.take j)); (have hl3 : ([t.x] ++ textsL (t.ks.take j)).length + (textsF y).length ≤ 3000000 := by have h1 := HB.out; have h2 := HTC.out; have h3 := HCNT.out; have h4 := HCC.out; simp; omega); have HL3 := Lib.hid hl3; clear hs5 hb5 ho5 hlen1 hlen2 hl3) | (at_builtin; refine wpList_app rfl (.tmp 21) (.tmp 27) 27 rfl w.heap.size 9 i1 _ 1 16 Try.underlying27 hy hy0 hy1 hy2 rfl (by decide) _ _ _ rfl HO5.out A5 (textsF y).length c5 _ rfl HS5.out (by have := HL3.out; unfold maxLen; omega) (by have := HL3.out; omega) (by have := Below.size hG; omega) ?_; intro v7 w7 hown7 hgrow7; have HO7 := Lib.hid hown7; have HG7 := Lib.hid hgrow7; clear hown7 hgrow7))
          go_roundw
          case rel =>
            have hg7 : Gr w w7 := Gr.grownOwn (hG.trans HB5.out) HG7.out (fun k hk => (HO5.out.lt k hk).1)
            have hnb5 := HNB.out.gr HB5.out
            refine ⟨j + 1, by omega, by go_num, ?_, (HG7.out.block _ (lt_of_block hnb5) (fun he => own_type HO5.out hnb5 (by decide) he.symm)).trans hnb5, hg7⟩
            rw [HTK.out, ← List.append_assoc]
            unfold OwnS
            have e1 : ((([t.x] : List (List UInt8)) ++ textsL (t.ks.take j)) ++ textsF y).length = (([t.x] : List (List UInt8)) ++ textsL (t.ks.take j)).length + (textsF y).length := List.length_append
            have e2 : ((([t.x] : List (List UInt8)) ++ textsL (t.ks.take j)) ++ textsF y).map strV = (([t.x] : List (List UInt8)) ++ textsL (t.ks.take j)).map strV ++ (textsF y).map strV := List.map_append
            rw [e1, e2]
            exact HO7.out
          case measure => simp [intOf] <;> omega
        · have htk : t.ks.take j = t.ks := List.take_of_length_le (by have := HN.out; omega)
          have HTK := Lib.hid htk
          clear htk
          go_wp2_with fail
          go_ret
          have h := HO2.out
          rw [HTK.out] at h
          exact ⟨_, rfl, by rw [HTXX.out]; exact h, hG⟩
    · have r9 : (t.k == 9) = false := by simp [hk]
      have HTXX : Hid (textsF t = [] ++ textsL t.ks) := Lib.hid (by rw [HTX.out, if_neg hk])
      clear ih hr p9 p8 p4 p5 p6 p7 p1 hcnt hmk hk
      go_enter Try.func30, Try.ntmps30
      go_wp2_with fail
      have HBX : Hid (NBox (w.alloc (.cells #[.int .i64 t.k, .string (bs t.l), .string (bs t.x), .slice A n c, .string (bs t.e)] 24)) w.heap.size ⟨t.k, t.l, t.x, A, n, c, t.e⟩) := Lib.hid (heap_alloc_new w _)
      have HG : Hid (Gr w (w.alloc (.cells #[.int .i64 t.k, .string (bs t.l), .string (bs t.x), .slice A n c, .string (bs t.e)] 24))) := Lib.hid ((Gr.refl w).alloc _)
      have HOUT : Hid (OwnS w (w.alloc (.cells #[.int .i64 t.k, .string (bs t.l), .string (bs t.x), .slice A n c, .string (bs t.e)] 24)) (.slice none 0 0) []) := Lib.hid ⟨rfl, .inl ⟨rfl, rfl⟩⟩
      go_loopw [4, 3] (fun iv ov wr => NmRel w w.heap.size n ⟨t.k, t.l, t.x, A, n, c, t.e⟩ [] t.ks iv ov wr) (fun iv _ _ => n - (intOf iv).toNat)
      case atStart => exact ⟨0, Nat.zero_le _, rfl, by simpa [textsL] using HOUT.out, HBX.out, HG.out⟩
      case round =>
        obtain ⟨j, hj, rfl, hout, hnb, hG⟩ := hrel
        have HO2 := Lib.hid hout
        have HNB := Lib.hid hnb
        obtain ⟨g0, g1, g2, g3, g4⟩ := hnb.cells
        simp only at g0 g1 g2 g3 g4
        have hlb := lt_of_block hnb
        clear hout hnb
        by_cases hlt : j < n
        · obtain ⟨y, hyk⟩ : ∃ y, t.ks[j]? = some y := ⟨t.ks[j]'(by rw [← HN.out]; omega), List.getElem?_eq_getElem _⟩
          obtain ⟨bk, ok, d, hA, _, hbk, hce, hre⟩ := HK0.out j y hyk
          subst hA
          have hcg := countL_get _ _ _ hyk
          have HTK := Lib.hid (textsL_take t.ks hyk)
          have HTC := Lib.hid hcg
          have HB : Hid (countF y ≤ 1000000) := Lib.hid (by have h1 := HCC.out; have h2 := HCNT.out; omega)
          have HMY := Lib.hid (marked_kids HMK.out hyk)
          have HRE := Lib.hid (hre.gr hG)
          obtain ⟨e0, e1, e2, e3, e4⟩ := hce.keep (hG.on anyB) trivial hbk
          have hbw := Gr.lt hG hbk
          clear hyk hre hce hcg
          obtain ⟨Ao, co, rfl⟩ := own_form HO2.out
          have HCALL := Lib.hid (HI.out d y wr HRE.out HB.out HMY.out)
          go_wp2_with (first | (go_at_call 30; refine HCALL.out.mono ?_; rintro e w5 ⟨v5, rfl, ho5, hb5⟩; obtain ⟨A5, c5, rfl, hs5⟩ := own_src ho5 (strV_one _); have HS5 := Lib.hid hs5; have HB5 := Lib.hid hb5; have HO5 := Lib.hid (HO2.out.gr hb5); have hbs5 := Below.size hb5; (have hlen1 := textsF_len y); (have hlen2 := textsL_len (t.ks.take j)); (have hl3 : ([] ++ textsL (t.ks.take j)).length + (textsF y).length ≤ 3000000 := by have h1 := HB.out; have h2 := HTC.out; have h3 := HCNT.out; have h4 := HCC.out; simp; omega); have HL3 := Lib.hid hl3; clear hs5 hb5 ho5 hlen1 hlen2 hl3) | (at_builtin; refine wpList_app rfl (.tmp 21) (.tmp 27) 27 rfl w.heap.size 9 i1 _ 1 16 Try.underlying27 hy hy0 hy1 hy2 rfl (by decide) _ _ _ rfl HO5.out A5 (textsF y).length c5 _ rfl HS5.out (by have := HL3.out; unfold maxLen; omega) (by have := HL3.out; omega) (by have := Below.size hG; omega) ?_; intro v7 w7 hown7 hgrow7; have HO7 := Lib.hid hown7; have HG7 := Lib.hid hgrow7; clear hown7 hgrow7))
          go_roundw
          case rel =>
            have hg7 : Gr w w7 := Gr.grownOwn (hG.trans HB5.out) HG7.out (fun k hk => (HO5.out.lt k hk).1)
            have hnb5 := HNB.out.gr HB5.out
            refine ⟨j + 1, by omega, by go_num, ?_, (HG7.out.block _ (lt_of_block hnb5) (fun he => own_type HO5.out hnb5 (by decide) he.symm)).trans hnb5, hg7⟩
            rw [HTK.out, ← List.append_assoc]
            unfold OwnS
            have e1 : ((([] : List (List UInt8)) ++ textsL (t.ks.take j)) ++ textsF y).length = (([] : List (List UInt8)) ++ textsL (t.ks.take j)).length + (textsF y).length := List.length_append
            have e2 : ((([] : List (List UInt8)) ++ textsL (t.ks.take j)) ++ textsF y).map strV = (([] : List (List UInt8)) ++ textsL (t.ks.take j)).map strV ++ (textsF y).map strV := List.map_append
            rw [e1, e2]
            exact HO7.out
          case measure => simp [intOf] <;> omega
        · have htk : t.ks.take j = t.ks := List.take_of_length_le (by have := HN.out; omega)
          have HTK := Lib.hid htk
          clear htk
          go_wp2_with fail
          go_ret
          have h := HO2.out
          rw [HTK.out] at h
          exact ⟨_, rfl, by rw [HTXX.out]; exact h, hG⟩
def namesRQ (t : NT) : List (List UInt8) × Int := if properB t = false then ([], 1) else if ((textsF t).map (fun s => s.drop 1)).Nodup then ((textsF t).map (fun s => s.drop 1), 0) else ([], 8)
theorem nodup_step {l : List (List UInt8)} {i : Nat} {x : List UInt8} (h : (l.take i).Nodup) (hx : l[i]? = some x) (hn : x ∉ l.take i) : (l.take (i + 1)).Nodup := by
  rw [List.take_add_one, hx, List.nodup_append]
  exact ⟨h, by simp, fun a ha b hb => by simp at hb; rw [hb]; exact fun he => hn (he ▸ ha)⟩
theorem not_nodup {l : List (List UInt8)} {i k : Nat} {x : List UInt8} (hik : k < i) (hi : l[i]? = some x) (hk : l[k]? = some x) : ¬l.Nodup := by
  intro h
  have h1 := (List.getElem?_eq_some_iff.1 hi)
  have h2 := (List.getElem?_eq_some_iff.1 hk)
  obtain ⟨l1, e1⟩ := h1
  obtain ⟨l2, e2⟩ := h2
  have := (List.nodup_iff_pairwise_ne.1 h)
  rw [List.pairwise_iff_getElem] at this
  exact this k i l2 l1 hik (e2.trans e1.symm)
set_option maxRecDepth 100000 in
set_option maxHeartbeats 4000000 in
theorem NamesRP_any (m : Nat) (v : ND) (t : NT) (w : World) (hr : NRep anyB m w v t) (hl : lenF t ≤ 1152921504606846976) (hc : countF t ≤ 1000000) : Calls Try.prog 12 #[.agg #[.int .i64 v.k, .string (bs v.l), .string (bs v.x), .slice v.A v.n v.c, .string (bs v.e)]] w (RNames (namesRQ t) w) := by
  obtain ⟨b2, hb2⟩ : ∃ b, properB t = b := ⟨_, rfl⟩
  have h2 := fun W (hg : Gr w W) => properR_any m v t W (hr.gr hg) hl
  have h3 := fun W (hg : Gr w W) (hm : markedB t = true) => namesR_any m v t W (hr.gr hg) hc hm
  rw [hb2] at h2
  generalize hq : namesRQ t = q
  have HQ := Lib.hid hq
  have HP : Hid (properB t = b2) := Lib.hid hb2
  have H2 := Lib.hid h2
  have H3 := Lib.hid h3
  have HLE := Lib.hid (Nat.le_trans (textsF_len t) hc)
  clear hr hb2 h2 h3 hq hc hl
  go_enter Try.func12, Try.ntmps12
  go_wp2_with fail
  have hn0 : NBox (w.alloc (.cells #[.int .i64 v.k, .string (bs v.l), .string (bs v.x), .slice v.A v.n v.c, .string (bs v.e)] 24)) w.heap.size v := heap_alloc_new w (.cells #[.int .i64 v.k, .string (bs v.l), .string (bs v.x), .slice v.A v.n v.c, .string (bs v.e)] 24)
  refine (H2.out _ ((Gr.refl w).alloc _)).mono ?_
  rintro e w1 ⟨rfl, hb1⟩
  have hg1 : Gr w w1 := ((Gr.refl w).alloc _).trans hb1
  have hn1 := hn0.gr hb1
  obtain ⟨k0, k1, k2, k3, k4⟩ := hn1.cells
  have kl := lt_of_block hn1
  clear hn0 hn1 hb1
  cases b2 with
  | false =>
    have hq2 : q = ([], 1) := by rw [← HQ.out, namesRQ, if_pos HP.out]
    have HQ2 := Lib.hid hq2
    clear hq2
    go_wp2_with fail
    go_ret2
    exact ⟨none, 0, 0, by rw [HQ2.out]; rfl, by rw [HQ2.out]; exact RowStr.nil w1, hg1⟩
  | true =>
    have hmk : markedB t = true := by
      have h := HP.out
      unfold properB at h
      simp only [Bool.and_eq_true] at h
      exact h.2
    have HMK := Lib.hid hmk
    clear hmk
    go_wp2_with fail
    refine (H3.out _ hg1 HMK.out).mono ?_
    rintro e w2 ⟨ov, rfl, how, hb2⟩
    have hg2 := hg1.trans hb2
    obtain ⟨ss, hss⟩ : ∃ ss, ss = (textsF t).map (fun s => s.drop 1) := ⟨_, rfl⟩
    have hsl : ss.length = (textsF t).length := by rw [hss, List.length_map]
    have hw2 : w2.ownsRow w1.heap.size 9 1 ov ss.length (ss.map (fun s => .string (bs s))) := by
      rw [hsl, hss, List.map_map]
      exact how
    obtain ⟨A9, c9, rfl, hrow⟩ := RowStr.of_own hw2
    obtain ⟨n9, hn9⟩ : ∃ n9, n9 = ss.length := ⟨_, rfl⟩
    rw [← hn9] at hrow
    rw [← hn9]
    have hnb : n9 ≤ 1000000 := by rw [hn9, hsl]; exact HLE.out
    have hq2 : q = if ss.Nodup then (ss, 0) else ([], 8) := by rw [← HQ.out, namesRQ, if_neg (by rw [HP.out]; decide), ← hss]
    have HQ2 := Lib.hid hq2
    have HROW := Lib.hid hrow
    have HN := Lib.hid hn9
    have HG2 := Lib.hid hg2
    clear hq2 hrow hn9 hg2 hw2 how hsl hss hb2 hg1 k0 k1 k2 k3 k4 kl
    go_wp2_with fail
    go_loopw [5] (fun iv wr => ∃ i : Nat, i ≤ n9 ∧ iv = .int .i64 i ∧ (ss.take i).Nodup ∧ Gr w2 wr) (fun iv _ => n9 - (intOf iv).toNat)
    case atStart => exact ⟨0, Nat.zero_le _, rfl, by simp, Gr.refl _⟩
    case round =>
      obtain ⟨i, hi, rfl, hnd, hG⟩ := hrel
      have HND := Lib.hid hnd
      have HG := Lib.hid hG
      clear hnd hG
      by_cases hlt : i < n9
      · obtain ⟨x, hx⟩ : ∃ x, ss[i]? = some x := ⟨ss[i]'(by rw [← HN.out]; omega), List.getElem?_eq_getElem _⟩
        have HX := Lib.hid hx
        obtain ⟨g9, rfl, hgl, hgc⟩ := HROW.out.2.2.2 (by omega)
        have HGC := Lib.hid hgc
        have hlt1 : (i : Int) < (n9 : Int) := by omega
        clear hx hgc
        go_wp2_with fail
        go_loopw [6] (fun kv wr' => ∃ k : Nat, k ≤ i ∧ kv = .int .i64 k ∧ x ∉ ss.take k ∧ Gr wr wr') (fun kv _ => i - (intOf kv).toNat)
        case atStart => exact ⟨0, Nat.zero_le _, rfl, by simp, Gr.refl _⟩
        case round =>
          obtain ⟨k, hk, rfl, hnx, hG2⟩ := hrel
          have HNX := Lib.hid hnx
          clear hnx
          by_cases hlk : k < i
          · obtain ⟨z, hz⟩ : ∃ z, ss[k]? = some z := ⟨ss[k]'(by rw [← HN.out]; omega), List.getElem?_eq_getElem _⟩
            have HZ := Lib.hid hz
            have ci := Gr.cell (HG.out.trans hG2) (HGC.out i x HX.out)
            have ck := Gr.cell (HG.out.trans hG2) (HGC.out k z hz)
            have hgl2 := Gr.lt (HG.out.trans hG2) hgl
            clear hz
            by_cases hxz : x = z
            · have qe : ((bs x).toList == (bs z).toList) = true := by rw [hxz]; simp
              have HXZ := Lib.hid hxz
              clear hxz
              have hbad : ¬ss.Nodup := not_nodup hlk HX.out (HXZ.out ▸ HZ.out)
              have HB : Hid (q = ([], 8)) := Lib.hid (by rw [HQ2.out, if_neg hbad])
              clear hbad
              go_wp2_with fail
              have kq9_0 := cell_regrown ci
              have kq9_1 := cell_regrown ck
              refine wp_region_quiet_below (by kernel_rfl) (by kernel_rfl) ?_
              repeat (go_big_quiet_step (fail))
              refine wpQuiet_nil ?_
              intro wq9 hwq9
              have hbq9 := gr_regrown hwq9
              clear hwq9
              replace kq9_0 := hbq9.cell ci
              replace kq9_1 := hbq9.cell ck
              go_wp2_with fail
              go_ret2
              exact ⟨none, 0, 0, by rw [HB.out]; rfl, by rw [HB.out]; exact RowStr.nil _, ((HG2.out.trans HG.out).trans hG2).trans hbq9⟩
            · have qe : ((bs x).toList == (bs z).toList) = false := by rw [bs_list, bs_list]; simp [hxz]
              have qd : (bs x = bs z) = False := by simp [bs_inj, hxz]
              have HNX2 : Hid (x ∉ ss.take (k + 1)) := Lib.hid (by rw [List.take_add_one, HZ.out]; simp [hxz, HNX.out])
              go_wp2_with fail
              have kq9_0 := cell_regrown ci
              have kq9_1 := cell_regrown ck
              refine wp_region_quiet_below (by kernel_rfl) (by kernel_rfl) ?_
              repeat (go_big_quiet_step (fail))
              refine wpQuiet_nil ?_
              intro wq9 hwq9
              have hbq9 := gr_regrown hwq9
              clear hwq9
              replace kq9_0 := hbq9.cell ci
              replace kq9_1 := hbq9.cell ck
              go_wp2_with fail
              go_roundw
              case rel => exact ⟨k + 1, by omega, by go_num, HNX2.out, hG2.trans hbq9⟩
              case measure => simp [intOf] <;> omega
          · have hki : k = i := by omega
            have HNX2 : Hid ((ss.take (i + 1)).Nodup) := Lib.hid (nodup_step HND.out HX.out (hki ▸ HNX.out))
            clear hki
            go_wp2_with fail
            go_roundw
            case rel => exact ⟨i + 1, by omega, by go_num, HNX2.out, HG.out.trans hG2⟩
            case measure => simp [intOf] <;> omega
      · have htk : ss.take i = ss := List.take_of_length_le (by rw [← HN.out]; omega)
        have HB : Hid (q = (ss, 0)) := Lib.hid (by have h := HND.out; rw [htk] at h; rw [HQ2.out, if_pos h])
        clear htk
        go_wp2_with fail
        go_ret2
        exact ⟨A9, n9, c9, by rw [HB.out]; rfl, by rw [HB.out]; exact HROW.out.gr HG.out, HG2.out.trans HG.out⟩
set_option maxRecDepth 100000 in
set_option maxHeartbeats 4000000 in
theorem aliasesR_any (m : Nat) (v : ND) (t : NT) (w : World) (hr : NRep anyB m w v t) (hl : lenF t ≤ 1152921504606846976) (hc : countF t ≤ 1000000) : Calls Try.prog 14 #[.agg #[.int .i64 v.k, .string (bs v.l), .string (bs v.x), .slice v.A v.n v.c, .string (bs v.e)]] w (RI (if properB t = true then kindF 10 t else 0) w) := by
  obtain ⟨b2, hb2⟩ : ∃ b, properB t = b := ⟨_, rfl⟩
  have h2 := fun W (hg : Gr w W) => properR_any m v t W (hr.gr hg) hl
  have h3 := fun W (hg : Gr w W) => countKR_any 10 m v t W (hr.gr hg) (Nat.le_trans hc (by decide))
  rw [hb2] at h2 ⊢
  generalize hq : (if b2 = true then kindF 10 t else 0) = q
  have HQ := Lib.hid hq
  clear hq
  have H2 := Lib.hid h2
  have H3 := Lib.hid h3
  clear hr hb2 h2 h3 hc hl
  go_enter Try.func14, Try.ntmps14
  go_wp2_with fail
  have hn0 : NBox (w.alloc (.cells #[.int .i64 v.k, .string (bs v.l), .string (bs v.x), .slice v.A v.n v.c, .string (bs v.e)] 24)) w.heap.size v := heap_alloc_new w (.cells #[.int .i64 v.k, .string (bs v.l), .string (bs v.x), .slice v.A v.n v.c, .string (bs v.e)] 24)
  refine (H2.out _ ((Gr.refl w).alloc _)).mono ?_
  rintro e w1 ⟨rfl, hb1⟩
  have hg1 : Gr w w1 := ((Gr.refl w).alloc _).trans hb1
  have hn1 := hn0.gr hb1
  obtain ⟨k0, k1, k2, k3, k4⟩ := hn1.cells
  have kl := lt_of_block hn1
  clear hn0 hn1 hb1
  cases b2 with
  | false =>
    go_wp2_with fail
    go_ret
    exact ⟨by rw [← HQ.out]; rfl, hg1⟩
  | true =>
    go_wp2_with fail
    refine (H3.out _ hg1).mono ?_
    rintro e w2 ⟨rfl, hb2⟩
    go_wp2_with fail
    go_ret
    exact ⟨by rw [← HQ.out]; rfl, hg1.trans hb2⟩
theorem head_amp {s : List UInt8} (h : namedB s 38 = true) : s = 38 :: s.drop 1 := by
  have hl := (named_len h).1
  unfold namedB at h
  simp only [Bool.and_eq_true, decide_eq_true_eq] at h
  match s, hl, h with
  | c :: r, _, h =>
    have h1 : c.toNat = 38 := h.1.2.2
    have h2 : c = 38 := by
      apply UInt8.toNat_inj.1
      exact h1
    rw [h2]
    rfl
mutual
theorem texts_amp : ∀ (t : NT), markedB t = true → ∀ s ∈ textsF t, namedB s 38 = true
  | .mk k l x ks e, hm, s, hs => by
    rw [textsF, List.mem_append] at hs
    rcases hs with hs | hs
    · by_cases hk : k = 9
      · rw [if_pos hk, List.mem_singleton] at hs
        rw [hs]
        exact (marked_anchor hm hk).1
      · rw [if_neg hk] at hs; cases hs
    · exact textsL_amp ks (marked_bad hm).2 s hs
theorem textsL_amp : ∀ (l : List NT), markedL l = true → ∀ s ∈ textsL l, namedB s 38 = true
  | [], _, s, hs => by rw [textsL] at hs; cases hs
  | y :: r, hm, s, hs => by
    rw [markedL] at hm
    split at hm
    · rename_i hy
      rw [textsL, List.mem_append] at hs
      rcases hs with hs | hs
      · exact texts_amp y hy s hs
      · exact textsL_amp r hm s hs
    · cases hm
end
theorem nodup_drop : ∀ (l : List (List UInt8)), (∀ s ∈ l, namedB s 38 = true) → ((l.map (fun s => s.drop 1)).Nodup ↔ l.Nodup)
  | [], _ => by simp
  | x :: r, h => by
    rw [List.map_cons, List.nodup_cons, List.nodup_cons, nodup_drop r (fun s hs => h s (by simp [hs]))]
    refine and_congr_left (fun _ => not_congr ⟨fun hm => ?_, fun hm => List.mem_map.2 ⟨x, hm, rfl⟩⟩)
    obtain ⟨y, hy, he⟩ := List.mem_map.1 hm
    have h1 := head_amp (h x (by simp))
    have h2 := head_amp (h y (by simp [hy]))
    rw [h1, ← he, ← h2]
    exact hy
theorem namesQ_same (t : NT) : namesQ t = namesRQ t := by
  unfold namesQ namesRQ
  by_cases hp : properB t = false
  · rw [if_pos hp, if_pos hp]
  · rw [if_neg hp, if_neg hp, visN_law t [] (by simp), List.nil_append]
    have hm : markedB t = true := by
      simp only [Bool.not_eq_false] at hp
      unfold properB at hp
      simp only [Bool.and_eq_true] at hp
      exact hp.2
    have hd := nodup_drop (textsF t) (texts_amp t hm)
    by_cases hn : (textsF t).Nodup
    · rw [if_pos hn, if_pos (hd.2 hn)]
      rfl
    · rw [if_neg hn, if_neg (fun h => hn (hd.1 h))]
      rfl
end Go.Proofs.Ytbfnmgiccbdglaa
