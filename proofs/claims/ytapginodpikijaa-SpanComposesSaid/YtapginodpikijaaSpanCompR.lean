/- The reference's Compose, walked. -/
import Derived.Test.YtapginodpikijaaSpanSame
namespace Go.Proofs.Ytapginodpikijaa
open Go.ChangeShapes Go.WideShapes Go.ChangeAt Go.RowKit
open Go.Lib hiding intOf

theorem kp_ck (src : List UInt8) (a b : List EN) (ha : Ok src.length 0 a) (hb : Ok (appF src 0 a).length 0 b) : kp 0 (ck (keptF src.length 0 0 a) (keptF (appF src 0 a).length 0 0 b)) = compP src a b := by
  symm
  refine riseI_ext _ _ 0 0 (compP_facts src a b ha hb).1.toI (kp_riseI _ _) ?_
  rintro ⟨i, z⟩
  rw [mem_compP src a b ha hb, mem_ck, kp_kept _ _ _ _ ha, kp_kept _ _ _ _ hb]
theorem ck_snoc_neg {a b : List Int} {i : Nat} {k : Int} (h : a[i]? = some k) (hk : k < 0) : ck (a.take (i + 1)) b = ck (a.take i) b ++ [k] := by
  rw [take_succ_at h]
  simp [ck, hk]
theorem ck_snoc_pos {a b : List Int} {i k : Nat} (h : a[i]? = some (k : Int)) : ck (a.take (i + 1)) b = ck (a.take i) b ++ [b.getD k (-1)] := by
  rw [take_succ_at h]
  have : ¬ (k : Int) < 0 := by omega
  simp [ck, this]
theorem ck_all {P : Int → Prop} {a b : List Int} (ha : ∀ z ∈ a, P z) (hb : ∀ z ∈ b, P z) (h1 : P (-1)) : ∀ z ∈ ck a b, P z := by
  intro z hz
  obtain ⟨k, hk, rfl⟩ := List.mem_map.1 hz
  by_cases h : k < 0
  · rw [if_pos h]; exact ha k hk
  · rw [if_neg h, List.getD]
    cases hg : b[k.toNat]? with
    | none => exact h1
    | some u => exact hb u (List.mem_of_getElem? hg)
def CompRRel (w : World) (k1 k2 : List Int) (n : Nat) (vo iv : Value) (wr : World) : Prop :=
  ∃ j : Nat, j ≤ n ∧ iv = .int .i64 j ∧ Gr w wr ∧ OwnN wr w.heap.size vo j (ck (k1.take j) k2)
set_option maxRecDepth 100000 in
set_option maxHeartbeats 8000000 in
theorem composeRP_bad1 (src : List UInt8) (A B : Option Addr) (la ca lb cb : Nat) (es : List ED) (w : World) (he : EditsAt w A la es) (hl : la ≤ 5000) (hc : checkF es src.length ≠ 0) :
    Calls Try.prog 28 #[.string (bs src), .slice A la ca, .slice B lb cb] w (R2 (.slice none 0 0) (.int .i64 (checkF es src.length)) w) := by
  have hcb : (checkF es src.length == 0) = false := by simpa using hc
  have hcb' : (checkF es src.length != 0) = true := by simpa using hc
  go_enter Try.func28, Try.ntmps28
  go_wp2_with fail
  refine (applyRP_bad src A la ca es w he hl hc).mono ?_
  rintro e w1 ⟨rfl, hb1⟩
  go_wp2_with fail
  go_ret2
  exact ⟨rfl, hb1⟩
set_option maxRecDepth 100000 in
set_option maxHeartbeats 8000000 in
theorem composeRP_bad2 (src : List UInt8) (A B : Option Addr) (la ca lb cb : Nat) (ns : List EN) (es : List ED) (w : World) (he : EditsAt w A la (ns.map EN.ed)) (hl : la ≤ 5000) (hc : checkF (ns.map EN.ed) src.length = 0) (hok : Ok src.length 0 ns) (hsum : src.length + texts ns ≤ 1048576)
    (he2 : EditsAt w B lb es) (hl2 : lb ≤ 5000) (hc2 : checkF es (appF src 0 ns).length ≠ 0) :
    Calls Try.prog 28 #[.string (bs src), .slice A la ca, .slice B lb cb] w (R2 (.slice none 0 0) (.int .i64 (checkF es (appF src 0 ns).length)) w) := by
  have hcb : (checkF es (appF src 0 ns).length == 0) = false := by simpa using hc2
  have hcb' : (checkF es (appF src 0 ns).length != 0) = true := by simpa using hc2
  go_enter Try.func28, Try.ntmps28
  go_wp2_with fail
  refine (applyRP_ok src A la ca ns w he hl hc hok hsum).mono ?_
  rintro e w1 ⟨rfl, hb1⟩
  go_wp2_with fail
  refine (applyRP_bad _ B lb cb es _ (he2.keep hb1) hl2 hc2).mono ?_
  rintro e w2 ⟨rfl, hb2⟩
  go_wp2_with fail
  go_ret2
  exact ⟨rfl, hb1.trans hb2⟩
set_option maxRecDepth 100000 in
set_option maxHeartbeats 8000000 in
theorem composeRP_ok (src : List UInt8) (A B : Option Addr) (la ca lb cb : Nat) (a b : List EN) (w : World) (he : EditsAt w A la (a.map EN.ed)) (hl : la ≤ 5000) (hc : checkF (a.map EN.ed) src.length = 0) (hok : Ok src.length 0 a) (hsum : src.length + texts a ≤ 1000000)
    (he2 : EditsAt w B lb (b.map EN.ed)) (hl2 : lb ≤ 5000) (hc2 : checkF (b.map EN.ed) (appF src 0 a).length = 0) (hok2 : Ok (appF src 0 a).length 0 b) (hsum2 : (appF src 0 a).length + texts b ≤ 1000000) :
    Calls Try.prog 28 #[.string (bs src), .slice A la ca, .slice B lb cb] w (InvPost (compF src a b) w) := by
  have hdl := appF_delta src a 0 hok (Nat.zero_le _)
  have hdb := delta_le src.length a 0 hok (Nat.zero_le _)
  have hdl2 := appF_delta _ b 0 hok2 (Nat.zero_le _)
  have hdb2 := delta_le _ b 0 hok2 (Nat.zero_le _)
  have hTb : (appF src 0 a).length ≤ 1048576 := by omega
  have hTb2 : (appF (appF src 0 a) 0 b).length ≤ 1048576 := by omega
  rw [comp_ref src a b hok hok2]
  have hck := kp_ck src a b hok hok2
  obtain ⟨f1, f2⟩ := compP_facts src a b hok hok2
  rw [← hck] at f1 f2
  have hp2 := (pairs_facts src a hok).2
  rw [← kp_kept src.length a 0 0 hok] at hp2
  have hk1l := keptF_length src.length a 0 0 hok (Nat.zero_le _)
  have hk2l := keptF_length (appF src 0 a).length b 0 0 hok2 (Nat.zero_le _)
  rw [Nat.sub_zero] at hk1l hk2l
  have hb1 := keptF_bounds src.length a 0 0 hok (Nat.zero_le _)
  have hb2 := keptF_bounds (appF src 0 a).length b 0 0 hok2 (Nat.zero_le _)
  have HAP := Lib.hid (applyRP_ok src A la ca a w he hl hc hok (by omega))
  have HAP2 := Lib.hid (fun w' hg => applyRP_ok (appF src 0 a) B lb cb b w' (he2.keep hg) hl2 hc2 hok2 (by omega))
  have HKE := Lib.hid (fun w' hg => keptP_ok src.length A la ca a w' (he.keep hg) hl hok (by omega) (by omega))
  have HKE2 := Lib.hid (fun w' hg => keptP_ok (appF src 0 a).length B lb cb b w' (he2.keep hg) hl2 hok2 (by omega) (by omega))
  clear he he2 hc hc2 hok hok2 hdl hdb hdl2 hdb2 hck
  generalize keptF src.length 0 0 a = k1 at *
  generalize keptF (appF src 0 a).length 0 0 b = k2 at *
  generalize appF (appF src 0 a) 0 b = dst at *
  generalize appF src 0 a = mid at *
  have hkb : ∀ i k : Nat, k1[i]? = some (k : Int) → k < mid.length := fun i k h => (hp2 (i, k) ((mem_kp k1 0 i k).2 ⟨i, by omega, h⟩)).2.1
  have hall : ∀ z ∈ ck k1 k2, -4194304 ≤ z ∧ z ≤ 4194304 := ck_all (fun z hz => by have := hb1 z hz; omega) (fun z hz => by have := hb2 z hz; omega) (by omega)
  have hch : ChainK dst.length 0 (ck k1 k2) := chainK_of _ _ 0 0 0 f1 (fun p hp => (f2 p hp).2.1) (Nat.zero_le _)
  have hckl : (ck k1 k2).length = src.length := by unfold ck; rw [List.length_map, hk1l]
  have HKB := Lib.hid hkb
  have HALL := Lib.hid hall
  have HCH := Lib.hid hch
  have HCKL := Lib.hid hckl
  have HK1L := Lib.hid hk1l
  have HK2L := Lib.hid hk2l
  have hsz : ((bs src).size : Int) = src.length := rfl
  have hmz : ((bs mid).size : Int) = mid.length := rfl
  have hsrc : src.length ≤ 1048576 := by omega
  clear f1 f2 hp2 hb1 hb2 hkb hall hch hckl hk1l hk2l
  obtain ⟨i0, hi, hz0, hz1, hz2⟩ := info_parts infoInt
  go_enter Try.func28, Try.ntmps28
  go_wp2_with fail
  refine HAP.out.mono ?_
  rintro e w1 ⟨rfl, hg1⟩
  go_wp2_with fail
  refine (HAP2.out _ hg1).mono ?_
  rintro e w2 ⟨rfl, hg2⟩
  have hg02 := hg1.trans hg2
  go_wp2_with fail
  refine (HKE.out _ hg02).mono ?_
  rintro e w3 ⟨A1, n1, c1, rfl, hn1, hm1, hi1, hg3⟩
  have hg03 := hg02.trans hg3
  have hnn1 : n1 = src.length := by rw [← hi1.1, HK1L.out]
  have HI1 := Lib.hid hi1
  clear hi1
  go_wp2_with fail
  refine (HKE2.out _ hg03).mono ?_
  rintro e w4 ⟨A2, n2, c2, rfl, hn2, hm2, hi2, hg4⟩
  have hg04 := hg03.trans hg4
  have hnn2 : n2 = mid.length := by rw [← hi2.1, HK2L.out]
  have HI1' := Lib.hid (HI1.out.keep hg4)
  have HI2 := Lib.hid hi2
  subst hnn1 hnn2
  clear hi2 HI1 HAP HAP2 HKE HKE2
  go_wp2_with fail
  go_loopw [14, 15] (fun vo iv wr => CompRRel w4 k1 k2 src.length vo iv wr) (fun _ iv _ => src.length - (intOf iv).toNat)
  case atStart => exact ⟨0, Nat.zero_le _, rfl, Gr.refl _, World.ownsRow_nil _ _ _ _⟩
  case round =>
    obtain ⟨k, hj, rfl, hG, hown⟩ := hrel
    have HQ := Lib.hid hown
    obtain ⟨A3, c3, rfl⟩ := own_form hown
    have hw2 := Below.size hG
    by_cases hlt : k < src.length
    · obtain ⟨x, hgk⟩ : ∃ x, k1[k]? = some x := ⟨k1[k]'(by have := HK1L.out; omega), List.getElem?_eq_getElem _⟩
      obtain ⟨_, _, h3⟩ := HI1'.out.keep hG
      obtain ⟨b1, o1, rfl, hb1, hcell⟩ := h3 (by omega)
      have hc := hcell k hlt
      rw [List.getD, hgk, Option.getD_some] at hc
      clear h3 hcell hown
      by_cases hneg : x < 0
      · have HST := Lib.hid (ck_snoc_neg (b := k2) hgk hneg)
        clear hgk
        go_wp2_with (at_builtin; go_must (refine wpList_append_own _ rfl (.tmp 59) (.tmp 61) 59 rfl w4.heap.size 3 i0 _ 1 8 Try.underlying59 hi hz0 hz1 hz2 rfl (by decide) _ k _ rfl (HQ.out.alloc _) ⟨wr.heap.size, 0, none⟩ 1 1 [.int .i64 (x)] rfl rfl (news_new (by simp)) (by simp [Value.oneCell']) (by unfold maxLen; omega) (by omega) (by simp; omega) ?_); intro v6 w6 hown6 hgrow6 _)
        have hG3 : Gr w4 w6 := Gr.grownOwn (hG.alloc _) hgrow6 (fun k hk => (HQ.out.lt k hk).1)
        have HO3 := Lib.hid (OwnN.snoc hown6 HST.out)
        obtain ⟨A6, c6, rfl⟩ := own_form hown6
        clear hown6 hgrow6
        go_roundw
        case rel => exact ⟨k + 1, by omega, by go_num, hG3, HO3.out⟩
        case measure => simp [intOf] <;> omega
      · obtain ⟨x, rfl⟩ := Int.eq_ofNat_of_zero_le (show 0 ≤ x by omega)
        have hxm := HKB.out k x hgk
        obtain ⟨y, hgy⟩ : ∃ y, k2[x]? = some y := ⟨k2[x]'(by have := HK2L.out; omega), List.getElem?_eq_getElem _⟩
        have hst := ck_snoc_pos (b := k2) hgk
        rw [List.getD, hgy, Option.getD_some] at hst
        have HST := Lib.hid hst
        obtain ⟨_, _, h4⟩ := HI2.out.keep (hG)
        obtain ⟨b2, o2, rfl, hb2, hcell2⟩ := h4 (by omega)
        have hc2 := hcell2 x hxm
        rw [List.getD, hgy, Option.getD_some] at hc2
        clear hgk hgy hst h4 hcell2
        go_wp2_with (at_builtin; go_must (refine wpList_append_own _ rfl (.tmp 59) (.tmp 61) 59 rfl w4.heap.size 3 i0 _ 1 8 Try.underlying59 hi hz0 hz1 hz2 rfl (by decide) _ k _ rfl (HQ.out.alloc _) ⟨wr.heap.size, 0, none⟩ 1 1 [.int .i64 (y)] rfl rfl (news_new (by simp)) (by simp [Value.oneCell']) (by unfold maxLen; omega) (by omega) (by simp; omega) ?_); intro v6 w6 hown6 hgrow6 _)
        have hG3 : Gr w4 w6 := Gr.grownOwn (hG.alloc _) hgrow6 (fun k hk => (HQ.out.lt k hk).1)
        have HO3 := Lib.hid (OwnN.snoc hown6 HST.out)
        obtain ⟨A6, c6, rfl⟩ := own_form hown6
        clear hown6 hgrow6
        go_roundw
        case rel => exact ⟨k + 1, by omega, by go_num, hG3, HO3.out⟩
        case measure => simp [intOf] <;> omega
    · obtain rfl : k = src.length := by omega
      have h2 := HQ.out
      rw [← HK1L.out, List.take_length, HK1L.out] at h2
      have h3 := h2.to rfl
      obtain ⟨A4, c4, hv4, _, _, hr4⟩ := IntsAt.of_own h3 HALL.out
      rw [HCKL.out] at hv4 hr4
      simp only [Value.slice.injEq, true_and] at hv4
      obtain ⟨rfl, rfl⟩ := hv4
      have HBT := Lib.hid (betweenRP_any src dst _ A3 src.length c3 wr hr4 HCKL.out HCH.out (by omega) (by omega))
      clear h2 h3 hr4 hown HQ
      go_wp2_with fail
      refine HBT.out.mono ?_
      rintro e w5 ⟨A5, n5, c5, rfl, h5, h6, h7, h8⟩
      go_wp2_with fail
      go_ret2
      exact ⟨A5, n5, c5, rfl, h5, h6, h7, hg04.trans (hG.trans h8)⟩
end Go.Proofs.Ytapginodpikijaa
