/- The reference's Invert, walked. -/
import Derived.Test.YtapginodpikijaaSpanBtwR
import Derived.Test.YtapginodpikijaaSpanApplies
namespace Go.Proofs.Ytapginodpikijaa
open Go.ChangeShapes Go.WideShapes Go.ChangeAt Go.RowKit
open Go.Lib hiding intOf

theorem setAll_app (k0 : Nat) : ∀ (a : List (Nat × Nat)) (l : List Int) (b : List (Nat × Nat)), setAll k0 l (a ++ b) = setAll k0 (setAll k0 l a) b
  | [], _, _ => rfl
  | (x, y) :: a, l, b => by rw [List.cons_append, setAll, setAll, setAll_app k0 a]
theorem setAll_all {P : Int → Prop} (k0 : Nat) : ∀ (ps : List (Nat × Nat)) (l : List Int), (∀ z ∈ l, P z) → (∀ p ∈ ps, P (p.1 : Nat)) → ∀ z ∈ setAll k0 l ps, P z
  | [], _, h, _, z, hz => h z hz
  | (x, y) :: r, l, h, hp, z, hz => by
    rw [setAll] at hz
    refine setAll_all k0 r _ ?_ (fun p h => hp p (by simp [h])) z hz
    intro u hu
    rcases List.mem_or_eq_of_mem_set hu with hu | hu
    · exact h u hu
    · rw [hu]; exact hp (x, y) (by simp)
theorem kp_take_neg {ks : List Int} {i : Nat} {k : Int} (h : ks[i]? = some k) (hk : k < 0) : kp 0 (ks.take (i + 1)) = kp 0 (ks.take i) := by
  rw [take_succ_at h, kp_append, kp, if_pos hk, kp, List.append_nil]
theorem kp_take_pos {ks : List Int} {i : Nat} {k : Nat} (h : ks[i]? = some (k : Int)) : kp 0 (ks.take (i + 1)) = kp 0 (ks.take i) ++ [(i, k)] := by
  have hi := (List.getElem?_eq_some_iff.1 h).1
  rw [take_succ_at h, kp_append, kp, if_neg (by omega), kp, List.length_take, Nat.min_eq_left (by omega), Nat.zero_add]
  rfl
theorem set1 (P D : List Value) (j : Nat) (a : Value) (hP : P.length = j) (hD : 1 ≤ D.length) : (P ++ D).set j a = P ++ (a :: D.drop 1) := by
  match D, hD with
  | x :: r, _ =>
    rw [List.set_append_right _ _ (by omega), show j - P.length = 0 from by omega]
    rfl
def OwnV (w : World) (B g n : Nat) (xs : List Value) : Prop := w.ownsRow B 3 1 (.slice (some ⟨g, 0, none⟩) n n) n xs
def Inv1Rel (w1 : World) (init : List Value) (n g : Nat) (iv : Value) (wr : World) : Prop :=
  ∃ j : Nat, j ≤ n ∧ iv = .int .i64 j ∧ Gr w1 wr ∧ OwnV wr w1.heap.size g n (List.replicate j (.int .i64 (-1)) ++ init.drop j)
def Inv2Rel (w1 : World) (ks : List Int) (n m g : Nat) (iv : Value) (wr : World) : Prop :=
  ∃ j : Nat, j ≤ m ∧ iv = .int .i64 j ∧ Gr w1 wr ∧ OwnV wr w1.heap.size g n ((setAll 0 (List.replicate n (-1)) (kp 0 (ks.take j))).map (Value.int .i64))
set_option maxRecDepth 100000 in
set_option maxHeartbeats 8000000 in
theorem invertRP_bad (src : List UInt8) (A : Option Addr) (len cap : Nat) (es : List ED) (w : World) (he : EditsAt w A len es) (hl : len ≤ 5000) (hc : checkF es src.length ≠ 0) :
    Calls Try.prog 15 #[.string (bs src), .slice A len cap] w (R2 (.slice none 0 0) (.int .i64 (checkF es src.length)) w) := by
  have hcb : (checkF es src.length == 0) = false := by simpa using hc
  have hcb' : (checkF es src.length != 0) = true := by simpa using hc
  go_enter Try.func15, Try.ntmps15
  go_wp2_with fail
  refine (applyRP_bad src A len cap es w he hl hc).mono ?_
  rintro e w1 ⟨rfl, hb1⟩
  go_wp2_with fail
  go_ret2
  exact ⟨rfl, hb1⟩
set_option maxRecDepth 100000 in
set_option maxHeartbeats 8000000 in
theorem invertRP_ok (src : List UInt8) (A : Option Addr) (len cap : Nat) (ns : List EN) (w : World) (he : EditsAt w A len (ns.map EN.ed)) (hl : len ≤ 5000) (hc : checkF (ns.map EN.ed) src.length = 0) (hok : Ok src.length 0 ns)
    (hsum : src.length + texts ns ≤ 1048576) : Calls Try.prog 15 #[.string (bs src), .slice A len cap] w (InvPost (invF src ns) w) := by
  have hdl := appF_delta src ns 0 hok (Nat.zero_le _)
  have hdb := delta_le src.length ns 0 hok (Nat.zero_le _)
  have hTb : (appF src 0 ns).length ≤ 1048576 := by omega
  obtain ⟨hp1, hp2⟩ := pairs_facts src ns hok
  rw [inv_ref src ns hok]
  have hkp := kp_kept src.length ns 0 0 hok
  rw [← hkp] at hp1 hp2
  have hkl := keptF_length src.length ns 0 0 hok (Nat.zero_le _)
  rw [Nat.sub_zero] at hkl
  have HAP := Lib.hid (applyRP_ok src A len cap ns w he hl hc hok hsum)
  have HKE := Lib.hid (fun w' hg => keptP_ok src.length A len cap ns w' (he.keep hg) hl hok (by omega) (by omega))
  clear he hc hok hdl hdb hkp
  generalize keptF src.length 0 0 ns = ks at *
  generalize appF src 0 ns = dst at *
  obtain ⟨n, hn⟩ : ∃ n, n = dst.length := ⟨_, rfl⟩
  obtain ⟨m, hm⟩ : ∃ m, m = src.length := ⟨_, rfl⟩
  have hkb : ∀ i k : Nat, ks[i]? = some (k : Int) → k < n := fun i k h => by
    have := (hp2 (i, k) ((mem_kp ks 0 i k).2 ⟨i, by omega, h⟩)).2.1
    rw [hn]; exact this
  have hch : ChainK src.length 0 (setAll 0 (List.replicate dst.length (-1)) (kp 0 ks)) := by
    refine chainK_of src.length _ 0 0 0 ?_ ?_ (Nat.zero_le _)
    · rw [setAll_kp _ 0 0 _ hp1 (fun p hp => by have := (hp2 p hp).2.1; omega)]
      exact rise_swap _ _ _ hp1
    · rw [setAll_kp _ 0 0 _ hp1 (fun p hp => by have := (hp2 p hp).2.1; omega)]
      intro p hp
      obtain ⟨q, hq, rfl⟩ := List.mem_map.1 hp
      exact (hp2 q hq).1
  have hall : ∀ z ∈ setAll 0 (List.replicate dst.length (-1)) (kp 0 ks), -4194304 ≤ z ∧ z ≤ 4194304 := setAll_all 0 _ _ (fun z hz => by rw [List.mem_replicate] at hz; omega) (fun p hp => by have := (hp2 p hp).1; omega)
  have hsl : (setAll 0 (List.replicate dst.length (-1)) (kp 0 ks)).length = dst.length := by rw [setAll_length, List.length_replicate]
  have HKB := Lib.hid hkb
  have HCH := Lib.hid hch
  have HALL := Lib.hid hall
  have HSL := Lib.hid hsl
  have HKL := Lib.hid hkl
  have HN := Lib.hid hn
  have HM := Lib.hid hm
  have hsz : ((bs src).size : Int) = m := by rw [hm]; rfl
  have hdz : ((bs dst).size : Int) = n := by rw [hn]; rfl
  have hszn : src.length = m := hm.symm
  have hnb : n ≤ 1048576 := by omega
  have hmb : m ≤ 1048576 := by omega
  rw [hszn] at HKE
  clear hp1 hp2 hkb hch hall hsl hkl hn hm hTb hszn hsum
  obtain ⟨i0, hi, hz0, hz1, hz2⟩ := info_parts infoInt
  go_enter Try.func15, Try.ntmps15
  go_wp2_with fail
  refine HAP.out.mono ?_
  rintro e w1 ⟨rfl, hb1⟩
  go_wp2_with fail
  refine (HKE.out _ hb1).mono ?_
  rintro e w2 ⟨Ak, nk, ck, rfl, hk1, hk2, hka, hb2⟩
  have hgr2 : Gr w w2 := hb1.trans hb2
  have hnk : nk = m := by rw [← hka.1, HKL.out, HM.out]
  subst hnk
  have HKA := Lib.hid hka
  clear hka HAP HKE hsz
  have hsz : ((bs src).size : Int) = nk := by rw [HM.out]; rfl
  go_wp2_with (at_make; (refine wpList_make_full _ rfl _ _ 59 rfl w2.heap.size 3 i0 _ 1 Try.underlying59 hi hz0 hz1 .i64 .i64 _ _ n rfl rfl rfl rfl (by rw [hz2]; omega) (by unfold maxLen; omega) (by omega) ?_); intro w3 hown3 hgrow3)
  have hG3 : Gr w2 w3 := Gr.grown hgrow3
  obtain ⟨init, hinit⟩ : ∃ l, l = (madeCells (Value.int IntKind.i64 0).cells (n * 1)).toList := ⟨_, rfl⟩
  rw [← hinit] at hown3
  have hil : init.length = n * 1 := hown3.1
  have hgl : w2.heap.size < w3.heap.size := (hown3.lt _ rfl).2
  have HOWN3 := Lib.hid hown3
  clear hinit hgrow3 hown3
  obtain ⟨g, hg⟩ : ∃ g, g = w2.heap.size := ⟨_, rfl⟩
  rw [← hg] at HOWN3 ⊢
  have HG := Lib.hid hg
  have hgw : w2.heap.size ≤ g := by omega
  clear hg
  go_loopw [10] (fun iv wr => Inv1Rel w2 init n g iv wr) (fun iv _ => n - (intOf iv).toNat)
  case atStart => exact ⟨0, Nat.zero_le _, rfl, hG3, by simpa [OwnV, ← HG.out] using HOWN3.out⟩
  case round =>
    obtain ⟨j, hj, rfl, hG, hown⟩ := hrel
    have HOWN := Lib.hid hown
    have hg2 : g < wr.heap.size := (hown.lt _ rfl).2
    by_cases hlt : j < n
    · have hlen : (List.replicate j (Value.int .i64 (-1)) ++ init.drop j).length = n * 1 := hown.1
      obtain ⟨z0, q0⟩ : ∃ z, wr.cell? ⟨g, j, none⟩ = some z := ⟨_, (hown.cellAt j (by omega)).trans (List.getElem?_eq_getElem (by omega))⟩
      have f0 := hown.frozenAt j
      clear hown hlen
      go_wp2_with fail
      go_roundw
      case rel =>
        refine ⟨j + 1, by omega, by go_num, (by with_reducible (repeat (first | exact Gr.refl _ | assumption | apply Gr.alloc | apply Gr.drew | apply Gr.drewN | refine Gr.setCell ?_ (by first | (simp; done) | (simp; omega)) _ | refine Gr.trans ?_ (by assumption)))), ?_⟩
        have h1 := (HOWN.out.stored j (.int .i64 (-1))).1
        rw [set1 _ _ j _ (by simp) (by rw [List.length_drop]; omega), List.drop_drop] at h1
        unfold OwnV
        rw [List.replicate_succ', List.append_assoc]
        exact h1
      case measure => simp [intOf] <;> omega
    · have hjn : j = n := by omega
      have h2 := HOWN.out
      rw [hjn, List.drop_of_length_le (by omega), List.append_nil] at h2
      have h3 : OwnV wr w2.heap.size g n ((setAll 0 (List.replicate n (-1)) (kp 0 (ks.take 0))).map (Value.int .i64)) := by
        simpa [kp, setAll] using h2
      have HO4 := Lib.hid h3
      clear h2 h3 HOWN hown hjn
      go_wp2_with fail
      obtain ⟨wo, rfl⟩ : ∃ wo : World, wo = wr := ⟨_, rfl⟩
      go_loopw [11] (fun iv wr => Inv2Rel w2 ks n nk g iv wr) (fun iv _ => nk - (intOf iv).toNat)
      case atStart => exact ⟨0, Nat.zero_le _, rfl, hG, HO4.out⟩
      case round =>
        obtain ⟨j, hj, rfl, hG, hown⟩ := hrel
        have HOWN := Lib.hid hown
        have hg2 : g < wr.heap.size := (hown.lt _ rfl).2
        by_cases hlt : j < nk
        · obtain ⟨k, hgk⟩ : ∃ k, ks[j]? = some k := ⟨ks[j]'(by have := HKL.out; have := HM.out; omega), List.getElem?_eq_getElem _⟩
          obtain ⟨h1, h2, h3⟩ := HKA.out.keep hG
          obtain ⟨bk, off, rfl, hbk0, hcell⟩ := h3 (by omega)
          have hc := hcell j hlt
          rw [List.getD, hgk, Option.getD_some] at hc
          clear h1 h2 h3 hcell
          by_cases hneg : k < 0
          · have HT := Lib.hid (kp_take_neg hgk hneg)
            clear hgk hown
            go_wp2_with fail
            go_roundw
            case rel => exact ⟨j + 1, by omega, by go_num, hG, by rw [HT.out]; exact HOWN.out⟩
            case measure => simp [intOf] <;> omega
          · obtain ⟨K, rfl⟩ := Int.eq_ofNat_of_zero_le (show 0 ≤ k by omega)
            have HT := Lib.hid (kp_take_pos hgk)
            have hKn := HKB.out j K hgk
            have hlen : ((setAll 0 (List.replicate n (-1)) (kp 0 (ks.take j))).map (Value.int .i64)).length = n * 1 := hown.1
            obtain ⟨z0, q0⟩ : ∃ z, wr.cell? ⟨g, K, none⟩ = some z := ⟨_, (hown.cellAt K (by omega)).trans (List.getElem?_eq_getElem (by omega))⟩
            have f0 := hown.frozenAt K
            clear hgk hown hlen
            go_wp2_with fail
            go_roundw
            case rel =>
              refine ⟨j + 1, by omega, by go_num, (by with_reducible (repeat (first | exact Gr.refl _ | assumption | apply Gr.alloc | apply Gr.drew | apply Gr.drewN | refine Gr.setCell ?_ (by first | (simp; done) | (simp; omega)) _ | refine Gr.trans ?_ (by assumption)))), ?_⟩
              have h1 := (HOWN.out.stored K (.int .i64 j)).1
              rw [HT.out, setAll_app, setAll, setAll, Nat.sub_zero]
              unfold OwnV
              rw [List.map_set]
              exact h1
            case measure => simp [intOf] <;> omega
        · have hjn : j = ks.length := by have := HKL.out; have := HM.out; omega
          have h2 := HOWN.out
          rw [hjn, List.take_length, HN.out] at h2
          have h3 : OwnI wr w2.heap.size (.slice (some ⟨g, 0, none⟩) n n) (setAll 0 (List.replicate dst.length (-1)) (kp 0 ks)) := by
            unfold OwnI
            rw [HSL.out, HN.out]
            exact h2
          obtain ⟨A4, c4, hv4, _, _, hr4⟩ := IntsAt.of_own h3 HALL.out
          rw [HSL.out] at hv4 hr4
          rw [← HN.out] at hv4
          simp only [Value.slice.injEq, true_and] at hv4
          obtain ⟨rfl, rfl⟩ := hv4
          have hr5 : IntsAt .i64 wr (some ⟨g, 0, none⟩) n (setAll 0 (List.replicate dst.length (-1)) (kp 0 ks)) := by
            rw [HN.out]
            exact hr4
          have HBT := Lib.hid (betweenRP_any dst src _ (some ⟨g, 0, none⟩) n n wr hr5 HSL.out HCH.out (by have := HN.out; omega) (by have := HM.out; omega))
          clear h2 h3 hr4 hr5 HOWN hown hjn
          go_wp2_with fail
          refine HBT.out.mono ?_
          rintro e w5 ⟨A5, n5, c5, rfl, h5, h6, h7, h8⟩
          go_wp2_with fail
          go_ret2
          exact ⟨A5, n5, c5, rfl, h5, h6, h7, hgr2.trans (hG.trans h8)⟩
end Go.Proofs.Ytapginodpikijaa
