/- visit of anchor, walked. -/
import Derived.Test.YtbfnmgiccbdglaaAnVst
import Derived.Test.YtbfnmgiccbdglaaAnMark
namespace Go.Proofs.Ytbfnmgiccbdglaa
open Go.ChangeShapes Go.WideShapes Go.ChangeAt Go.RowKit

theorem five_set {W : World} {p : Nat} {a b c d e : Value} {T : TypeId} (h : W.heap[p]? = some (.cells #[a, b, c, d, e] T (0, 0))) (a' b' c' d' e' : Value) : (((((W.setCell ⟨p, 0, none⟩ a').setCell ⟨p, 1, none⟩ b').setCell ⟨p, 2, none⟩ c').setCell ⟨p, 3, none⟩ d').setCell ⟨p, 4, none⟩ e').heap[p]? = some (.cells #[a', b', c', d', e'] T (0, 0)) := by
  simp [World.setCell, Array.getElem?_modify, h]
theorem zeroT (w : World) : (zeroValue 82).run Try.prog w = .ok (.pointer none) w := by kernel_rfl
set_option maxRecDepth 100000 in
set_option maxHeartbeats 4000000 in
theorem visit_alias0 (nb Bv Bm : Nat) (L : U5) (_m cnt : Nat) (f : List UInt8 → Option Nat) (st : AS) (t : NT) (A : Option Addr) (n c : Nat) (w : World) (HST : Hid (VSt nb Bv Bm L cnt f st w)) (HXL : Hid (t.x.length ≤ maxLen)) (hnw : nb ≤ w.heap.size) (hk : t.k = 10) (h2 : 2 ≤ t.x.length) (hf : f (t.x.drop 1) = none) : Calls Try.prog 48 #[.pointer (some ⟨Bv, 0, none⟩), .agg #[.int .i64 t.k, .string (bs t.l), .string (bs t.x), .slice A n c, .string (bs t.e)]] w (VPost nb Bv Bm L cnt f (0, 11, st) w) := by
  have HBX : Hid (NBox (w.alloc (.cells #[.int .i64 t.k, .string (bs t.l), .string (bs t.x), .slice A n c, .string (bs t.e)] 24)) w.heap.size ⟨t.k, t.l, t.x, A, n, c, t.e⟩) := Lib.hid (heap_alloc_new w _)
  have HS1 := Lib.hid (HST.out.gr ((Gr.refl w).alloc (.cells #[.int .i64 t.k, .string (bs t.l), .string (bs t.x), .slice A n c, .string (bs t.e)] 24)))
  have HVB := Lib.hid HS1.out.vis
  obtain ⟨nm, hnm⟩ : ∃ nm, nm = t.x.drop 1 := ⟨_, rfl⟩
  have HNM := Lib.hid hnm
  have HEX : Hid ((bs t.x).extract 1 t.x.length = bs nm) := Lib.hid (by rw [hnm]; exact bs_drop1 t.x)
  have HSZ : Hid ((bs t.x).size = t.x.length) := Lib.hid rfl
  have hnl : nm.length ≤ maxLen := by rw [hnm, List.length_drop]; exact Nat.le_trans (Nat.sub_le _ _) HXL.out
  have HNL := Lib.hid hnl
  rw [← hnm] at hf
  have HLK : Hid ((Instr.lookup 62 (.map (some Bm)) (.string (bs nm)) false).run Try.prog (w.alloc (.cells #[.int .i64 t.k, .string (bs t.l), .string (bs t.x), .slice A n c, .string (bs t.e)] 24)).drew = .ok (.pointer none) (w.alloc (.cells #[.int .i64 t.k, .string (bs t.l), .string (bs t.x), .slice A n c, .string (bs t.e)] 24)).drew) := Lib.hid (HS1.out.mp.look (w := (w.alloc (.cells #[.int .i64 t.k, .string (bs t.l), .string (bs t.x), .slice A n c, .string (bs t.e)] 24)).drew) Try.underlying62 (zeroT _) hnl |>.trans (by rw [hf]; rfl))
  have r9 : (t.k == 9) = false := by simp [hk]
  have r10 : (t.k == 10) = true := by simp [hk]
  clear hnm hf hk
  go_enter Try.func48, Try.ntmps48
  go_wp2_with fail
  obtain ⟨VS, hVS⟩ : ∃ VS : List (Nat × Nat × Value), VS = [(0, 64, .pointer (some ⟨Bv, 0, none⟩)), (1, 65, .pointer (some ⟨Bv, 0, none⟩)), (2, 66, .pointer (some ⟨Bv, 10, none⟩)), (3, 67, .map (some Bm)), (4, 68, .pointer (some ⟨w.heap.size, 2, none⟩)), (5, 69, .string (bs t.x)), (6, 70, .string (bs nm)), (7, 71, .pointer none), (8, 10, .pointer none)] := ⟨_, rfl⟩
  obtain ⟨US, hUS⟩ : ∃ US : List (Nat × Value), US = [(0, .pointer (some ⟨Bv, 0, none⟩)), (3, .pointer (some ⟨w.heap.size, 0, none⟩))] := ⟨_, rfl⟩
  refine wp_region_frame (by kernel_rfl) (by kernel_rfl) [64, 65, 66, 67, 68, 69, 70, 71, 10] (by simp) (Det VS US (fun _ _ w' => w' = (w.alloc (.cells #[.int .i64 t.k, .string (bs t.l), .string (bs t.x), .slice A n c, .string (bs t.e)] 24)).drew)) ?_ ?_ ?_
  · exact Det.start (by rw [hUS]; simp [slot]) (rfl)
  · intro B a' w' i o hfr hF ho hBi hdp
    have hi8 := (Array.getElem?_eq_some_iff.1 ho).1
    simp only [List.size_toArray, List.length_cons, List.length_nil] at hi8
    have hor : i = 0 ∨ i = 1 ∨ i = 2 ∨ i = 3 ∨ i = 4 ∨ i = 5 ∨ i = 6 ∨ i = 7 ∨ i = 8 := by omega
    clear hi8
    rcases hor with rfl | rfl | rfl | rfl | rfl | rfl | rfl | rfl | rfl
    all_goals (
      simp only [List.getElem?_toArray, List.getElem?_cons_zero, List.getElem?_cons_succ, Option.some.injEq] at ho
      subst ho
      rw [if_pos (show Region.wanted _ _ = true from rfl)]
      refine wp_hideK ?_
      intro K hK)
    · have hFW := hF.wd
      subst hFW
      have o0 := slot_spell (hF.had (d := 0) (v := .pointer (some ⟨Bv, 0, none⟩)) (by rw [hUS]; simp))
      go_simp
      exact hK.out _ _ (close_put hfr (d := 64) (by decide) (by simp) _ (F := fun u => Det VS US (fun _ _ w' => w' = (w.alloc (.cells #[.int .i64 t.k, .string (bs t.l), .string (bs t.x), .slice A n c, .string (bs t.e)] 24)).drew) (upB B 0) u _) (hF.step (by rw [hVS]; simp) (by rw [hUS]; simp) (rfl)))
    · have hFW := hF.wd
      subst hFW
      have hB0 : B 0 = true := hdp ⟨0, .data⟩ (by simp) (by rfl)
      have e0 := slot_spell (hF.get (i := 0) (d := 64) (v := .pointer (some ⟨Bv, 0, none⟩)) (by rw [hVS]; simp) hB0)
      go_simp
      exact hK.out _ _ (close_put hfr (d := 65) (by decide) (by simp) _ (F := fun u => Det VS US (fun _ _ w' => w' = (w.alloc (.cells #[.int .i64 t.k, .string (bs t.l), .string (bs t.x), .slice A n c, .string (bs t.e)] 24)).drew) (upB B 1) u _) (hF.step (by rw [hVS]; simp) (by rw [hUS]; simp) (rfl)))
    · have hFW := hF.wd
      subst hFW
      have hB1 : B 1 = true := hdp ⟨1, .data⟩ (by simp) (by rfl)
      have e1 := slot_spell (hF.get (i := 1) (d := 65) (v := .pointer (some ⟨Bv, 0, none⟩)) (by rw [hVS]; simp) hB1)
      go_simp
      exact hK.out _ _ (close_put hfr (d := 66) (by decide) (by simp) _ (F := fun u => Det VS US (fun _ _ w' => w' = (w.alloc (.cells #[.int .i64 t.k, .string (bs t.l), .string (bs t.x), .slice A n c, .string (bs t.e)] 24)).drew) (upB B 2) u _) (hF.step (by rw [hVS]; simp) (by rw [hUS]; simp) (rfl)))
    · have hFW := hF.wd
      subst hFW
      have hB2 : B 2 = true := hdp ⟨2, .data⟩ (by simp) (by rfl)
      have e2 := slot_spell (hF.get (i := 2) (d := 66) (v := .pointer (some ⟨Bv, 10, none⟩)) (by rw [hVS]; simp) hB2)
      have yv := cell_of_cells HVB.out 10
      have yl := lt_of_block HVB.out
      go_simp
      exact hK.out _ _ (close_put hfr (d := 67) (by decide) (by simp) _ (F := fun u => Det VS US (fun _ _ w' => w' = (w.alloc (.cells #[.int .i64 t.k, .string (bs t.l), .string (bs t.x), .slice A n c, .string (bs t.e)] 24)).drew) (upB B 3) u _) (hF.step (by rw [hVS]; simp) (by rw [hUS]; simp) (rfl)))
    · have hFW := hF.wd
      subst hFW
      have o3 := slot_spell (hF.had (d := 3) (v := .pointer (some ⟨w.heap.size, 0, none⟩)) (by rw [hUS]; simp))
      go_simp
      exact hK.out _ _ (close_put hfr (d := 68) (by decide) (by simp) _ (F := fun u => Det VS US (fun _ _ w' => w' = (w.alloc (.cells #[.int .i64 t.k, .string (bs t.l), .string (bs t.x), .slice A n c, .string (bs t.e)] 24)).drew) (upB B 4) u _) (hF.step (by rw [hVS]; simp) (by rw [hUS]; simp) (rfl)))
    · have hFW := hF.wd
      subst hFW
      have hB4 : B 4 = true := hdp ⟨4, .data⟩ (by simp) (by rfl)
      have e4 := slot_spell (hF.get (i := 4) (d := 68) (v := .pointer (some ⟨w.heap.size, 2, none⟩)) (by rw [hVS]; simp) hB4)
      have yx := HBX.out.cells.2.2.1
      have yl := lt_of_block HBX.out
      simp only at yx
      go_simp
      exact hK.out _ _ (close_put hfr (d := 69) (by decide) (by simp) _ (F := fun u => Det VS US (fun _ _ w' => w' = (w.alloc (.cells #[.int .i64 t.k, .string (bs t.l), .string (bs t.x), .slice A n c, .string (bs t.e)] 24)).drew) (upB B 5) u _) (hF.step (by rw [hVS]; simp) (by rw [hUS]; simp) (rfl)))
    · have hFW := hF.wd
      subst hFW
      have hB5 : B 5 = true := hdp ⟨5, .data⟩ (by simp) (by rfl)
      have e5 := slot_spell (hF.get (i := 5) (d := 69) (v := .string (bs t.x)) (by rw [hVS]; simp) hB5)
      have yn := HEX.out
      have ys := HSZ.out
      go_simp
      rw [if_pos (show (1 : Int) ≤ (t.x.length : Int) by omega)]
      go_simp
      exact hK.out _ _ (close_put hfr (d := 70) (by decide) (by simp) _ (F := fun u => Det VS US (fun _ _ w' => w' = (w.alloc (.cells #[.int .i64 t.k, .string (bs t.l), .string (bs t.x), .slice A n c, .string (bs t.e)] 24)).drew) (upB B 6) u _) (hF.step (by rw [hVS]; simp) (by rw [hUS]; simp) (rfl)))
    · have hFW := hF.wd
      subst hFW
      have hB3 : B 3 = true := hdp ⟨3, .data⟩ (by simp) (by rfl)
      have e3 := slot_spell (hF.get (i := 3) (d := 67) (v := .map (some Bm)) (by rw [hVS]; simp) hB3)
      have hB6 : B 6 = true := hdp ⟨6, .data⟩ (by simp) (by rfl)
      have e6 := slot_spell (hF.get (i := 6) (d := 70) (v := .string (bs nm)) (by rw [hVS]; simp) hB6)
      have yk := HLK.out
      go_simp
      exact hK.out _ _ (close_put hfr (d := 71) (by decide) (by simp) _ (F := fun u => Det VS US (fun _ _ w' => w' = (w.alloc (.cells #[.int .i64 t.k, .string (bs t.l), .string (bs t.x), .slice A n c, .string (bs t.e)] 24)).drew) (upB B 7) u _) (hF.step (by rw [hVS]; simp) (by rw [hUS]; simp) (rfl)))
    · have hFW := hF.wd
      subst hFW
      have hB7 : B 7 = true := hdp ⟨7, .data⟩ (by simp) (by rfl)
      have e7 := slot_spell (hF.get (i := 7) (d := 71) (v := .pointer none) (by rw [hVS]; simp) hB7)
      go_simp
      exact hK.out _ _ (close_put hfr (d := 10) (by decide) (by simp) _ (F := fun u => Det VS US (fun _ _ w' => w' = (w.alloc (.cells #[.int .i64 t.k, .string (bs t.l), .string (bs t.x), .slice A n c, .string (bs t.e)] 24)).drew) (upB B 8) u _) (hF.step (by rw [hVS]; simp) (by rw [hUS]; simp) (rfl)))
  · intro B u w' hall hF
    have z0 := hF.get (i := 0) (d := 64) (v := .pointer (some ⟨Bv, 0, none⟩)) (by rw [hVS]; simp) (hall 0 (by simp))
    have z1 := hF.get (i := 1) (d := 65) (v := .pointer (some ⟨Bv, 0, none⟩)) (by rw [hVS]; simp) (hall 1 (by simp))
    have z2 := hF.get (i := 2) (d := 66) (v := .pointer (some ⟨Bv, 10, none⟩)) (by rw [hVS]; simp) (hall 2 (by simp))
    have z3 := hF.get (i := 3) (d := 67) (v := .map (some Bm)) (by rw [hVS]; simp) (hall 3 (by simp))
    have z4 := hF.get (i := 4) (d := 68) (v := .pointer (some ⟨w.heap.size, 2, none⟩)) (by rw [hVS]; simp) (hall 4 (by simp))
    have z5 := hF.get (i := 5) (d := 69) (v := .string (bs t.x)) (by rw [hVS]; simp) (hall 5 (by simp))
    have z6 := hF.get (i := 6) (d := 70) (v := .string (bs nm)) (by rw [hVS]; simp) (hall 6 (by simp))
    have z7 := hF.get (i := 7) (d := 71) (v := .pointer none) (by rw [hVS]; simp) (hall 7 (by simp))
    have z8 := hF.get (i := 8) (d := 10) (v := .pointer none) (by rw [hVS]; simp) (hall 8 (by simp))
    have hFW := hF.wd
    clear hF hVS hUS
    simp only [List.foldl_cons, List.foldl_nil, Act.put, List.setIfInBounds_toArray, List.set_cons_zero, List.set_cons_succ, z0, z1, z2, z3, z4, z5, z6, z7, z8]
    clear z0 z1 z2 z3 z4 z5 z6 z7 z8
    subst hFW
    go_wp2_with fail
    go_ret2
    have hgr : Gr w ((w.alloc (.cells #[.int .i64 t.k, .string (bs t.l), .string (bs t.x), .slice A n c, .string (bs t.e)] 24)).drew) := ((Gr.refl w).alloc _).drew
    exact ⟨rfl, KV.gr hnw hgr, f, Ext.refl f, HST.out.gr hgr⟩
set_option maxRecDepth 100000 in
set_option maxHeartbeats 4000000 in
theorem visit_alias1 (nb Bv Bm : Nat) (L : U5) (_m cnt : Nat) (f : List UInt8 → Option Nat) (st : AS) (t : NT) (A : Option Addr) (n c : Nat) (w : World) (HST : Hid (VSt nb Bv Bm L cnt f st w)) (HXL : Hid (t.x.length ≤ maxLen)) (hnw : nb ≤ w.heap.size) (hk : t.k = 10) (h2 : 2 ≤ t.x.length) (b : Nat) (hf : f (t.x.drop 1) = some b) (d : ND) (cz : Int) (htb : TBox w b d cz false) : Calls Try.prog 48 #[.pointer (some ⟨Bv, 0, none⟩), .agg #[.int .i64 t.k, .string (bs t.l), .string (bs t.x), .slice A n c, .string (bs t.e)]] w (VPost nb Bv Bm L cnt f (0, 11, st) w) := by
  have HTB := Lib.hid htb
  clear htb
  have HBX : Hid (NBox (w.alloc (.cells #[.int .i64 t.k, .string (bs t.l), .string (bs t.x), .slice A n c, .string (bs t.e)] 24)) w.heap.size ⟨t.k, t.l, t.x, A, n, c, t.e⟩) := Lib.hid (heap_alloc_new w _)
  have HS1 := Lib.hid (HST.out.gr ((Gr.refl w).alloc (.cells #[.int .i64 t.k, .string (bs t.l), .string (bs t.x), .slice A n c, .string (bs t.e)] 24)))
  have HVB := Lib.hid HS1.out.vis
  obtain ⟨nm, hnm⟩ : ∃ nm, nm = t.x.drop 1 := ⟨_, rfl⟩
  have HNM := Lib.hid hnm
  have HEX : Hid ((bs t.x).extract 1 t.x.length = bs nm) := Lib.hid (by rw [hnm]; exact bs_drop1 t.x)
  have HSZ : Hid ((bs t.x).size = t.x.length) := Lib.hid rfl
  have hnl : nm.length ≤ maxLen := by rw [hnm, List.length_drop]; exact Nat.le_trans (Nat.sub_le _ _) HXL.out
  have HNL := Lib.hid hnl
  rw [← hnm] at hf
  have HLK : Hid ((Instr.lookup 62 (.map (some Bm)) (.string (bs nm)) false).run Try.prog (w.alloc (.cells #[.int .i64 t.k, .string (bs t.l), .string (bs t.x), .slice A n c, .string (bs t.e)] 24)).drew = .ok (.pointer (some ⟨b, 0, none⟩)) (w.alloc (.cells #[.int .i64 t.k, .string (bs t.l), .string (bs t.x), .slice A n c, .string (bs t.e)] 24)).drew) := Lib.hid (HS1.out.mp.look (w := (w.alloc (.cells #[.int .i64 t.k, .string (bs t.l), .string (bs t.x), .slice A n c, .string (bs t.e)] 24)).drew) Try.underlying62 (zeroT _) hnl |>.trans (by rw [hf]; rfl))
  have r9 : (t.k == 9) = false := by simp [hk]
  have r10 : (t.k == 10) = true := by simp [hk]
  clear hnm hf hk
  go_enter Try.func48, Try.ntmps48
  go_wp2_with fail
  obtain ⟨VS, hVS⟩ : ∃ VS : List (Nat × Nat × Value), VS = [(0, 64, .pointer (some ⟨Bv, 0, none⟩)), (1, 65, .pointer (some ⟨Bv, 0, none⟩)), (2, 66, .pointer (some ⟨Bv, 10, none⟩)), (3, 67, .map (some Bm)), (4, 68, .pointer (some ⟨w.heap.size, 2, none⟩)), (5, 69, .string (bs t.x)), (6, 70, .string (bs nm)), (7, 71, .pointer (some ⟨b, 0, none⟩)), (8, 10, .pointer (some ⟨b, 0, none⟩))] := ⟨_, rfl⟩
  obtain ⟨US, hUS⟩ : ∃ US : List (Nat × Value), US = [(0, .pointer (some ⟨Bv, 0, none⟩)), (3, .pointer (some ⟨w.heap.size, 0, none⟩))] := ⟨_, rfl⟩
  refine wp_region_frame (by kernel_rfl) (by kernel_rfl) [64, 65, 66, 67, 68, 69, 70, 71, 10] (by simp) (Det VS US (fun _ _ w' => w' = (w.alloc (.cells #[.int .i64 t.k, .string (bs t.l), .string (bs t.x), .slice A n c, .string (bs t.e)] 24)).drew)) ?_ ?_ ?_
  · exact Det.start (by rw [hUS]; simp [slot]) (rfl)
  · intro B a' w' i o hfr hF ho hBi hdp
    have hi8 := (Array.getElem?_eq_some_iff.1 ho).1
    simp only [List.size_toArray, List.length_cons, List.length_nil] at hi8
    have hor : i = 0 ∨ i = 1 ∨ i = 2 ∨ i = 3 ∨ i = 4 ∨ i = 5 ∨ i = 6 ∨ i = 7 ∨ i = 8 := by omega
    clear hi8
    rcases hor with rfl | rfl | rfl | rfl | rfl | rfl | rfl | rfl | rfl
    all_goals (
      simp only [List.getElem?_toArray, List.getElem?_cons_zero, List.getElem?_cons_succ, Option.some.injEq] at ho
      subst ho
      rw [if_pos (show Region.wanted _ _ = true from rfl)]
      refine wp_hideK ?_
      intro K hK)
    · have hFW := hF.wd
      subst hFW
      have o0 := slot_spell (hF.had (d := 0) (v := .pointer (some ⟨Bv, 0, none⟩)) (by rw [hUS]; simp))
      go_simp
      exact hK.out _ _ (close_put hfr (d := 64) (by decide) (by simp) _ (F := fun u => Det VS US (fun _ _ w' => w' = (w.alloc (.cells #[.int .i64 t.k, .string (bs t.l), .string (bs t.x), .slice A n c, .string (bs t.e)] 24)).drew) (upB B 0) u _) (hF.step (by rw [hVS]; simp) (by rw [hUS]; simp) (rfl)))
    · have hFW := hF.wd
      subst hFW
      have hB0 : B 0 = true := hdp ⟨0, .data⟩ (by simp) (by rfl)
      have e0 := slot_spell (hF.get (i := 0) (d := 64) (v := .pointer (some ⟨Bv, 0, none⟩)) (by rw [hVS]; simp) hB0)
      go_simp
      exact hK.out _ _ (close_put hfr (d := 65) (by decide) (by simp) _ (F := fun u => Det VS US (fun _ _ w' => w' = (w.alloc (.cells #[.int .i64 t.k, .string (bs t.l), .string (bs t.x), .slice A n c, .string (bs t.e)] 24)).drew) (upB B 1) u _) (hF.step (by rw [hVS]; simp) (by rw [hUS]; simp) (rfl)))
    · have hFW := hF.wd
      subst hFW
      have hB1 : B 1 = true := hdp ⟨1, .data⟩ (by simp) (by rfl)
      have e1 := slot_spell (hF.get (i := 1) (d := 65) (v := .pointer (some ⟨Bv, 0, none⟩)) (by rw [hVS]; simp) hB1)
      go_simp
      exact hK.out _ _ (close_put hfr (d := 66) (by decide) (by simp) _ (F := fun u => Det VS US (fun _ _ w' => w' = (w.alloc (.cells #[.int .i64 t.k, .string (bs t.l), .string (bs t.x), .slice A n c, .string (bs t.e)] 24)).drew) (upB B 2) u _) (hF.step (by rw [hVS]; simp) (by rw [hUS]; simp) (rfl)))
    · have hFW := hF.wd
      subst hFW
      have hB2 : B 2 = true := hdp ⟨2, .data⟩ (by simp) (by rfl)
      have e2 := slot_spell (hF.get (i := 2) (d := 66) (v := .pointer (some ⟨Bv, 10, none⟩)) (by rw [hVS]; simp) hB2)
      have yv := cell_of_cells HVB.out 10
      have yl := lt_of_block HVB.out
      go_simp
      exact hK.out _ _ (close_put hfr (d := 67) (by decide) (by simp) _ (F := fun u => Det VS US (fun _ _ w' => w' = (w.alloc (.cells #[.int .i64 t.k, .string (bs t.l), .string (bs t.x), .slice A n c, .string (bs t.e)] 24)).drew) (upB B 3) u _) (hF.step (by rw [hVS]; simp) (by rw [hUS]; simp) (rfl)))
    · have hFW := hF.wd
      subst hFW
      have o3 := slot_spell (hF.had (d := 3) (v := .pointer (some ⟨w.heap.size, 0, none⟩)) (by rw [hUS]; simp))
      go_simp
      exact hK.out _ _ (close_put hfr (d := 68) (by decide) (by simp) _ (F := fun u => Det VS US (fun _ _ w' => w' = (w.alloc (.cells #[.int .i64 t.k, .string (bs t.l), .string (bs t.x), .slice A n c, .string (bs t.e)] 24)).drew) (upB B 4) u _) (hF.step (by rw [hVS]; simp) (by rw [hUS]; simp) (rfl)))
    · have hFW := hF.wd
      subst hFW
      have hB4 : B 4 = true := hdp ⟨4, .data⟩ (by simp) (by rfl)
      have e4 := slot_spell (hF.get (i := 4) (d := 68) (v := .pointer (some ⟨w.heap.size, 2, none⟩)) (by rw [hVS]; simp) hB4)
      have yx := HBX.out.cells.2.2.1
      have yl := lt_of_block HBX.out
      simp only at yx
      go_simp
      exact hK.out _ _ (close_put hfr (d := 69) (by decide) (by simp) _ (F := fun u => Det VS US (fun _ _ w' => w' = (w.alloc (.cells #[.int .i64 t.k, .string (bs t.l), .string (bs t.x), .slice A n c, .string (bs t.e)] 24)).drew) (upB B 5) u _) (hF.step (by rw [hVS]; simp) (by rw [hUS]; simp) (rfl)))
    · have hFW := hF.wd
      subst hFW
      have hB5 : B 5 = true := hdp ⟨5, .data⟩ (by simp) (by rfl)
      have e5 := slot_spell (hF.get (i := 5) (d := 69) (v := .string (bs t.x)) (by rw [hVS]; simp) hB5)
      have yn := HEX.out
      have ys := HSZ.out
      go_simp
      rw [if_pos (show (1 : Int) ≤ (t.x.length : Int) by omega)]
      go_simp
      exact hK.out _ _ (close_put hfr (d := 70) (by decide) (by simp) _ (F := fun u => Det VS US (fun _ _ w' => w' = (w.alloc (.cells #[.int .i64 t.k, .string (bs t.l), .string (bs t.x), .slice A n c, .string (bs t.e)] 24)).drew) (upB B 6) u _) (hF.step (by rw [hVS]; simp) (by rw [hUS]; simp) (rfl)))
    · have hFW := hF.wd
      subst hFW
      have hB3 : B 3 = true := hdp ⟨3, .data⟩ (by simp) (by rfl)
      have e3 := slot_spell (hF.get (i := 3) (d := 67) (v := .map (some Bm)) (by rw [hVS]; simp) hB3)
      have hB6 : B 6 = true := hdp ⟨6, .data⟩ (by simp) (by rfl)
      have e6 := slot_spell (hF.get (i := 6) (d := 70) (v := .string (bs nm)) (by rw [hVS]; simp) hB6)
      have yk := HLK.out
      go_simp
      exact hK.out _ _ (close_put hfr (d := 71) (by decide) (by simp) _ (F := fun u => Det VS US (fun _ _ w' => w' = (w.alloc (.cells #[.int .i64 t.k, .string (bs t.l), .string (bs t.x), .slice A n c, .string (bs t.e)] 24)).drew) (upB B 7) u _) (hF.step (by rw [hVS]; simp) (by rw [hUS]; simp) (rfl)))
    · have hFW := hF.wd
      subst hFW
      have hB7 : B 7 = true := hdp ⟨7, .data⟩ (by simp) (by rfl)
      have e7 := slot_spell (hF.get (i := 7) (d := 71) (v := .pointer (some ⟨b, 0, none⟩)) (by rw [hVS]; simp) hB7)
      go_simp
      exact hK.out _ _ (close_put hfr (d := 10) (by decide) (by simp) _ (F := fun u => Det VS US (fun _ _ w' => w' = (w.alloc (.cells #[.int .i64 t.k, .string (bs t.l), .string (bs t.x), .slice A n c, .string (bs t.e)] 24)).drew) (upB B 8) u _) (hF.step (by rw [hVS]; simp) (by rw [hUS]; simp) (rfl)))
  · intro B u w' hall hF
    have z0 := hF.get (i := 0) (d := 64) (v := .pointer (some ⟨Bv, 0, none⟩)) (by rw [hVS]; simp) (hall 0 (by simp))
    have z1 := hF.get (i := 1) (d := 65) (v := .pointer (some ⟨Bv, 0, none⟩)) (by rw [hVS]; simp) (hall 1 (by simp))
    have z2 := hF.get (i := 2) (d := 66) (v := .pointer (some ⟨Bv, 10, none⟩)) (by rw [hVS]; simp) (hall 2 (by simp))
    have z3 := hF.get (i := 3) (d := 67) (v := .map (some Bm)) (by rw [hVS]; simp) (hall 3 (by simp))
    have z4 := hF.get (i := 4) (d := 68) (v := .pointer (some ⟨w.heap.size, 2, none⟩)) (by rw [hVS]; simp) (hall 4 (by simp))
    have z5 := hF.get (i := 5) (d := 69) (v := .string (bs t.x)) (by rw [hVS]; simp) (hall 5 (by simp))
    have z6 := hF.get (i := 6) (d := 70) (v := .string (bs nm)) (by rw [hVS]; simp) (hall 6 (by simp))
    have z7 := hF.get (i := 7) (d := 71) (v := .pointer (some ⟨b, 0, none⟩)) (by rw [hVS]; simp) (hall 7 (by simp))
    have z8 := hF.get (i := 8) (d := 10) (v := .pointer (some ⟨b, 0, none⟩)) (by rw [hVS]; simp) (hall 8 (by simp))
    have hFW := hF.wd
    clear hF hVS hUS
    simp only [List.foldl_cons, List.foldl_nil, Act.put, List.setIfInBounds_toArray, List.set_cons_zero, List.set_cons_succ, z0, z1, z2, z3, z4, z5, z6, z7, z8]
    clear z0 z1 z2 z3 z4 z5 z6 z7 z8
    subst hFW
    obtain ⟨y5, y6, _, _⟩ := (HTB.out.gr ((Gr.refl w).alloc (.cells #[.int .i64 t.k, .string (bs t.l), .string (bs t.x), .slice A n c, .string (bs t.e)] 24))).cells
    have yl := lt_of_block (HTB.out.gr ((Gr.refl w).alloc (.cells #[.int .i64 t.k, .string (bs t.l), .string (bs t.x), .slice A n c, .string (bs t.e)] 24)))
    go_wp2_with fail
    go_ret2
    have hgr : Gr w ((w.alloc (.cells #[.int .i64 t.k, .string (bs t.l), .string (bs t.x), .slice A n c, .string (bs t.e)] 24)).drew) := ((Gr.refl w).alloc _).drew
    exact ⟨rfl, KV.gr hnw hgr, f, Ext.refl f, HST.out.gr hgr⟩
set_option maxRecDepth 100000 in
set_option maxHeartbeats 4000000 in
theorem visit_alias2 (nb Bv Bm : Nat) (L : U5) (_m cnt : Nat) (f : List UInt8 → Option Nat) (st : AS) (t : NT) (A : Option Addr) (n c : Nat) (w : World) (HST : Hid (VSt nb Bv Bm L cnt f st w)) (HXL : Hid (t.x.length ≤ maxLen)) (hnw : nb ≤ w.heap.size) (hk : t.k = 10) (h2 : 2 ≤ t.x.length) (b : Nat) (hf : f (t.x.drop 1) = some b) (d : ND) (cz : Int) (htb : TBox w b d cz true) (r : Res) (hr : aliasU L st.u cz = r) : Calls Try.prog 48 #[.pointer (some ⟨Bv, 0, none⟩), .agg #[.int .i64 t.k, .string (bs t.l), .string (bs t.x), .slice A n c, .string (bs t.e)]] w (VPost nb Bv Bm L cnt f (if r.c = 0 then (cz, 0, { st with u := ⟨r.d, r.n, r.b, r.a, r.x⟩ }) else (0, r.c, st)) w) := by
  have HTB0 := Lib.hid htb
  have HAL : Hid (∀ W, Calls Try.prog 55 #[.agg #[.int .i64 L.d, .int .i64 L.n, .int .i64 L.b, .int .i64 L.a, .int .i64 L.x], .agg #[.int .i64 st.u.d, .int .i64 st.u.n, .int .i64 st.u.b, .int .i64 st.u.a, .int .i64 st.u.x], .int .i64 cz] W (RU r W)) := Lib.hid (fun W => by rw [← hr]; exact aliasP_any L.d L.n L.b L.a L.x st.u.d st.u.n st.u.b st.u.a st.u.x cz W)
  clear htb hr
  generalize hq : (if r.c = 0 then (cz, (0 : Int), ({ st with u := ⟨r.d, r.n, r.b, r.a, r.x⟩ } : AS)) else (0, r.c, st)) = q
  have HQ := Lib.hid hq
  clear hq
  have HBX : Hid (NBox (w.alloc (.cells #[.int .i64 t.k, .string (bs t.l), .string (bs t.x), .slice A n c, .string (bs t.e)] 24)) w.heap.size ⟨t.k, t.l, t.x, A, n, c, t.e⟩) := Lib.hid (heap_alloc_new w _)
  have HS1 := Lib.hid (HST.out.gr ((Gr.refl w).alloc (.cells #[.int .i64 t.k, .string (bs t.l), .string (bs t.x), .slice A n c, .string (bs t.e)] 24)))
  have HVB := Lib.hid HS1.out.vis
  obtain ⟨nm, hnm⟩ : ∃ nm, nm = t.x.drop 1 := ⟨_, rfl⟩
  have HNM := Lib.hid hnm
  have HEX : Hid ((bs t.x).extract 1 t.x.length = bs nm) := Lib.hid (by rw [hnm]; exact bs_drop1 t.x)
  have HSZ : Hid ((bs t.x).size = t.x.length) := Lib.hid rfl
  have hnl : nm.length ≤ maxLen := by rw [hnm, List.length_drop]; exact Nat.le_trans (Nat.sub_le _ _) HXL.out
  have HNL := Lib.hid hnl
  rw [← hnm] at hf
  have HLK : Hid ((Instr.lookup 62 (.map (some Bm)) (.string (bs nm)) false).run Try.prog (w.alloc (.cells #[.int .i64 t.k, .string (bs t.l), .string (bs t.x), .slice A n c, .string (bs t.e)] 24)).drew = .ok (.pointer (some ⟨b, 0, none⟩)) (w.alloc (.cells #[.int .i64 t.k, .string (bs t.l), .string (bs t.x), .slice A n c, .string (bs t.e)] 24)).drew) := Lib.hid (HS1.out.mp.look (w := (w.alloc (.cells #[.int .i64 t.k, .string (bs t.l), .string (bs t.x), .slice A n c, .string (bs t.e)] 24)).drew) Try.underlying62 (zeroT _) hnl |>.trans (by rw [hf]; rfl))
  have r9 : (t.k == 9) = false := by simp [hk]
  have r10 : (t.k == 10) = true := by simp [hk]
  clear hnm hf hk
  go_enter Try.func48, Try.ntmps48
  go_wp2_with fail
  obtain ⟨VS, hVS⟩ : ∃ VS : List (Nat × Nat × Value), VS = [(0, 64, .pointer (some ⟨Bv, 0, none⟩)), (1, 65, .pointer (some ⟨Bv, 0, none⟩)), (2, 66, .pointer (some ⟨Bv, 10, none⟩)), (3, 67, .map (some Bm)), (4, 68, .pointer (some ⟨w.heap.size, 2, none⟩)), (5, 69, .string (bs t.x)), (6, 70, .string (bs nm)), (7, 71, .pointer (some ⟨b, 0, none⟩)), (8, 10, .pointer (some ⟨b, 0, none⟩))] := ⟨_, rfl⟩
  obtain ⟨US, hUS⟩ : ∃ US : List (Nat × Value), US = [(0, .pointer (some ⟨Bv, 0, none⟩)), (3, .pointer (some ⟨w.heap.size, 0, none⟩))] := ⟨_, rfl⟩
  refine wp_region_frame (by kernel_rfl) (by kernel_rfl) [64, 65, 66, 67, 68, 69, 70, 71, 10] (by simp) (Det VS US (fun _ _ w' => w' = (w.alloc (.cells #[.int .i64 t.k, .string (bs t.l), .string (bs t.x), .slice A n c, .string (bs t.e)] 24)).drew)) ?_ ?_ ?_
  · exact Det.start (by rw [hUS]; simp [slot]) (rfl)
  · intro B a' w' i o hfr hF ho hBi hdp
    have hi8 := (Array.getElem?_eq_some_iff.1 ho).1
    simp only [List.size_toArray, List.length_cons, List.length_nil] at hi8
    have hor : i = 0 ∨ i = 1 ∨ i = 2 ∨ i = 3 ∨ i = 4 ∨ i = 5 ∨ i = 6 ∨ i = 7 ∨ i = 8 := by omega
    clear hi8
    rcases hor with rfl | rfl | rfl | rfl | rfl | rfl | rfl | rfl | rfl
    all_goals (
      simp only [List.getElem?_toArray, List.getElem?_cons_zero, List.getElem?_cons_succ, Option.some.injEq] at ho
      subst ho
      rw [if_pos (show Region.wanted _ _ = true from rfl)]
      refine wp_hideK ?_
      intro K hK)
    · have hFW := hF.wd
      subst hFW
      have o0 := slot_spell (hF.had (d := 0) (v := .pointer (some ⟨Bv, 0, none⟩)) (by rw [hUS]; simp))
      go_simp
      exact hK.out _ _ (close_put hfr (d := 64) (by decide) (by simp) _ (F := fun u => Det VS US (fun _ _ w' => w' = (w.alloc (.cells #[.int .i64 t.k, .string (bs t.l), .string (bs t.x), .slice A n c, .string (bs t.e)] 24)).drew) (upB B 0) u _) (hF.step (by rw [hVS]; simp) (by rw [hUS]; simp) (rfl)))
    · have hFW := hF.wd
      subst hFW
      have hB0 : B 0 = true := hdp ⟨0, .data⟩ (by simp) (by rfl)
      have e0 := slot_spell (hF.get (i := 0) (d := 64) (v := .pointer (some ⟨Bv, 0, none⟩)) (by rw [hVS]; simp) hB0)
      go_simp
      exact hK.out _ _ (close_put hfr (d := 65) (by decide) (by simp) _ (F := fun u => Det VS US (fun _ _ w' => w' = (w.alloc (.cells #[.int .i64 t.k, .string (bs t.l), .string (bs t.x), .slice A n c, .string (bs t.e)] 24)).drew) (upB B 1) u _) (hF.step (by rw [hVS]; simp) (by rw [hUS]; simp) (rfl)))
    · have hFW := hF.wd
      subst hFW
      have hB1 : B 1 = true := hdp ⟨1, .data⟩ (by simp) (by rfl)
      have e1 := slot_spell (hF.get (i := 1) (d := 65) (v := .pointer (some ⟨Bv, 0, none⟩)) (by rw [hVS]; simp) hB1)
      go_simp
      exact hK.out _ _ (close_put hfr (d := 66) (by decide) (by simp) _ (F := fun u => Det VS US (fun _ _ w' => w' = (w.alloc (.cells #[.int .i64 t.k, .string (bs t.l), .string (bs t.x), .slice A n c, .string (bs t.e)] 24)).drew) (upB B 2) u _) (hF.step (by rw [hVS]; simp) (by rw [hUS]; simp) (rfl)))
    · have hFW := hF.wd
      subst hFW
      have hB2 : B 2 = true := hdp ⟨2, .data⟩ (by simp) (by rfl)
      have e2 := slot_spell (hF.get (i := 2) (d := 66) (v := .pointer (some ⟨Bv, 10, none⟩)) (by rw [hVS]; simp) hB2)
      have yv := cell_of_cells HVB.out 10
      have yl := lt_of_block HVB.out
      go_simp
      exact hK.out _ _ (close_put hfr (d := 67) (by decide) (by simp) _ (F := fun u => Det VS US (fun _ _ w' => w' = (w.alloc (.cells #[.int .i64 t.k, .string (bs t.l), .string (bs t.x), .slice A n c, .string (bs t.e)] 24)).drew) (upB B 3) u _) (hF.step (by rw [hVS]; simp) (by rw [hUS]; simp) (rfl)))
    · have hFW := hF.wd
      subst hFW
      have o3 := slot_spell (hF.had (d := 3) (v := .pointer (some ⟨w.heap.size, 0, none⟩)) (by rw [hUS]; simp))
      go_simp
      exact hK.out _ _ (close_put hfr (d := 68) (by decide) (by simp) _ (F := fun u => Det VS US (fun _ _ w' => w' = (w.alloc (.cells #[.int .i64 t.k, .string (bs t.l), .string (bs t.x), .slice A n c, .string (bs t.e)] 24)).drew) (upB B 4) u _) (hF.step (by rw [hVS]; simp) (by rw [hUS]; simp) (rfl)))
    · have hFW := hF.wd
      subst hFW
      have hB4 : B 4 = true := hdp ⟨4, .data⟩ (by simp) (by rfl)
      have e4 := slot_spell (hF.get (i := 4) (d := 68) (v := .pointer (some ⟨w.heap.size, 2, none⟩)) (by rw [hVS]; simp) hB4)
      have yx := HBX.out.cells.2.2.1
      have yl := lt_of_block HBX.out
      simp only at yx
      go_simp
      exact hK.out _ _ (close_put hfr (d := 69) (by decide) (by simp) _ (F := fun u => Det VS US (fun _ _ w' => w' = (w.alloc (.cells #[.int .i64 t.k, .string (bs t.l), .string (bs t.x), .slice A n c, .string (bs t.e)] 24)).drew) (upB B 5) u _) (hF.step (by rw [hVS]; simp) (by rw [hUS]; simp) (rfl)))
    · have hFW := hF.wd
      subst hFW
      have hB5 : B 5 = true := hdp ⟨5, .data⟩ (by simp) (by rfl)
      have e5 := slot_spell (hF.get (i := 5) (d := 69) (v := .string (bs t.x)) (by rw [hVS]; simp) hB5)
      have yn := HEX.out
      have ys := HSZ.out
      go_simp
      rw [if_pos (show (1 : Int) ≤ (t.x.length : Int) by omega)]
      go_simp
      exact hK.out _ _ (close_put hfr (d := 70) (by decide) (by simp) _ (F := fun u => Det VS US (fun _ _ w' => w' = (w.alloc (.cells #[.int .i64 t.k, .string (bs t.l), .string (bs t.x), .slice A n c, .string (bs t.e)] 24)).drew) (upB B 6) u _) (hF.step (by rw [hVS]; simp) (by rw [hUS]; simp) (rfl)))
    · have hFW := hF.wd
      subst hFW
      have hB3 : B 3 = true := hdp ⟨3, .data⟩ (by simp) (by rfl)
      have e3 := slot_spell (hF.get (i := 3) (d := 67) (v := .map (some Bm)) (by rw [hVS]; simp) hB3)
      have hB6 : B 6 = true := hdp ⟨6, .data⟩ (by simp) (by rfl)
      have e6 := slot_spell (hF.get (i := 6) (d := 70) (v := .string (bs nm)) (by rw [hVS]; simp) hB6)
      have yk := HLK.out
      go_simp
      exact hK.out _ _ (close_put hfr (d := 71) (by decide) (by simp) _ (F := fun u => Det VS US (fun _ _ w' => w' = (w.alloc (.cells #[.int .i64 t.k, .string (bs t.l), .string (bs t.x), .slice A n c, .string (bs t.e)] 24)).drew) (upB B 7) u _) (hF.step (by rw [hVS]; simp) (by rw [hUS]; simp) (rfl)))
    · have hFW := hF.wd
      subst hFW
      have hB7 : B 7 = true := hdp ⟨7, .data⟩ (by simp) (by rfl)
      have e7 := slot_spell (hF.get (i := 7) (d := 71) (v := .pointer (some ⟨b, 0, none⟩)) (by rw [hVS]; simp) hB7)
      go_simp
      exact hK.out _ _ (close_put hfr (d := 10) (by decide) (by simp) _ (F := fun u => Det VS US (fun _ _ w' => w' = (w.alloc (.cells #[.int .i64 t.k, .string (bs t.l), .string (bs t.x), .slice A n c, .string (bs t.e)] 24)).drew) (upB B 8) u _) (hF.step (by rw [hVS]; simp) (by rw [hUS]; simp) (rfl)))
  · intro B u w' hall hF
    have z0 := hF.get (i := 0) (d := 64) (v := .pointer (some ⟨Bv, 0, none⟩)) (by rw [hVS]; simp) (hall 0 (by simp))
    have z1 := hF.get (i := 1) (d := 65) (v := .pointer (some ⟨Bv, 0, none⟩)) (by rw [hVS]; simp) (hall 1 (by simp))
    have z2 := hF.get (i := 2) (d := 66) (v := .pointer (some ⟨Bv, 10, none⟩)) (by rw [hVS]; simp) (hall 2 (by simp))
    have z3 := hF.get (i := 3) (d := 67) (v := .map (some Bm)) (by rw [hVS]; simp) (hall 3 (by simp))
    have z4 := hF.get (i := 4) (d := 68) (v := .pointer (some ⟨w.heap.size, 2, none⟩)) (by rw [hVS]; simp) (hall 4 (by simp))
    have z5 := hF.get (i := 5) (d := 69) (v := .string (bs t.x)) (by rw [hVS]; simp) (hall 5 (by simp))
    have z6 := hF.get (i := 6) (d := 70) (v := .string (bs nm)) (by rw [hVS]; simp) (hall 6 (by simp))
    have z7 := hF.get (i := 7) (d := 71) (v := .pointer (some ⟨b, 0, none⟩)) (by rw [hVS]; simp) (hall 7 (by simp))
    have z8 := hF.get (i := 8) (d := 10) (v := .pointer (some ⟨b, 0, none⟩)) (by rw [hVS]; simp) (hall 8 (by simp))
    have hFW := hF.wd
    clear hF hVS hUS
    simp only [List.foldl_cons, List.foldl_nil, Act.put, List.setIfInBounds_toArray, List.set_cons_zero, List.set_cons_succ, z0, z1, z2, z3, z4, z5, z6, z7, z8]
    clear z0 z1 z2 z3 z4 z5 z6 z7 z8
    subst hFW
    have HTB : Hid (TBox (w.alloc (.cells #[.int .i64 t.k, .string (bs t.l), .string (bs t.x), .slice A n c, .string (bs t.e)] 24)).drew b d cz true) := Lib.hid (HTB0.out.gr ((Gr.refl w).alloc (.cells #[.int .i64 t.k, .string (bs t.l), .string (bs t.x), .slice A n c, .string (bs t.e)] 24)).drew)
    obtain ⟨y5, y6, _, _⟩ := HTB.out.cells
    have yl := lt_of_block HTB.out
    go_wp2_with fail
    clear y5 y6 yl
    obtain ⟨VS, hVS⟩ : ∃ VS : List (Nat × Nat × Value), VS = [(0, 82, .pointer (some ⟨Bv, 0, none⟩)), (1, 83, .pointer (some ⟨Bv, 0, none⟩)), (2, 84, .pointer (some ⟨Bv, 0, none⟩)), (3, 85, .agg #[.int .i64 L.d, .int .i64 L.n, .int .i64 L.b, .int .i64 L.a, .int .i64 L.x]), (4, 86, .pointer (some ⟨Bv, 0, none⟩)), (5, 87, .pointer (some ⟨Bv, 0, none⟩)), (6, 88, .pointer (some ⟨Bv, 5, none⟩)), (7, 89, .agg #[.int .i64 st.u.d, .int .i64 st.u.n, .int .i64 st.u.b, .int .i64 st.u.a, .int .i64 st.u.x]), (8, 90, .pointer (some ⟨b, 0, none⟩)), (9, 91, .pointer (some ⟨b, 0, none⟩)), (10, 92, .pointer (some ⟨b, 5, none⟩)), (11, 93, .int .i64 cz), (12, 94, .tuple #[.agg #[.int .i64 r.d, .int .i64 r.n, .int .i64 r.b, .int .i64 r.a, .int .i64 r.x], .int .i64 r.c]), (13, 81, .tuple #[.agg #[.int .i64 r.d, .int .i64 r.n, .int .i64 r.b, .int .i64 r.a, .int .i64 r.x], .int .i64 r.c]), (14, 95, .agg #[.int .i64 r.d, .int .i64 r.n, .int .i64 r.b, .int .i64 r.a, .int .i64 r.x]), (15, 96, .int .i64 r.c), (18, 12, .int .i64 r.c)] := ⟨_, rfl⟩
    obtain ⟨US, hUS⟩ : ∃ US : List (Nat × Value), US = [(0, .pointer (some ⟨Bv, 0, none⟩)), (10, .pointer (some ⟨b, 0, none⟩))] := ⟨_, rfl⟩
    refine wp_region_frame (by kernel_rfl) (by kernel_rfl) [82, 83, 84, 85, 86, 87, 88, 89, 90, 91, 92, 93, 94, 81, 95, 96, 11, 12] (by simp) (Det VS US (fun B u w' => Gr (w.alloc (.cells #[.int .i64 t.k, .string (bs t.l), .string (bs t.x), .slice A n c, .string (bs t.e)] 24)).drew w' ∧ (B 17 = true → B 16 = true) ∧ (B 16 = true → ∃ p cs, ((w.alloc (.cells #[.int .i64 t.k, .string (bs t.l), .string (bs t.x), .slice A n c, .string (bs t.e)] 24)).drew).heap.size ≤ p ∧ u 11 = .pointer (some ⟨p, 0, none⟩) ∧ w'.heap[p]? = some (.cells cs 36 (0, 0)) ∧ cs = if B 17 = true then #[.int .i64 r.d, .int .i64 r.n, .int .i64 r.b, .int .i64 r.a, .int .i64 r.x] else #[.int .i64 0, .int .i64 0, .int .i64 0, .int .i64 0, .int .i64 0]))) ?_ ?_ ?_
    · exact Det.start (by rw [hUS]; simp [slot]) (⟨(Gr.refl _).drew, (fun h => by cases h), (fun h => by cases h)⟩)
    · intro B a' w' i o hfr hF ho hBi hdp
      have hi8 := (Array.getElem?_eq_some_iff.1 ho).1
      simp only [List.size_toArray, List.length_cons, List.length_nil] at hi8
      have hor : i = 0 ∨ i = 1 ∨ i = 2 ∨ i = 3 ∨ i = 4 ∨ i = 5 ∨ i = 6 ∨ i = 7 ∨ i = 8 ∨ i = 9 ∨ i = 10 ∨ i = 11 ∨ i = 12 ∨ i = 13 ∨ i = 14 ∨ i = 15 ∨ i = 16 ∨ i = 17 ∨ i = 18 := by omega
      clear hi8
      rcases hor with rfl | rfl | rfl | rfl | rfl | rfl | rfl | rfl | rfl | rfl | rfl | rfl | rfl | rfl | rfl | rfl | rfl | rfl | rfl
      all_goals (
        simp only [List.getElem?_toArray, List.getElem?_cons_zero, List.getElem?_cons_succ, Option.some.injEq] at ho
        subst ho
        rw [if_pos (show Region.wanted _ _ = true from rfl)]
        refine wp_hideK ?_
        intro K hK)
      · have hFW := hF.wd
        have o0 := slot_spell (hF.had (d := 0) (v := .pointer (some ⟨Bv, 0, none⟩)) (by rw [hUS]; simp))
        go_simp
        exact hK.out _ _ (close_put hfr (d := 82) (by decide) (by simp) _ (F := fun u => Det VS US (fun B u w' => Gr (w.alloc (.cells #[.int .i64 t.k, .string (bs t.l), .string (bs t.x), .slice A n c, .string (bs t.e)] 24)).drew w' ∧ (B 17 = true → B 16 = true) ∧ (B 16 = true → ∃ p cs, ((w.alloc (.cells #[.int .i64 t.k, .string (bs t.l), .string (bs t.x), .slice A n c, .string (bs t.e)] 24)).drew).heap.size ≤ p ∧ u 11 = .pointer (some ⟨p, 0, none⟩) ∧ w'.heap[p]? = some (.cells cs 36 (0, 0)) ∧ cs = if B 17 = true then #[.int .i64 r.d, .int .i64 r.n, .int .i64 r.b, .int .i64 r.a, .int .i64 r.x] else #[.int .i64 0, .int .i64 0, .int .i64 0, .int .i64 0, .int .i64 0])) (upB B 0) u _) (hF.step (by rw [hVS]; simp) (by rw [hUS]; simp) (by simpa [upB, upV] using hFW)))
      · have hFW := hF.wd
        have hB0 : B 0 = true := hdp ⟨0, .data⟩ (by simp) (by rfl)
        have e0 := slot_spell (hF.get (i := 0) (d := 82) (v := .pointer (some ⟨Bv, 0, none⟩)) (by rw [hVS]; simp) hB0)
        go_simp
        exact hK.out _ _ (close_put hfr (d := 83) (by decide) (by simp) _ (F := fun u => Det VS US (fun B u w' => Gr (w.alloc (.cells #[.int .i64 t.k, .string (bs t.l), .string (bs t.x), .slice A n c, .string (bs t.e)] 24)).drew w' ∧ (B 17 = true → B 16 = true) ∧ (B 16 = true → ∃ p cs, ((w.alloc (.cells #[.int .i64 t.k, .string (bs t.l), .string (bs t.x), .slice A n c, .string (bs t.e)] 24)).drew).heap.size ≤ p ∧ u 11 = .pointer (some ⟨p, 0, none⟩) ∧ w'.heap[p]? = some (.cells cs 36 (0, 0)) ∧ cs = if B 17 = true then #[.int .i64 r.d, .int .i64 r.n, .int .i64 r.b, .int .i64 r.a, .int .i64 r.x] else #[.int .i64 0, .int .i64 0, .int .i64 0, .int .i64 0, .int .i64 0])) (upB B 1) u _) (hF.step (by rw [hVS]; simp) (by rw [hUS]; simp) (by simpa [upB, upV] using hFW)))
      · have hFW := hF.wd
        have hB1 : B 1 = true := hdp ⟨1, .data⟩ (by simp) (by rfl)
        have e1 := slot_spell (hF.get (i := 1) (d := 83) (v := .pointer (some ⟨Bv, 0, none⟩)) (by rw [hVS]; simp) hB1)
        go_simp
        exact hK.out _ _ (close_put hfr (d := 84) (by decide) (by simp) _ (F := fun u => Det VS US (fun B u w' => Gr (w.alloc (.cells #[.int .i64 t.k, .string (bs t.l), .string (bs t.x), .slice A n c, .string (bs t.e)] 24)).drew w' ∧ (B 17 = true → B 16 = true) ∧ (B 16 = true → ∃ p cs, ((w.alloc (.cells #[.int .i64 t.k, .string (bs t.l), .string (bs t.x), .slice A n c, .string (bs t.e)] 24)).drew).heap.size ≤ p ∧ u 11 = .pointer (some ⟨p, 0, none⟩) ∧ w'.heap[p]? = some (.cells cs 36 (0, 0)) ∧ cs = if B 17 = true then #[.int .i64 r.d, .int .i64 r.n, .int .i64 r.b, .int .i64 r.a, .int .i64 r.x] else #[.int .i64 0, .int .i64 0, .int .i64 0, .int .i64 0, .int .i64 0])) (upB B 2) u _) (hF.step (by rw [hVS]; simp) (by rw [hUS]; simp) (by simpa [upB, upV] using hFW)))
      · have hFW := hF.wd
        have hB2 : B 2 = true := hdp ⟨2, .data⟩ (by simp) (by rfl)
        have e2 := slot_spell (hF.get (i := 2) (d := 84) (v := .pointer (some ⟨Bv, 0, none⟩)) (by rw [hVS]; simp) hB2)
        have hvb := (HVB.out.gr ((Gr.refl _).drew)).gr hFW.1
        have v0 := cell_of_cells hvb 0
        have v1 := cell_of_cells hvb 1
        have v2 := cell_of_cells hvb 2
        have v3 := cell_of_cells hvb 3
        have v4 := cell_of_cells hvb 4
        have v5 := cell_of_cells hvb 5
        have v6 := cell_of_cells hvb 6
        have v7 := cell_of_cells hvb 7
        have v8 := cell_of_cells hvb 8
        have v9 := cell_of_cells hvb 9
        have vl := lt_of_block hvb
        go_simp
        exact hK.out _ _ (close_put hfr (d := 85) (by decide) (by simp) _ (F := fun u => Det VS US (fun B u w' => Gr (w.alloc (.cells #[.int .i64 t.k, .string (bs t.l), .string (bs t.x), .slice A n c, .string (bs t.e)] 24)).drew w' ∧ (B 17 = true → B 16 = true) ∧ (B 16 = true → ∃ p cs, ((w.alloc (.cells #[.int .i64 t.k, .string (bs t.l), .string (bs t.x), .slice A n c, .string (bs t.e)] 24)).drew).heap.size ≤ p ∧ u 11 = .pointer (some ⟨p, 0, none⟩) ∧ w'.heap[p]? = some (.cells cs 36 (0, 0)) ∧ cs = if B 17 = true then #[.int .i64 r.d, .int .i64 r.n, .int .i64 r.b, .int .i64 r.a, .int .i64 r.x] else #[.int .i64 0, .int .i64 0, .int .i64 0, .int .i64 0, .int .i64 0])) (upB B 3) u _) (hF.step (by rw [hVS]; simp) (by rw [hUS]; simp) (by simpa [upB, upV] using hFW)))
      · have hFW := hF.wd
        have o0 := slot_spell (hF.had (d := 0) (v := .pointer (some ⟨Bv, 0, none⟩)) (by rw [hUS]; simp))
        go_simp
        exact hK.out _ _ (close_put hfr (d := 86) (by decide) (by simp) _ (F := fun u => Det VS US (fun B u w' => Gr (w.alloc (.cells #[.int .i64 t.k, .string (bs t.l), .string (bs t.x), .slice A n c, .string (bs t.e)] 24)).drew w' ∧ (B 17 = true → B 16 = true) ∧ (B 16 = true → ∃ p cs, ((w.alloc (.cells #[.int .i64 t.k, .string (bs t.l), .string (bs t.x), .slice A n c, .string (bs t.e)] 24)).drew).heap.size ≤ p ∧ u 11 = .pointer (some ⟨p, 0, none⟩) ∧ w'.heap[p]? = some (.cells cs 36 (0, 0)) ∧ cs = if B 17 = true then #[.int .i64 r.d, .int .i64 r.n, .int .i64 r.b, .int .i64 r.a, .int .i64 r.x] else #[.int .i64 0, .int .i64 0, .int .i64 0, .int .i64 0, .int .i64 0])) (upB B 4) u _) (hF.step (by rw [hVS]; simp) (by rw [hUS]; simp) (by simpa [upB, upV] using hFW)))
      · have hFW := hF.wd
        have hB4 : B 4 = true := hdp ⟨4, .data⟩ (by simp) (by rfl)
        have e4 := slot_spell (hF.get (i := 4) (d := 86) (v := .pointer (some ⟨Bv, 0, none⟩)) (by rw [hVS]; simp) hB4)
        go_simp
        exact hK.out _ _ (close_put hfr (d := 87) (by decide) (by simp) _ (F := fun u => Det VS US (fun B u w' => Gr (w.alloc (.cells #[.int .i64 t.k, .string (bs t.l), .string (bs t.x), .slice A n c, .string (bs t.e)] 24)).drew w' ∧ (B 17 = true → B 16 = true) ∧ (B 16 = true → ∃ p cs, ((w.alloc (.cells #[.int .i64 t.k, .string (bs t.l), .string (bs t.x), .slice A n c, .string (bs t.e)] 24)).drew).heap.size ≤ p ∧ u 11 = .pointer (some ⟨p, 0, none⟩) ∧ w'.heap[p]? = some (.cells cs 36 (0, 0)) ∧ cs = if B 17 = true then #[.int .i64 r.d, .int .i64 r.n, .int .i64 r.b, .int .i64 r.a, .int .i64 r.x] else #[.int .i64 0, .int .i64 0, .int .i64 0, .int .i64 0, .int .i64 0])) (upB B 5) u _) (hF.step (by rw [hVS]; simp) (by rw [hUS]; simp) (by simpa [upB, upV] using hFW)))
      · have hFW := hF.wd
        have hB5 : B 5 = true := hdp ⟨5, .data⟩ (by simp) (by rfl)
        have e5 := slot_spell (hF.get (i := 5) (d := 87) (v := .pointer (some ⟨Bv, 0, none⟩)) (by rw [hVS]; simp) hB5)
        go_simp
        exact hK.out _ _ (close_put hfr (d := 88) (by decide) (by simp) _ (F := fun u => Det VS US (fun B u w' => Gr (w.alloc (.cells #[.int .i64 t.k, .string (bs t.l), .string (bs t.x), .slice A n c, .string (bs t.e)] 24)).drew w' ∧ (B 17 = true → B 16 = true) ∧ (B 16 = true → ∃ p cs, ((w.alloc (.cells #[.int .i64 t.k, .string (bs t.l), .string (bs t.x), .slice A n c, .string (bs t.e)] 24)).drew).heap.size ≤ p ∧ u 11 = .pointer (some ⟨p, 0, none⟩) ∧ w'.heap[p]? = some (.cells cs 36 (0, 0)) ∧ cs = if B 17 = true then #[.int .i64 r.d, .int .i64 r.n, .int .i64 r.b, .int .i64 r.a, .int .i64 r.x] else #[.int .i64 0, .int .i64 0, .int .i64 0, .int .i64 0, .int .i64 0])) (upB B 6) u _) (hF.step (by rw [hVS]; simp) (by rw [hUS]; simp) (by simpa [upB, upV] using hFW)))
      · have hFW := hF.wd
        have hB6 : B 6 = true := hdp ⟨6, .data⟩ (by simp) (by rfl)
        have e6 := slot_spell (hF.get (i := 6) (d := 88) (v := .pointer (some ⟨Bv, 5, none⟩)) (by rw [hVS]; simp) hB6)
        have hvb := (HVB.out.gr ((Gr.refl _).drew)).gr hFW.1
        have v0 := cell_of_cells hvb 0
        have v1 := cell_of_cells hvb 1
        have v2 := cell_of_cells hvb 2
        have v3 := cell_of_cells hvb 3
        have v4 := cell_of_cells hvb 4
        have v5 := cell_of_cells hvb 5
        have v6 := cell_of_cells hvb 6
        have v7 := cell_of_cells hvb 7
        have v8 := cell_of_cells hvb 8
        have v9 := cell_of_cells hvb 9
        have vl := lt_of_block hvb
        go_simp
        exact hK.out _ _ (close_put hfr (d := 89) (by decide) (by simp) _ (F := fun u => Det VS US (fun B u w' => Gr (w.alloc (.cells #[.int .i64 t.k, .string (bs t.l), .string (bs t.x), .slice A n c, .string (bs t.e)] 24)).drew w' ∧ (B 17 = true → B 16 = true) ∧ (B 16 = true → ∃ p cs, ((w.alloc (.cells #[.int .i64 t.k, .string (bs t.l), .string (bs t.x), .slice A n c, .string (bs t.e)] 24)).drew).heap.size ≤ p ∧ u 11 = .pointer (some ⟨p, 0, none⟩) ∧ w'.heap[p]? = some (.cells cs 36 (0, 0)) ∧ cs = if B 17 = true then #[.int .i64 r.d, .int .i64 r.n, .int .i64 r.b, .int .i64 r.a, .int .i64 r.x] else #[.int .i64 0, .int .i64 0, .int .i64 0, .int .i64 0, .int .i64 0])) (upB B 7) u _) (hF.step (by rw [hVS]; simp) (by rw [hUS]; simp) (by simpa [upB, upV] using hFW)))
      · have hFW := hF.wd
        have o10 := slot_spell (hF.had (d := 10) (v := .pointer (some ⟨b, 0, none⟩)) (by rw [hUS]; simp))
        go_simp
        exact hK.out _ _ (close_put hfr (d := 90) (by decide) (by simp) _ (F := fun u => Det VS US (fun B u w' => Gr (w.alloc (.cells #[.int .i64 t.k, .string (bs t.l), .string (bs t.x), .slice A n c, .string (bs t.e)] 24)).drew w' ∧ (B 17 = true → B 16 = true) ∧ (B 16 = true → ∃ p cs, ((w.alloc (.cells #[.int .i64 t.k, .string (bs t.l), .string (bs t.x), .slice A n c, .string (bs t.e)] 24)).drew).heap.size ≤ p ∧ u 11 = .pointer (some ⟨p, 0, none⟩) ∧ w'.heap[p]? = some (.cells cs 36 (0, 0)) ∧ cs = if B 17 = true then #[.int .i64 r.d, .int .i64 r.n, .int .i64 r.b, .int .i64 r.a, .int .i64 r.x] else #[.int .i64 0, .int .i64 0, .int .i64 0, .int .i64 0, .int .i64 0])) (upB B 8) u _) (hF.step (by rw [hVS]; simp) (by rw [hUS]; simp) (by simpa [upB, upV] using hFW)))
      · have hFW := hF.wd
        have hB8 : B 8 = true := hdp ⟨8, .data⟩ (by simp) (by rfl)
        have e8 := slot_spell (hF.get (i := 8) (d := 90) (v := .pointer (some ⟨b, 0, none⟩)) (by rw [hVS]; simp) hB8)
        go_simp
        exact hK.out _ _ (close_put hfr (d := 91) (by decide) (by simp) _ (F := fun u => Det VS US (fun B u w' => Gr (w.alloc (.cells #[.int .i64 t.k, .string (bs t.l), .string (bs t.x), .slice A n c, .string (bs t.e)] 24)).drew w' ∧ (B 17 = true → B 16 = true) ∧ (B 16 = true → ∃ p cs, ((w.alloc (.cells #[.int .i64 t.k, .string (bs t.l), .string (bs t.x), .slice A n c, .string (bs t.e)] 24)).drew).heap.size ≤ p ∧ u 11 = .pointer (some ⟨p, 0, none⟩) ∧ w'.heap[p]? = some (.cells cs 36 (0, 0)) ∧ cs = if B 17 = true then #[.int .i64 r.d, .int .i64 r.n, .int .i64 r.b, .int .i64 r.a, .int .i64 r.x] else #[.int .i64 0, .int .i64 0, .int .i64 0, .int .i64 0, .int .i64 0])) (upB B 9) u _) (hF.step (by rw [hVS]; simp) (by rw [hUS]; simp) (by simpa [upB, upV] using hFW)))
      · have hFW := hF.wd
        have hB9 : B 9 = true := hdp ⟨9, .data⟩ (by simp) (by rfl)
        have e9 := slot_spell (hF.get (i := 9) (d := 91) (v := .pointer (some ⟨b, 0, none⟩)) (by rw [hVS]; simp) hB9)
        go_simp
        exact hK.out _ _ (close_put hfr (d := 92) (by decide) (by simp) _ (F := fun u => Det VS US (fun B u w' => Gr (w.alloc (.cells #[.int .i64 t.k, .string (bs t.l), .string (bs t.x), .slice A n c, .string (bs t.e)] 24)).drew w' ∧ (B 17 = true → B 16 = true) ∧ (B 16 = true → ∃ p cs, ((w.alloc (.cells #[.int .i64 t.k, .string (bs t.l), .string (bs t.x), .slice A n c, .string (bs t.e)] 24)).drew).heap.size ≤ p ∧ u 11 = .pointer (some ⟨p, 0, none⟩) ∧ w'.heap[p]? = some (.cells cs 36 (0, 0)) ∧ cs = if B 17 = true then #[.int .i64 r.d, .int .i64 r.n, .int .i64 r.b, .int .i64 r.a, .int .i64 r.x] else #[.int .i64 0, .int .i64 0, .int .i64 0, .int .i64 0, .int .i64 0])) (upB B 10) u _) (hF.step (by rw [hVS]; simp) (by rw [hUS]; simp) (by simpa [upB, upV] using hFW)))
      · have hFW := hF.wd
        have hB10 : B 10 = true := hdp ⟨10, .data⟩ (by simp) (by rfl)
        have e10 := slot_spell (hF.get (i := 10) (d := 92) (v := .pointer (some ⟨b, 5, none⟩)) (by rw [hVS]; simp) hB10)
        have htb := HTB.out.gr hFW.1
        obtain ⟨y5, y6, _, _⟩ := htb.cells
        have yl := lt_of_block htb
        go_simp
        exact hK.out _ _ (close_put hfr (d := 93) (by decide) (by simp) _ (F := fun u => Det VS US (fun B u w' => Gr (w.alloc (.cells #[.int .i64 t.k, .string (bs t.l), .string (bs t.x), .slice A n c, .string (bs t.e)] 24)).drew w' ∧ (B 17 = true → B 16 = true) ∧ (B 16 = true → ∃ p cs, ((w.alloc (.cells #[.int .i64 t.k, .string (bs t.l), .string (bs t.x), .slice A n c, .string (bs t.e)] 24)).drew).heap.size ≤ p ∧ u 11 = .pointer (some ⟨p, 0, none⟩) ∧ w'.heap[p]? = some (.cells cs 36 (0, 0)) ∧ cs = if B 17 = true then #[.int .i64 r.d, .int .i64 r.n, .int .i64 r.b, .int .i64 r.a, .int .i64 r.x] else #[.int .i64 0, .int .i64 0, .int .i64 0, .int .i64 0, .int .i64 0])) (upB B 11) u _) (hF.step (by rw [hVS]; simp) (by rw [hUS]; simp) (by simpa [upB, upV] using hFW)))
      · have hFW := hF.wd
        have hB3 : B 3 = true := hdp ⟨3, .data⟩ (by simp) (by rfl)
        have e3 := slot_spell (hF.get (i := 3) (d := 85) (v := .agg #[.int .i64 L.d, .int .i64 L.n, .int .i64 L.b, .int .i64 L.a, .int .i64 L.x]) (by rw [hVS]; simp) hB3)
        have hB7 : B 7 = true := hdp ⟨7, .data⟩ (by simp) (by rfl)
        have e7 := slot_spell (hF.get (i := 7) (d := 89) (v := .agg #[.int .i64 st.u.d, .int .i64 st.u.n, .int .i64 st.u.b, .int .i64 st.u.a, .int .i64 st.u.x]) (by rw [hVS]; simp) hB7)
        have hB11 : B 11 = true := hdp ⟨11, .data⟩ (by simp) (by rfl)
        have e11 := slot_spell (hF.get (i := 11) (d := 93) (v := .int .i64 cz) (by rw [hVS]; simp) hB11)
        have HFF := Lib.hid hF
        have HFR := Lib.hid hfr
        have HFG := Lib.hid hFW
        clear hF hfr hFW hdp
        go_simp
        refine (HAL.out _).mono ?_
        rintro e w2 ⟨rfl, hb2⟩
        have hF := HFF.out
        have hfr := HFR.out
        have hFW := HFG.out
        exact hK.out _ _ (close_put hfr (d := 94) (by decide) (by simp) _ (F := fun u => Det VS US (fun B u w' => Gr (w.alloc (.cells #[.int .i64 t.k, .string (bs t.l), .string (bs t.x), .slice A n c, .string (bs t.e)] 24)).drew w' ∧ (B 17 = true → B 16 = true) ∧ (B 16 = true → ∃ p cs, ((w.alloc (.cells #[.int .i64 t.k, .string (bs t.l), .string (bs t.x), .slice A n c, .string (bs t.e)] 24)).drew).heap.size ≤ p ∧ u 11 = .pointer (some ⟨p, 0, none⟩) ∧ w'.heap[p]? = some (.cells cs 36 (0, 0)) ∧ cs = if B 17 = true then #[.int .i64 r.d, .int .i64 r.n, .int .i64 r.b, .int .i64 r.a, .int .i64 r.x] else #[.int .i64 0, .int .i64 0, .int .i64 0, .int .i64 0, .int .i64 0])) (upB B 12) u _) (hF.step (by rw [hVS]; simp) (by rw [hUS]; simp) (⟨hFW.1.trans hb2, by simpa [upB] using hFW.2.1, fun h16 => (by
              obtain ⟨p, cs, q1, q2, q3, q4⟩ := hFW.2.2 (by simpa [upB] using h16)
              exact ⟨p, cs, q1, by simpa [upV] using q2, (hb2.block p (lt_of_block q3)).trans q3, by simpa [upB] using q4⟩)⟩)))
      · have hFW := hF.wd
        have hB12 : B 12 = true := hdp ⟨12, .data⟩ (by simp) (by rfl)
        have e12 := slot_spell (hF.get (i := 12) (d := 94) (v := .tuple #[.agg #[.int .i64 r.d, .int .i64 r.n, .int .i64 r.b, .int .i64 r.a, .int .i64 r.x], .int .i64 r.c]) (by rw [hVS]; simp) hB12)
        go_simp
        exact hK.out _ _ (close_put hfr (d := 81) (by decide) (by simp) _ (F := fun u => Det VS US (fun B u w' => Gr (w.alloc (.cells #[.int .i64 t.k, .string (bs t.l), .string (bs t.x), .slice A n c, .string (bs t.e)] 24)).drew w' ∧ (B 17 = true → B 16 = true) ∧ (B 16 = true → ∃ p cs, ((w.alloc (.cells #[.int .i64 t.k, .string (bs t.l), .string (bs t.x), .slice A n c, .string (bs t.e)] 24)).drew).heap.size ≤ p ∧ u 11 = .pointer (some ⟨p, 0, none⟩) ∧ w'.heap[p]? = some (.cells cs 36 (0, 0)) ∧ cs = if B 17 = true then #[.int .i64 r.d, .int .i64 r.n, .int .i64 r.b, .int .i64 r.a, .int .i64 r.x] else #[.int .i64 0, .int .i64 0, .int .i64 0, .int .i64 0, .int .i64 0])) (upB B 13) u _) (hF.step (by rw [hVS]; simp) (by rw [hUS]; simp) (by simpa [upB, upV] using hFW)))
      · have hFW := hF.wd
        have hB13 : B 13 = true := hdp ⟨13, .data⟩ (by simp) (by rfl)
        have e13 := slot_spell (hF.get (i := 13) (d := 81) (v := .tuple #[.agg #[.int .i64 r.d, .int .i64 r.n, .int .i64 r.b, .int .i64 r.a, .int .i64 r.x], .int .i64 r.c]) (by rw [hVS]; simp) hB13)
        go_simp
        exact hK.out _ _ (close_put hfr (d := 95) (by decide) (by simp) _ (F := fun u => Det VS US (fun B u w' => Gr (w.alloc (.cells #[.int .i64 t.k, .string (bs t.l), .string (bs t.x), .slice A n c, .string (bs t.e)] 24)).drew w' ∧ (B 17 = true → B 16 = true) ∧ (B 16 = true → ∃ p cs, ((w.alloc (.cells #[.int .i64 t.k, .string (bs t.l), .string (bs t.x), .slice A n c, .string (bs t.e)] 24)).drew).heap.size ≤ p ∧ u 11 = .pointer (some ⟨p, 0, none⟩) ∧ w'.heap[p]? = some (.cells cs 36 (0, 0)) ∧ cs = if B 17 = true then #[.int .i64 r.d, .int .i64 r.n, .int .i64 r.b, .int .i64 r.a, .int .i64 r.x] else #[.int .i64 0, .int .i64 0, .int .i64 0, .int .i64 0, .int .i64 0])) (upB B 14) u _) (hF.step (by rw [hVS]; simp) (by rw [hUS]; simp) (by simpa [upB, upV] using hFW)))
      · have hFW := hF.wd
        have hB13 : B 13 = true := hdp ⟨13, .data⟩ (by simp) (by rfl)
        have e13 := slot_spell (hF.get (i := 13) (d := 81) (v := .tuple #[.agg #[.int .i64 r.d, .int .i64 r.n, .int .i64 r.b, .int .i64 r.a, .int .i64 r.x], .int .i64 r.c]) (by rw [hVS]; simp) hB13)
        go_simp
        exact hK.out _ _ (close_put hfr (d := 96) (by decide) (by simp) _ (F := fun u => Det VS US (fun B u w' => Gr (w.alloc (.cells #[.int .i64 t.k, .string (bs t.l), .string (bs t.x), .slice A n c, .string (bs t.e)] 24)).drew w' ∧ (B 17 = true → B 16 = true) ∧ (B 16 = true → ∃ p cs, ((w.alloc (.cells #[.int .i64 t.k, .string (bs t.l), .string (bs t.x), .slice A n c, .string (bs t.e)] 24)).drew).heap.size ≤ p ∧ u 11 = .pointer (some ⟨p, 0, none⟩) ∧ w'.heap[p]? = some (.cells cs 36 (0, 0)) ∧ cs = if B 17 = true then #[.int .i64 r.d, .int .i64 r.n, .int .i64 r.b, .int .i64 r.a, .int .i64 r.x] else #[.int .i64 0, .int .i64 0, .int .i64 0, .int .i64 0, .int .i64 0])) (upB B 15) u _) (hF.step (by rw [hVS]; simp) (by rw [hUS]; simp) (by simpa [upB, upV] using hFW)))
      · have hFW := hF.wd
        have h17n : ¬ B 17 = true := fun h => by rw [hFW.2.1 h] at hBi; cases hBi
        go_simp
        exact hK.out _ _ (close_put hfr (d := 11) (by decide) (by simp) _ (F := fun u => Det VS US (fun B u w' => Gr (w.alloc (.cells #[.int .i64 t.k, .string (bs t.l), .string (bs t.x), .slice A n c, .string (bs t.e)] 24)).drew w' ∧ (B 17 = true → B 16 = true) ∧ (B 16 = true → ∃ p cs, ((w.alloc (.cells #[.int .i64 t.k, .string (bs t.l), .string (bs t.x), .slice A n c, .string (bs t.e)] 24)).drew).heap.size ≤ p ∧ u 11 = .pointer (some ⟨p, 0, none⟩) ∧ w'.heap[p]? = some (.cells cs 36 (0, 0)) ∧ cs = if B 17 = true then #[.int .i64 r.d, .int .i64 r.n, .int .i64 r.b, .int .i64 r.a, .int .i64 r.x] else #[.int .i64 0, .int .i64 0, .int .i64 0, .int .i64 0, .int .i64 0])) (upB B 16) u _) (hF.step (by rw [hVS]; simp) (by rw [hUS]; simp) (⟨hFW.1.alloc _, fun h17 => by simp [upB], fun _ => ⟨_, _, Below.size hFW.1, by simp [upV], heap_alloc_new _ _, by rw [if_neg (by simpa [upB] using h17n)]⟩⟩)))
      · have hFW := hF.wd
        have hB14 : B 14 = true := hdp ⟨14, .data⟩ (by simp) (by rfl)
        have e14 := slot_spell (hF.get (i := 14) (d := 95) (v := .agg #[.int .i64 r.d, .int .i64 r.n, .int .i64 r.b, .int .i64 r.a, .int .i64 r.x]) (by rw [hVS]; simp) hB14)
        have hB16 : B 16 = true := hdp ⟨16, .data⟩ (by simp) (by rfl)
        obtain ⟨p, cs, q1, q2, q3, q4⟩ := hFW.2.2 hB16
        rw [if_neg (by rw [hBi]; decide)] at q4
        subst q4
        have e11 := slot_spell q2
        have y0 := cell_of_cells q3 0
        have f0 := free_of_cells q3 0
        have y1 := cell_of_cells q3 1
        have f1 := free_of_cells q3 1
        have y2 := cell_of_cells q3 2
        have f2 := free_of_cells q3 2
        have y3 := cell_of_cells q3 3
        have f3 := free_of_cells q3 3
        have y4 := cell_of_cells q3 4
        have f4 := free_of_cells q3 4
        have pl := lt_of_block q3
        go_simp
        exact hK.out _ _ (close_none hfr undef (F := fun u => Det VS US (fun B u w' => Gr (w.alloc (.cells #[.int .i64 t.k, .string (bs t.l), .string (bs t.x), .slice A n c, .string (bs t.e)] 24)).drew w' ∧ (B 17 = true → B 16 = true) ∧ (B 16 = true → ∃ p cs, ((w.alloc (.cells #[.int .i64 t.k, .string (bs t.l), .string (bs t.x), .slice A n c, .string (bs t.e)] 24)).drew).heap.size ≤ p ∧ u 11 = .pointer (some ⟨p, 0, none⟩) ∧ w'.heap[p]? = some (.cells cs 36 (0, 0)) ∧ cs = if B 17 = true then #[.int .i64 r.d, .int .i64 r.n, .int .i64 r.b, .int .i64 r.a, .int .i64 r.x] else #[.int .i64 0, .int .i64 0, .int .i64 0, .int .i64 0, .int .i64 0])) (upB B 17) u _) (hF.none (by rw [hVS]; simp) (⟨((((hFW.1.setCell q1 _).setCell q1 _).setCell q1 _).setCell q1 _).setCell q1 _, fun _ => by simpa [upB] using hB16, fun _ => ⟨p, _, q1, q2, five_set q3 _ _ _ _ _, by simp [upB]⟩⟩)))
      · have hFW := hF.wd
        have hB15 : B 15 = true := hdp ⟨15, .data⟩ (by simp) (by rfl)
        have e15 := slot_spell (hF.get (i := 15) (d := 96) (v := .int .i64 r.c) (by rw [hVS]; simp) hB15)
        go_simp
        exact hK.out _ _ (close_put hfr (d := 12) (by decide) (by simp) _ (F := fun u => Det VS US (fun B u w' => Gr (w.alloc (.cells #[.int .i64 t.k, .string (bs t.l), .string (bs t.x), .slice A n c, .string (bs t.e)] 24)).drew w' ∧ (B 17 = true → B 16 = true) ∧ (B 16 = true → ∃ p cs, ((w.alloc (.cells #[.int .i64 t.k, .string (bs t.l), .string (bs t.x), .slice A n c, .string (bs t.e)] 24)).drew).heap.size ≤ p ∧ u 11 = .pointer (some ⟨p, 0, none⟩) ∧ w'.heap[p]? = some (.cells cs 36 (0, 0)) ∧ cs = if B 17 = true then #[.int .i64 r.d, .int .i64 r.n, .int .i64 r.b, .int .i64 r.a, .int .i64 r.x] else #[.int .i64 0, .int .i64 0, .int .i64 0, .int .i64 0, .int .i64 0])) (upB B 18) u _) (hF.step (by rw [hVS]; simp) (by rw [hUS]; simp) (by simpa [upB, upV] using hFW)))
    · intro B u w' hall hF
      have z0 := hF.get (i := 0) (d := 82) (v := .pointer (some ⟨Bv, 0, none⟩)) (by rw [hVS]; simp) (hall 0 (by simp))
      have z1 := hF.get (i := 1) (d := 83) (v := .pointer (some ⟨Bv, 0, none⟩)) (by rw [hVS]; simp) (hall 1 (by simp))
      have z2 := hF.get (i := 2) (d := 84) (v := .pointer (some ⟨Bv, 0, none⟩)) (by rw [hVS]; simp) (hall 2 (by simp))
      have z3 := hF.get (i := 3) (d := 85) (v := .agg #[.int .i64 L.d, .int .i64 L.n, .int .i64 L.b, .int .i64 L.a, .int .i64 L.x]) (by rw [hVS]; simp) (hall 3 (by simp))
      have z4 := hF.get (i := 4) (d := 86) (v := .pointer (some ⟨Bv, 0, none⟩)) (by rw [hVS]; simp) (hall 4 (by simp))
      have z5 := hF.get (i := 5) (d := 87) (v := .pointer (some ⟨Bv, 0, none⟩)) (by rw [hVS]; simp) (hall 5 (by simp))
      have z6 := hF.get (i := 6) (d := 88) (v := .pointer (some ⟨Bv, 5, none⟩)) (by rw [hVS]; simp) (hall 6 (by simp))
      have z7 := hF.get (i := 7) (d := 89) (v := .agg #[.int .i64 st.u.d, .int .i64 st.u.n, .int .i64 st.u.b, .int .i64 st.u.a, .int .i64 st.u.x]) (by rw [hVS]; simp) (hall 7 (by simp))
      have z8 := hF.get (i := 8) (d := 90) (v := .pointer (some ⟨b, 0, none⟩)) (by rw [hVS]; simp) (hall 8 (by simp))
      have z9 := hF.get (i := 9) (d := 91) (v := .pointer (some ⟨b, 0, none⟩)) (by rw [hVS]; simp) (hall 9 (by simp))
      have z10 := hF.get (i := 10) (d := 92) (v := .pointer (some ⟨b, 5, none⟩)) (by rw [hVS]; simp) (hall 10 (by simp))
      have z11 := hF.get (i := 11) (d := 93) (v := .int .i64 cz) (by rw [hVS]; simp) (hall 11 (by simp))
      have z12 := hF.get (i := 12) (d := 94) (v := .tuple #[.agg #[.int .i64 r.d, .int .i64 r.n, .int .i64 r.b, .int .i64 r.a, .int .i64 r.x], .int .i64 r.c]) (by rw [hVS]; simp) (hall 12 (by simp))
      have z13 := hF.get (i := 13) (d := 81) (v := .tuple #[.agg #[.int .i64 r.d, .int .i64 r.n, .int .i64 r.b, .int .i64 r.a, .int .i64 r.x], .int .i64 r.c]) (by rw [hVS]; simp) (hall 13 (by simp))
      have z14 := hF.get (i := 14) (d := 95) (v := .agg #[.int .i64 r.d, .int .i64 r.n, .int .i64 r.b, .int .i64 r.a, .int .i64 r.x]) (by rw [hVS]; simp) (hall 14 (by simp))
      have z15 := hF.get (i := 15) (d := 96) (v := .int .i64 r.c) (by rw [hVS]; simp) (hall 15 (by simp))
      have z18 := hF.get (i := 18) (d := 12) (v := .int .i64 r.c) (by rw [hVS]; simp) (hall 18 (by simp))
      have hFW := hF.wd
      clear hF hVS hUS
      simp only [List.foldl_cons, List.foldl_nil, Act.put, List.setIfInBounds_toArray, List.set_cons_zero, List.set_cons_succ, z0, z1, z2, z3, z4, z5, z6, z7, z8, z9, z10, z11, z12, z13, z14, z15, z18]
      clear z0 z1 z2 z3 z4 z5 z6 z7 z8 z9 z10 z11 z12 z13 z14 z15 z18
      obtain ⟨hg, _, hp⟩ := hFW
      obtain ⟨p, cs, q1, q2, q3, q4⟩ := hp (hall 16 (by simp))
      rw [if_pos (hall 17 (by simp))] at q4
      subst q4
      rw [q2]
      have hgw : Gr w w' := (((Gr.refl w).alloc _).drew).trans hg
      have HST9 := Lib.hid (HST.out.gr hgw)
      have hvb := HST9.out.vis
      have v5 := cell_of_cells hvb 5
      have vf5 := free_of_cells hvb 5
      have v6 := cell_of_cells hvb 6
      have vf6 := free_of_cells hvb 6
      have v7 := cell_of_cells hvb 7
      have vf7 := free_of_cells hvb 7
      have v8 := cell_of_cells hvb 8
      have vf8 := free_of_cells hvb 8
      have v9 := cell_of_cells hvb 9
      have vf9 := free_of_cells hvb 9
      have vl := lt_of_block hvb
      obtain ⟨y5, y6, _, _⟩ := (HTB.out.gr hg).cells
      have yl := lt_of_block (HTB.out.gr hg)
      have p0 := cell_of_cells q3 0
      have p1 := cell_of_cells q3 1
      have p2 := cell_of_cells q3 2
      have p3 := cell_of_cells q3 3
      have p4 := cell_of_cells q3 4
      have pl := lt_of_block q3
      have hbv : b ≠ Bv := fun he => (by
        have h1 := HTB.out.gr hg
        unfold TBox at h1
        unfold VBox at hvb
        rw [he, hvb] at h1
        simp only [Option.some.injEq, Obj.cells.injEq] at h1
        exact absurd h1.2.1 (by decide))
      have hkv := KV.gr hnw hgw
      have HKV := Lib.hid hkv
      have HVV := Lib.hid hvb
      clear hall hp q2 q3 hg hgw hvb hkv
      by_cases hc : r.c = 0
      · have hc2 : (r.c != 0) = false := by simp [hc]
        rw [if_pos hc] at HQ
        clear hc
        go_wp2_with fail
        go_ret2
        exact ⟨by rw [← HQ.out]; rfl, HKV.out.vset HVV.out HST9.out.hv _ _ _ _ _, f, Ext.refl f, by rw [← HQ.out]; exact HST9.out.use _ _ _ _ _⟩
      · have hc2 : (r.c != 0) = true := by simp [hc]
        rw [if_neg hc] at HQ
        clear hc
        go_wp2_with fail
        go_ret2
        exact ⟨by rw [← HQ.out]; rfl, HKV.out, f, Ext.refl f, by rw [← HQ.out]; exact HST9.out⟩
set_option maxRecDepth 100000 in
set_option maxHeartbeats 4000000 in
theorem visit_dup (nb Bv Bm : Nat) (L : U5) (_m cnt : Nat) (f : List UInt8 → Option Nat) (st : AS) (t : NT) (A : Option Addr) (n c : Nat) (w : World) (HST : Hid (VSt nb Bv Bm L cnt f st w)) (HXL : Hid (t.x.length ≤ maxLen)) (hnw : nb ≤ w.heap.size) (hk : t.k = 9) (h2 : 2 ≤ t.x.length) (b : Nat) (hf : f (t.x.drop 1) = some b) : Calls Try.prog 48 #[.pointer (some ⟨Bv, 0, none⟩), .agg #[.int .i64 t.k, .string (bs t.l), .string (bs t.x), .slice A n c, .string (bs t.e)]] w (VPost nb Bv Bm L cnt f (0, 8, st) w) := by
  have HBX : Hid (NBox (w.alloc (.cells #[.int .i64 t.k, .string (bs t.l), .string (bs t.x), .slice A n c, .string (bs t.e)] 24)) w.heap.size ⟨t.k, t.l, t.x, A, n, c, t.e⟩) := Lib.hid (heap_alloc_new w _)
  have HS1 := Lib.hid (HST.out.gr ((Gr.refl w).alloc (.cells #[.int .i64 t.k, .string (bs t.l), .string (bs t.x), .slice A n c, .string (bs t.e)] 24)))
  have HVB := Lib.hid HS1.out.vis
  obtain ⟨nm, hnm⟩ : ∃ nm, nm = t.x.drop 1 := ⟨_, rfl⟩
  have HNM := Lib.hid hnm
  have HEX : Hid ((bs t.x).extract 1 t.x.length = bs nm) := Lib.hid (by rw [hnm]; exact bs_drop1 t.x)
  have HSZ : Hid ((bs t.x).size = t.x.length) := Lib.hid rfl
  have hnl : nm.length ≤ maxLen := by rw [hnm, List.length_drop]; exact Nat.le_trans (Nat.sub_le _ _) HXL.out
  have HNL := Lib.hid hnl
  rw [← hnm] at hf
  have HLK : Hid ((Instr.lookup 62 (.map (some Bm)) (.string (bs nm)) false).run Try.prog (w.alloc (.cells #[.int .i64 t.k, .string (bs t.l), .string (bs t.x), .slice A n c, .string (bs t.e)] 24)).drew = .ok (.pointer (some ⟨b, 0, none⟩)) (w.alloc (.cells #[.int .i64 t.k, .string (bs t.l), .string (bs t.x), .slice A n c, .string (bs t.e)] 24)).drew) := Lib.hid (HS1.out.mp.look (w := (w.alloc (.cells #[.int .i64 t.k, .string (bs t.l), .string (bs t.x), .slice A n c, .string (bs t.e)] 24)).drew) Try.underlying62 (zeroT _) hnl |>.trans (by rw [hf]; rfl))
  have HF := Lib.hid hf
  have r9 : (t.k == 9) = true := by simp [hk]
  clear hnm hf hk
  go_enter Try.func48, Try.ntmps48
  go_wp2_with fail
  obtain ⟨VS, hVS⟩ : ∃ VS : List (Nat × Nat × Value), VS = [(0, 21, .pointer (some ⟨Bv, 0, none⟩)), (1, 22, .pointer (some ⟨Bv, 0, none⟩)), (2, 23, .pointer (some ⟨Bv, 10, none⟩)), (3, 24, .map (some Bm)), (4, 25, .pointer (some ⟨w.heap.size, 2, none⟩)), (5, 26, .string (bs t.x)), (6, 27, .string (bs nm)), (7, 28, .pointer (some ⟨b, 0, none⟩)), (8, 29, .bool true)] := ⟨_, rfl⟩
  obtain ⟨US, hUS⟩ : ∃ US : List (Nat × Value), US = [(0, .pointer (some ⟨Bv, 0, none⟩)), (3, .pointer (some ⟨w.heap.size, 0, none⟩))] := ⟨_, rfl⟩
  refine wp_region_frame (by kernel_rfl) (by kernel_rfl) [21, 22, 23, 24, 25, 26, 27, 28, 29] (by simp) (Det VS US (fun _ _ w' => w' = (w.alloc (.cells #[.int .i64 t.k, .string (bs t.l), .string (bs t.x), .slice A n c, .string (bs t.e)] 24)).drew)) ?_ ?_ ?_
  · exact Det.start (by rw [hUS]; simp [slot]) (rfl)
  · intro B a' w' i o hfr hF ho hBi hdp
    have hi8 := (Array.getElem?_eq_some_iff.1 ho).1
    simp only [List.size_toArray, List.length_cons, List.length_nil] at hi8
    have hor : i = 0 ∨ i = 1 ∨ i = 2 ∨ i = 3 ∨ i = 4 ∨ i = 5 ∨ i = 6 ∨ i = 7 ∨ i = 8 := by omega
    clear hi8
    rcases hor with rfl | rfl | rfl | rfl | rfl | rfl | rfl | rfl | rfl
    all_goals (
      simp only [List.getElem?_toArray, List.getElem?_cons_zero, List.getElem?_cons_succ, Option.some.injEq] at ho
      subst ho
      rw [if_pos (show Region.wanted _ _ = true from rfl)]
      refine wp_hideK ?_
      intro K hK)
    · have hFW := hF.wd
      subst hFW
      have o0 := slot_spell (hF.had (d := 0) (v := .pointer (some ⟨Bv, 0, none⟩)) (by rw [hUS]; simp))
      go_simp
      exact hK.out _ _ (close_put hfr (d := 21) (by decide) (by simp) _ (F := fun u => Det VS US (fun _ _ w' => w' = (w.alloc (.cells #[.int .i64 t.k, .string (bs t.l), .string (bs t.x), .slice A n c, .string (bs t.e)] 24)).drew) (upB B 0) u _) (hF.step (by rw [hVS]; simp) (by rw [hUS]; simp) (rfl)))
    · have hFW := hF.wd
      subst hFW
      have hB0 : B 0 = true := hdp ⟨0, .data⟩ (by simp) (by rfl)
      have e0 := slot_spell (hF.get (i := 0) (d := 21) (v := .pointer (some ⟨Bv, 0, none⟩)) (by rw [hVS]; simp) hB0)
      go_simp
      exact hK.out _ _ (close_put hfr (d := 22) (by decide) (by simp) _ (F := fun u => Det VS US (fun _ _ w' => w' = (w.alloc (.cells #[.int .i64 t.k, .string (bs t.l), .string (bs t.x), .slice A n c, .string (bs t.e)] 24)).drew) (upB B 1) u _) (hF.step (by rw [hVS]; simp) (by rw [hUS]; simp) (rfl)))
    · have hFW := hF.wd
      subst hFW
      have hB1 : B 1 = true := hdp ⟨1, .data⟩ (by simp) (by rfl)
      have e1 := slot_spell (hF.get (i := 1) (d := 22) (v := .pointer (some ⟨Bv, 0, none⟩)) (by rw [hVS]; simp) hB1)
      go_simp
      exact hK.out _ _ (close_put hfr (d := 23) (by decide) (by simp) _ (F := fun u => Det VS US (fun _ _ w' => w' = (w.alloc (.cells #[.int .i64 t.k, .string (bs t.l), .string (bs t.x), .slice A n c, .string (bs t.e)] 24)).drew) (upB B 2) u _) (hF.step (by rw [hVS]; simp) (by rw [hUS]; simp) (rfl)))
    · have hFW := hF.wd
      subst hFW
      have hB2 : B 2 = true := hdp ⟨2, .data⟩ (by simp) (by rfl)
      have e2 := slot_spell (hF.get (i := 2) (d := 23) (v := .pointer (some ⟨Bv, 10, none⟩)) (by rw [hVS]; simp) hB2)
      have yv := cell_of_cells HVB.out 10
      have yl := lt_of_block HVB.out
      go_simp
      exact hK.out _ _ (close_put hfr (d := 24) (by decide) (by simp) _ (F := fun u => Det VS US (fun _ _ w' => w' = (w.alloc (.cells #[.int .i64 t.k, .string (bs t.l), .string (bs t.x), .slice A n c, .string (bs t.e)] 24)).drew) (upB B 3) u _) (hF.step (by rw [hVS]; simp) (by rw [hUS]; simp) (rfl)))
    · have hFW := hF.wd
      subst hFW
      have o3 := slot_spell (hF.had (d := 3) (v := .pointer (some ⟨w.heap.size, 0, none⟩)) (by rw [hUS]; simp))
      go_simp
      exact hK.out _ _ (close_put hfr (d := 25) (by decide) (by simp) _ (F := fun u => Det VS US (fun _ _ w' => w' = (w.alloc (.cells #[.int .i64 t.k, .string (bs t.l), .string (bs t.x), .slice A n c, .string (bs t.e)] 24)).drew) (upB B 4) u _) (hF.step (by rw [hVS]; simp) (by rw [hUS]; simp) (rfl)))
    · have hFW := hF.wd
      subst hFW
      have hB4 : B 4 = true := hdp ⟨4, .data⟩ (by simp) (by rfl)
      have e4 := slot_spell (hF.get (i := 4) (d := 25) (v := .pointer (some ⟨w.heap.size, 2, none⟩)) (by rw [hVS]; simp) hB4)
      have yx := HBX.out.cells.2.2.1
      have yl := lt_of_block HBX.out
      simp only at yx
      go_simp
      exact hK.out _ _ (close_put hfr (d := 26) (by decide) (by simp) _ (F := fun u => Det VS US (fun _ _ w' => w' = (w.alloc (.cells #[.int .i64 t.k, .string (bs t.l), .string (bs t.x), .slice A n c, .string (bs t.e)] 24)).drew) (upB B 5) u _) (hF.step (by rw [hVS]; simp) (by rw [hUS]; simp) (rfl)))
    · have hFW := hF.wd
      subst hFW
      have hB5 : B 5 = true := hdp ⟨5, .data⟩ (by simp) (by rfl)
      have e5 := slot_spell (hF.get (i := 5) (d := 26) (v := .string (bs t.x)) (by rw [hVS]; simp) hB5)
      have yn := HEX.out
      have ys := HSZ.out
      go_simp
      rw [if_pos (show (1 : Int) ≤ (t.x.length : Int) by omega)]
      go_simp
      exact hK.out _ _ (close_put hfr (d := 27) (by decide) (by simp) _ (F := fun u => Det VS US (fun _ _ w' => w' = (w.alloc (.cells #[.int .i64 t.k, .string (bs t.l), .string (bs t.x), .slice A n c, .string (bs t.e)] 24)).drew) (upB B 6) u _) (hF.step (by rw [hVS]; simp) (by rw [hUS]; simp) (rfl)))
    · have hFW := hF.wd
      subst hFW
      have hB3 : B 3 = true := hdp ⟨3, .data⟩ (by simp) (by rfl)
      have e3 := slot_spell (hF.get (i := 3) (d := 24) (v := .map (some Bm)) (by rw [hVS]; simp) hB3)
      have hB6 : B 6 = true := hdp ⟨6, .data⟩ (by simp) (by rfl)
      have e6 := slot_spell (hF.get (i := 6) (d := 27) (v := .string (bs nm)) (by rw [hVS]; simp) hB6)
      have yk := HLK.out
      go_simp
      exact hK.out _ _ (close_put hfr (d := 28) (by decide) (by simp) _ (F := fun u => Det VS US (fun _ _ w' => w' = (w.alloc (.cells #[.int .i64 t.k, .string (bs t.l), .string (bs t.x), .slice A n c, .string (bs t.e)] 24)).drew) (upB B 7) u _) (hF.step (by rw [hVS]; simp) (by rw [hUS]; simp) (rfl)))
    · have hFW := hF.wd
      subst hFW
      have hB7 : B 7 = true := hdp ⟨7, .data⟩ (by simp) (by rfl)
      have e7 := slot_spell (hF.get (i := 7) (d := 28) (v := .pointer (some ⟨b, 0, none⟩)) (by rw [hVS]; simp) hB7)
      go_simp
      exact hK.out _ _ (close_put hfr (d := 29) (by decide) (by simp) _ (F := fun u => Det VS US (fun _ _ w' => w' = (w.alloc (.cells #[.int .i64 t.k, .string (bs t.l), .string (bs t.x), .slice A n c, .string (bs t.e)] 24)).drew) (upB B 8) u _) (hF.step (by rw [hVS]; simp) (by rw [hUS]; simp) (rfl)))
  · intro B u w' hall hF
    have z0 := hF.get (i := 0) (d := 21) (v := .pointer (some ⟨Bv, 0, none⟩)) (by rw [hVS]; simp) (hall 0 (by simp))
    have z1 := hF.get (i := 1) (d := 22) (v := .pointer (some ⟨Bv, 0, none⟩)) (by rw [hVS]; simp) (hall 1 (by simp))
    have z2 := hF.get (i := 2) (d := 23) (v := .pointer (some ⟨Bv, 10, none⟩)) (by rw [hVS]; simp) (hall 2 (by simp))
    have z3 := hF.get (i := 3) (d := 24) (v := .map (some Bm)) (by rw [hVS]; simp) (hall 3 (by simp))
    have z4 := hF.get (i := 4) (d := 25) (v := .pointer (some ⟨w.heap.size, 2, none⟩)) (by rw [hVS]; simp) (hall 4 (by simp))
    have z5 := hF.get (i := 5) (d := 26) (v := .string (bs t.x)) (by rw [hVS]; simp) (hall 5 (by simp))
    have z6 := hF.get (i := 6) (d := 27) (v := .string (bs nm)) (by rw [hVS]; simp) (hall 6 (by simp))
    have z7 := hF.get (i := 7) (d := 28) (v := .pointer (some ⟨b, 0, none⟩)) (by rw [hVS]; simp) (hall 7 (by simp))
    have z8 := hF.get (i := 8) (d := 29) (v := .bool true) (by rw [hVS]; simp) (hall 8 (by simp))
    have hFW := hF.wd
    clear hF hVS hUS
    simp only [List.foldl_cons, List.foldl_nil, Act.put, List.setIfInBounds_toArray, List.set_cons_zero, List.set_cons_succ, z0, z1, z2, z3, z4, z5, z6, z7, z8]
    clear z0 z1 z2 z3 z4 z5 z6 z7 z8
    subst hFW
    go_wp2_with fail
    go_ret2
    have hgr : Gr w ((w.alloc (.cells #[.int .i64 t.k, .string (bs t.l), .string (bs t.x), .slice A n c, .string (bs t.e)] 24)).drew) := ((Gr.refl w).alloc _).drew
    exact ⟨rfl, KV.gr hnw hgr, f, Ext.refl f, HST.out.gr hgr⟩
set_option maxRecDepth 100000 in
set_option maxHeartbeats 4000000 in
theorem visit_anchor (nb Bv Bm : Nat) (L : U5) (m cnt : Nat) (f : List UInt8 → Option Nat) (st : AS) (t : NT) (bk ok c : Nat) (w : World) (HST : Hid (VSt nb Bv Bm L cnt f st w)) (HXL : Hid (t.x.length ≤ maxLen)) (hnw : nb ≤ w.heap.size) (hk : t.k = 9) (h2 : 2 ≤ t.x.length) (hf : f (t.x.drop 1) = none) (kid : NT) (hcm : cnt < maxLen) (hcc : cnt + 1 + countF kid ≤ 1000000) (hmk : markedB kid = true) (d : ND) (hbn : bk < nb) (hce : NCells w bk ok d) (HRE : Hid (NRep (fun k => k < nb) m w d kid)) (HI : Hid (∀ (v : ND) (t : NT) (cnt : Nat) (f : List UInt8 → Option Nat) (st : AS) (w : World), NRep (fun k => k < nb) m w v t → markedB t = true → VSt nb Bv Bm L cnt f st w → cnt + countF t ≤ 1000000 → nb ≤ w.heap.size → Calls Try.prog 48 #[.pointer (some ⟨Bv, 0, none⟩), .agg #[.int .i64 v.k, .string (bs v.l), .string (bs v.x), .slice v.A v.n v.c, .string (bs v.e)]] w (VPost nb Bv Bm L (cnt + countF t) f (visF L t st) w))) :
    Calls Try.prog 48 #[.pointer (some ⟨Bv, 0, none⟩), .agg #[.int .i64 t.k, .string (bs t.l), .string (bs t.x), .slice (some ⟨bk, ok, none⟩) 1 c, .string (bs t.e)]] w (VPost nb Bv Bm L (cnt + 1 + countF kid) f (visA L (t.x.drop 1) [kid] st) w) := by
  generalize hq : visA L (t.x.drop 1) [kid] st = q
  have HQ := Lib.hid hq
  have HMK := Lib.hid hmk
  have HCE := Lib.hid hce
  obtain ⟨e0, e1, e2, e3, e4⟩ := hce
  have hbw : bk < w.heap.size := by omega
  clear hq hmk
  have HBX : Hid (NBox (w.alloc (.cells #[.int .i64 t.k, .string (bs t.l), .string (bs t.x), .slice (some ⟨bk, ok, none⟩) 1 c, .string (bs t.e)] 24)) w.heap.size ⟨t.k, t.l, t.x, some ⟨bk, ok, none⟩, 1, c, t.e⟩) := Lib.hid (heap_alloc_new w _)
  have HS1 := Lib.hid (HST.out.gr ((Gr.refl w).alloc (.cells #[.int .i64 t.k, .string (bs t.l), .string (bs t.x), .slice (some ⟨bk, ok, none⟩) 1 c, .string (bs t.e)] 24)))
  have HVB := Lib.hid HS1.out.vis
  obtain ⟨nm, hnm⟩ : ∃ nm, nm = t.x.drop 1 := ⟨_, rfl⟩
  have HNM := Lib.hid hnm
  have HEX : Hid ((bs t.x).extract 1 t.x.length = bs nm) := Lib.hid (by rw [hnm]; exact bs_drop1 t.x)
  have HSZ : Hid ((bs t.x).size = t.x.length) := Lib.hid rfl
  have hnl : nm.length ≤ maxLen := by rw [hnm, List.length_drop]; exact Nat.le_trans (Nat.sub_le _ _) HXL.out
  have HNL := Lib.hid hnl
  rw [← hnm] at hf
  have HLK : Hid ((Instr.lookup 62 (.map (some Bm)) (.string (bs nm)) false).run Try.prog (w.alloc (.cells #[.int .i64 t.k, .string (bs t.l), .string (bs t.x), .slice (some ⟨bk, ok, none⟩) 1 c, .string (bs t.e)] 24)).drew = .ok (.pointer none) (w.alloc (.cells #[.int .i64 t.k, .string (bs t.l), .string (bs t.x), .slice (some ⟨bk, ok, none⟩) 1 c, .string (bs t.e)] 24)).drew) := Lib.hid (HS1.out.mp.look (w := (w.alloc (.cells #[.int .i64 t.k, .string (bs t.l), .string (bs t.x), .slice (some ⟨bk, ok, none⟩) 1 c, .string (bs t.e)] 24)).drew) Try.underlying62 (zeroT _) hnl |>.trans (by rw [hf]; rfl))
  have HF := Lib.hid hf
  have r9 : (t.k == 9) = true := by simp [hk]
  clear hnm hf hk
  go_enter Try.func48, Try.ntmps48
  go_wp2_with fail
  obtain ⟨VS, hVS⟩ : ∃ VS : List (Nat × Nat × Value), VS = [(0, 21, .pointer (some ⟨Bv, 0, none⟩)), (1, 22, .pointer (some ⟨Bv, 0, none⟩)), (2, 23, .pointer (some ⟨Bv, 10, none⟩)), (3, 24, .map (some Bm)), (4, 25, .pointer (some ⟨w.heap.size, 2, none⟩)), (5, 26, .string (bs t.x)), (6, 27, .string (bs nm)), (7, 28, .pointer none), (8, 29, .bool false)] := ⟨_, rfl⟩
  obtain ⟨US, hUS⟩ : ∃ US : List (Nat × Value), US = [(0, .pointer (some ⟨Bv, 0, none⟩)), (3, .pointer (some ⟨w.heap.size, 0, none⟩))] := ⟨_, rfl⟩
  refine wp_region_frame (by kernel_rfl) (by kernel_rfl) [21, 22, 23, 24, 25, 26, 27, 28, 29] (by simp) (Det VS US (fun _ _ w' => w' = (w.alloc (.cells #[.int .i64 t.k, .string (bs t.l), .string (bs t.x), .slice (some ⟨bk, ok, none⟩) 1 c, .string (bs t.e)] 24)).drew)) ?_ ?_ ?_
  · exact Det.start (by rw [hUS]; simp [slot]) (rfl)
  · intro B a' w' i o hfr hF ho hBi hdp
    have hi8 := (Array.getElem?_eq_some_iff.1 ho).1
    simp only [List.size_toArray, List.length_cons, List.length_nil] at hi8
    have hor : i = 0 ∨ i = 1 ∨ i = 2 ∨ i = 3 ∨ i = 4 ∨ i = 5 ∨ i = 6 ∨ i = 7 ∨ i = 8 := by omega
    clear hi8
    rcases hor with rfl | rfl | rfl | rfl | rfl | rfl | rfl | rfl | rfl
    all_goals (
      simp only [List.getElem?_toArray, List.getElem?_cons_zero, List.getElem?_cons_succ, Option.some.injEq] at ho
      subst ho
      rw [if_pos (show Region.wanted _ _ = true from rfl)]
      refine wp_hideK ?_
      intro K hK)
    · have hFW := hF.wd
      subst hFW
      have o0 := slot_spell (hF.had (d := 0) (v := .pointer (some ⟨Bv, 0, none⟩)) (by rw [hUS]; simp))
      go_simp
      exact hK.out _ _ (close_put hfr (d := 21) (by decide) (by simp) _ (F := fun u => Det VS US (fun _ _ w' => w' = (w.alloc (.cells #[.int .i64 t.k, .string (bs t.l), .string (bs t.x), .slice (some ⟨bk, ok, none⟩) 1 c, .string (bs t.e)] 24)).drew) (upB B 0) u _) (hF.step (by rw [hVS]; simp) (by rw [hUS]; simp) (rfl)))
    · have hFW := hF.wd
      subst hFW
      have hB0 : B 0 = true := hdp ⟨0, .data⟩ (by simp) (by rfl)
      have e0 := slot_spell (hF.get (i := 0) (d := 21) (v := .pointer (some ⟨Bv, 0, none⟩)) (by rw [hVS]; simp) hB0)
      go_simp
      exact hK.out _ _ (close_put hfr (d := 22) (by decide) (by simp) _ (F := fun u => Det VS US (fun _ _ w' => w' = (w.alloc (.cells #[.int .i64 t.k, .string (bs t.l), .string (bs t.x), .slice (some ⟨bk, ok, none⟩) 1 c, .string (bs t.e)] 24)).drew) (upB B 1) u _) (hF.step (by rw [hVS]; simp) (by rw [hUS]; simp) (rfl)))
    · have hFW := hF.wd
      subst hFW
      have hB1 : B 1 = true := hdp ⟨1, .data⟩ (by simp) (by rfl)
      have e1 := slot_spell (hF.get (i := 1) (d := 22) (v := .pointer (some ⟨Bv, 0, none⟩)) (by rw [hVS]; simp) hB1)
      go_simp
      exact hK.out _ _ (close_put hfr (d := 23) (by decide) (by simp) _ (F := fun u => Det VS US (fun _ _ w' => w' = (w.alloc (.cells #[.int .i64 t.k, .string (bs t.l), .string (bs t.x), .slice (some ⟨bk, ok, none⟩) 1 c, .string (bs t.e)] 24)).drew) (upB B 2) u _) (hF.step (by rw [hVS]; simp) (by rw [hUS]; simp) (rfl)))
    · have hFW := hF.wd
      subst hFW
      have hB2 : B 2 = true := hdp ⟨2, .data⟩ (by simp) (by rfl)
      have e2 := slot_spell (hF.get (i := 2) (d := 23) (v := .pointer (some ⟨Bv, 10, none⟩)) (by rw [hVS]; simp) hB2)
      have yv := cell_of_cells HVB.out 10
      have yl := lt_of_block HVB.out
      go_simp
      exact hK.out _ _ (close_put hfr (d := 24) (by decide) (by simp) _ (F := fun u => Det VS US (fun _ _ w' => w' = (w.alloc (.cells #[.int .i64 t.k, .string (bs t.l), .string (bs t.x), .slice (some ⟨bk, ok, none⟩) 1 c, .string (bs t.e)] 24)).drew) (upB B 3) u _) (hF.step (by rw [hVS]; simp) (by rw [hUS]; simp) (rfl)))
    · have hFW := hF.wd
      subst hFW
      have o3 := slot_spell (hF.had (d := 3) (v := .pointer (some ⟨w.heap.size, 0, none⟩)) (by rw [hUS]; simp))
      go_simp
      exact hK.out _ _ (close_put hfr (d := 25) (by decide) (by simp) _ (F := fun u => Det VS US (fun _ _ w' => w' = (w.alloc (.cells #[.int .i64 t.k, .string (bs t.l), .string (bs t.x), .slice (some ⟨bk, ok, none⟩) 1 c, .string (bs t.e)] 24)).drew) (upB B 4) u _) (hF.step (by rw [hVS]; simp) (by rw [hUS]; simp) (rfl)))
    · have hFW := hF.wd
      subst hFW
      have hB4 : B 4 = true := hdp ⟨4, .data⟩ (by simp) (by rfl)
      have e4 := slot_spell (hF.get (i := 4) (d := 25) (v := .pointer (some ⟨w.heap.size, 2, none⟩)) (by rw [hVS]; simp) hB4)
      have yx := HBX.out.cells.2.2.1
      have yl := lt_of_block HBX.out
      simp only at yx
      go_simp
      exact hK.out _ _ (close_put hfr (d := 26) (by decide) (by simp) _ (F := fun u => Det VS US (fun _ _ w' => w' = (w.alloc (.cells #[.int .i64 t.k, .string (bs t.l), .string (bs t.x), .slice (some ⟨bk, ok, none⟩) 1 c, .string (bs t.e)] 24)).drew) (upB B 5) u _) (hF.step (by rw [hVS]; simp) (by rw [hUS]; simp) (rfl)))
    · have hFW := hF.wd
      subst hFW
      have hB5 : B 5 = true := hdp ⟨5, .data⟩ (by simp) (by rfl)
      have e5 := slot_spell (hF.get (i := 5) (d := 26) (v := .string (bs t.x)) (by rw [hVS]; simp) hB5)
      have yn := HEX.out
      have ys := HSZ.out
      go_simp
      rw [if_pos (show (1 : Int) ≤ (t.x.length : Int) by omega)]
      go_simp
      exact hK.out _ _ (close_put hfr (d := 27) (by decide) (by simp) _ (F := fun u => Det VS US (fun _ _ w' => w' = (w.alloc (.cells #[.int .i64 t.k, .string (bs t.l), .string (bs t.x), .slice (some ⟨bk, ok, none⟩) 1 c, .string (bs t.e)] 24)).drew) (upB B 6) u _) (hF.step (by rw [hVS]; simp) (by rw [hUS]; simp) (rfl)))
    · have hFW := hF.wd
      subst hFW
      have hB3 : B 3 = true := hdp ⟨3, .data⟩ (by simp) (by rfl)
      have e3 := slot_spell (hF.get (i := 3) (d := 24) (v := .map (some Bm)) (by rw [hVS]; simp) hB3)
      have hB6 : B 6 = true := hdp ⟨6, .data⟩ (by simp) (by rfl)
      have e6 := slot_spell (hF.get (i := 6) (d := 27) (v := .string (bs nm)) (by rw [hVS]; simp) hB6)
      have yk := HLK.out
      go_simp
      exact hK.out _ _ (close_put hfr (d := 28) (by decide) (by simp) _ (F := fun u => Det VS US (fun _ _ w' => w' = (w.alloc (.cells #[.int .i64 t.k, .string (bs t.l), .string (bs t.x), .slice (some ⟨bk, ok, none⟩) 1 c, .string (bs t.e)] 24)).drew) (upB B 7) u _) (hF.step (by rw [hVS]; simp) (by rw [hUS]; simp) (rfl)))
    · have hFW := hF.wd
      subst hFW
      have hB7 : B 7 = true := hdp ⟨7, .data⟩ (by simp) (by rfl)
      have e7 := slot_spell (hF.get (i := 7) (d := 28) (v := .pointer none) (by rw [hVS]; simp) hB7)
      go_simp
      exact hK.out _ _ (close_put hfr (d := 29) (by decide) (by simp) _ (F := fun u => Det VS US (fun _ _ w' => w' = (w.alloc (.cells #[.int .i64 t.k, .string (bs t.l), .string (bs t.x), .slice (some ⟨bk, ok, none⟩) 1 c, .string (bs t.e)] 24)).drew) (upB B 8) u _) (hF.step (by rw [hVS]; simp) (by rw [hUS]; simp) (rfl)))
  · intro B u w' hall hF
    have z0 := hF.get (i := 0) (d := 21) (v := .pointer (some ⟨Bv, 0, none⟩)) (by rw [hVS]; simp) (hall 0 (by simp))
    have z1 := hF.get (i := 1) (d := 22) (v := .pointer (some ⟨Bv, 0, none⟩)) (by rw [hVS]; simp) (hall 1 (by simp))
    have z2 := hF.get (i := 2) (d := 23) (v := .pointer (some ⟨Bv, 10, none⟩)) (by rw [hVS]; simp) (hall 2 (by simp))
    have z3 := hF.get (i := 3) (d := 24) (v := .map (some Bm)) (by rw [hVS]; simp) (hall 3 (by simp))
    have z4 := hF.get (i := 4) (d := 25) (v := .pointer (some ⟨w.heap.size, 2, none⟩)) (by rw [hVS]; simp) (hall 4 (by simp))
    have z5 := hF.get (i := 5) (d := 26) (v := .string (bs t.x)) (by rw [hVS]; simp) (hall 5 (by simp))
    have z6 := hF.get (i := 6) (d := 27) (v := .string (bs nm)) (by rw [hVS]; simp) (hall 6 (by simp))
    have z7 := hF.get (i := 7) (d := 28) (v := .pointer none) (by rw [hVS]; simp) (hall 7 (by simp))
    have z8 := hF.get (i := 8) (d := 29) (v := .bool false) (by rw [hVS]; simp) (hall 8 (by simp))
    have hFW := hF.wd
    clear hF hVS hUS
    simp only [List.foldl_cons, List.foldl_nil, Act.put, List.setIfInBounds_toArray, List.set_cons_zero, List.set_cons_succ, z0, z1, z2, z3, z4, z5, z6, z7, z8]
    clear z0 z1 z2 z3 z4 z5 z6 z7 z8
    subst hFW
    go_wp2_with fail
    clear e0 e1 e2 e3 e4
    obtain ⟨bt, hbt⟩ : ∃ bt, bt = w.heap.size + 1 := ⟨_, rfl⟩
    have hg2 : Gr w ((w.alloc (.cells #[.int .i64 t.k, .string (bs t.l), .string (bs t.x), .slice (some ⟨bk, ok, none⟩) 1 c, .string (bs t.e)] 24)).alloc (.cells #[.int .i64 d.k, .string (bs d.l), .string (bs d.x), .slice d.A d.n d.c, .string (bs d.e), .int .i64 0, .bool false] 81)).drew := (((Gr.refl w).alloc _).alloc _).drew
    have htb2 : TBox ((w.alloc (.cells #[.int .i64 t.k, .string (bs t.l), .string (bs t.x), .slice (some ⟨bk, ok, none⟩) 1 c, .string (bs t.e)] 24)).alloc (.cells #[.int .i64 d.k, .string (bs d.l), .string (bs d.x), .slice d.A d.n d.c, .string (bs d.e), .int .i64 0, .bool false] 81)).drew bt d 0 false := by
      have h := heap_alloc_new (w.alloc (.cells #[.int .i64 t.k, .string (bs t.l), .string (bs t.x), .slice (some ⟨bk, ok, none⟩) 1 c, .string (bs t.e)] 24)) (.cells #[.int .i64 d.k, .string (bs d.l), .string (bs d.x), .slice d.A d.n d.c, .string (bs d.e), .int .i64 0, .bool false] 81)
      have hz : (w.alloc (.cells #[.int .i64 t.k, .string (bs t.l), .string (bs t.x), .slice (some ⟨bk, ok, none⟩) 1 c, .string (bs t.e)] 24)).heap.size = w.heap.size + 1 := by simp
      rw [hz] at h
      rw [hbt]
      exact h
    have hbx2 : NBox ((w.alloc (.cells #[.int .i64 t.k, .string (bs t.l), .string (bs t.x), .slice (some ⟨bk, ok, none⟩) 1 c, .string (bs t.e)] 24)).alloc (.cells #[.int .i64 d.k, .string (bs d.l), .string (bs d.x), .slice d.A d.n d.c, .string (bs d.e), .int .i64 0, .bool false] 81)).drew w.heap.size ⟨t.k, t.l, t.x, some ⟨bk, ok, none⟩, 1, c, t.e⟩ := HBX.out.gr ((Gr.refl _).alloc _).drew
    rw [← hbt]
    generalize ((w.alloc (.cells #[.int .i64 t.k, .string (bs t.l), .string (bs t.x), .slice (some ⟨bk, ok, none⟩) 1 c, .string (bs t.e)] 24)).alloc (.cells #[.int .i64 d.k, .string (bs d.l), .string (bs d.x), .slice d.A d.n d.c, .string (bs d.e), .int .i64 0, .bool false] 81)).drew = W2 at *
    have hsz2 : bt < W2.heap.size := lt_of_block htb2
    have HTB := Lib.hid htb2
    have HGW := Lib.hid hg2
    have HS2 := Lib.hid (HST.out.gr (hg2.trans (Gr.refl _).drew))
    have HVB2 := Lib.hid HS2.out.vis
    have HMP := Lib.hid HS2.out.mp
    have HBX2 := Lib.hid (hbx2.gr (Gr.refl _).drew)
    have HBT := Lib.hid hbt
    clear hg2 htb2 hbx2 hbt
    obtain ⟨VS, hVS⟩ : ∃ VS : List (Nat × Nat × Value), VS = [(0, 36, .pointer (some ⟨Bv, 0, none⟩)), (1, 37, .pointer (some ⟨Bv, 0, none⟩)), (2, 38, .pointer (some ⟨Bv, 10, none⟩)), (3, 39, .map (some Bm)), (4, 40, .pointer (some ⟨w.heap.size, 2, none⟩)), (5, 41, .string (bs t.x)), (6, 42, .string (bs nm)), (7, 43, .pointer (some ⟨bt, 0, none⟩))] := ⟨_, rfl⟩
    obtain ⟨US, hUS⟩ : ∃ US : List (Nat × Value), US = [(0, .pointer (some ⟨Bv, 0, none⟩)), (3, .pointer (some ⟨w.heap.size, 0, none⟩)), (7, .pointer (some ⟨bt, 0, none⟩))] := ⟨_, rfl⟩
    refine wp_region_frame (by kernel_rfl) (by kernel_rfl) [36, 37, 38, 39, 40, 41, 42, 43] (by simp) (Det VS US (fun B _ w' => (B 8 = true → B 0 = true ∧ B 1 = true ∧ B 2 = true ∧ B 3 = true ∧ B 4 = true ∧ B 5 = true ∧ B 6 = true ∧ B 7 = true) ∧ (B 8 = false → w' = W2.drew) ∧ (B 8 = true → MapF w' Bm (cnt + 1) (fun k => if k = nm then ptr (some bt) else ptr (f k)) (.pointer none) ∧ W2.drew.grownBy w' (some Bm)))) ?_ ?_ ?_
    · exact Det.start (by rw [hUS]; simp [slot]) (⟨fun h => (by cases h), fun _ => rfl, fun h => (by cases h)⟩)
    · intro B a' w' i o hfr hF ho hBi hdp
      have hi8 := (Array.getElem?_eq_some_iff.1 ho).1
      simp only [List.size_toArray, List.length_cons, List.length_nil] at hi8
      have hor : i = 0 ∨ i = 1 ∨ i = 2 ∨ i = 3 ∨ i = 4 ∨ i = 5 ∨ i = 6 ∨ i = 7 ∨ i = 8 := by omega
      clear hi8
      rcases hor with rfl | rfl | rfl | rfl | rfl | rfl | rfl | rfl | rfl
      all_goals (
        simp only [List.getElem?_toArray, List.getElem?_cons_zero, List.getElem?_cons_succ, Option.some.injEq] at ho
        subst ho
        rw [if_pos (show Region.wanted _ _ = true from rfl)]
        refine wp_hideK ?_
        intro K hK)
      · have hFW := hF.wd
        have o0 := slot_spell (hF.had (d := 0) (v := .pointer (some ⟨Bv, 0, none⟩)) (by rw [hUS]; simp))
        have h8 : B 8 = false := by
          cases h8 : B 8 with
          | false => rfl
          | true => exact absurd (hFW.1 h8) (by simp [hBi])
        have hw2 := (hFW.2.1 h8).symm
        subst hw2
        go_simp
        exact hK.out _ _ (close_put hfr (d := 36) (by decide) (by simp) _ (F := fun u => Det VS US (fun B _ w' => (B 8 = true → B 0 = true ∧ B 1 = true ∧ B 2 = true ∧ B 3 = true ∧ B 4 = true ∧ B 5 = true ∧ B 6 = true ∧ B 7 = true) ∧ (B 8 = false → w' = W2.drew) ∧ (B 8 = true → MapF w' Bm (cnt + 1) (fun k => if k = nm then ptr (some bt) else ptr (f k)) (.pointer none) ∧ W2.drew.grownBy w' (some Bm))) (upB B 0) u _) (hF.step (by rw [hVS]; simp) (by rw [hUS]; simp) (⟨fun h => by simp [upB, h8] at h, fun _ => rfl, fun h => by simp [upB, h8] at h⟩)))
      · have hFW := hF.wd
        have hB0 : B 0 = true := hdp ⟨0, .data⟩ (by simp) (by rfl)
        have e0 := slot_spell (hF.get (i := 0) (d := 36) (v := .pointer (some ⟨Bv, 0, none⟩)) (by rw [hVS]; simp) hB0)
        have h8 : B 8 = false := by
          cases h8 : B 8 with
          | false => rfl
          | true => exact absurd (hFW.1 h8) (by simp [hBi])
        have hw2 := (hFW.2.1 h8).symm
        subst hw2
        go_simp
        exact hK.out _ _ (close_put hfr (d := 37) (by decide) (by simp) _ (F := fun u => Det VS US (fun B _ w' => (B 8 = true → B 0 = true ∧ B 1 = true ∧ B 2 = true ∧ B 3 = true ∧ B 4 = true ∧ B 5 = true ∧ B 6 = true ∧ B 7 = true) ∧ (B 8 = false → w' = W2.drew) ∧ (B 8 = true → MapF w' Bm (cnt + 1) (fun k => if k = nm then ptr (some bt) else ptr (f k)) (.pointer none) ∧ W2.drew.grownBy w' (some Bm))) (upB B 1) u _) (hF.step (by rw [hVS]; simp) (by rw [hUS]; simp) (⟨fun h => by simp [upB, h8] at h, fun _ => rfl, fun h => by simp [upB, h8] at h⟩)))
      · have hFW := hF.wd
        have hB1 : B 1 = true := hdp ⟨1, .data⟩ (by simp) (by rfl)
        have e1 := slot_spell (hF.get (i := 1) (d := 37) (v := .pointer (some ⟨Bv, 0, none⟩)) (by rw [hVS]; simp) hB1)
        have h8 : B 8 = false := by
          cases h8 : B 8 with
          | false => rfl
          | true => exact absurd (hFW.1 h8) (by simp [hBi])
        have hw2 := (hFW.2.1 h8).symm
        subst hw2
        go_simp
        exact hK.out _ _ (close_put hfr (d := 38) (by decide) (by simp) _ (F := fun u => Det VS US (fun B _ w' => (B 8 = true → B 0 = true ∧ B 1 = true ∧ B 2 = true ∧ B 3 = true ∧ B 4 = true ∧ B 5 = true ∧ B 6 = true ∧ B 7 = true) ∧ (B 8 = false → w' = W2.drew) ∧ (B 8 = true → MapF w' Bm (cnt + 1) (fun k => if k = nm then ptr (some bt) else ptr (f k)) (.pointer none) ∧ W2.drew.grownBy w' (some Bm))) (upB B 2) u _) (hF.step (by rw [hVS]; simp) (by rw [hUS]; simp) (⟨fun h => by simp [upB, h8] at h, fun _ => rfl, fun h => by simp [upB, h8] at h⟩)))
      · have hFW := hF.wd
        have hB2 : B 2 = true := hdp ⟨2, .data⟩ (by simp) (by rfl)
        have e2 := slot_spell (hF.get (i := 2) (d := 38) (v := .pointer (some ⟨Bv, 10, none⟩)) (by rw [hVS]; simp) hB2)
        have h8 : B 8 = false := by
          cases h8 : B 8 with
          | false => rfl
          | true => exact absurd (hFW.1 h8) (by simp [hBi])
        have hw2 := (hFW.2.1 h8).symm
        subst hw2
        have yv := cell_of_cells HVB2.out 10
        have yl := lt_of_block HVB2.out
        go_simp
        exact hK.out _ _ (close_put hfr (d := 39) (by decide) (by simp) _ (F := fun u => Det VS US (fun B _ w' => (B 8 = true → B 0 = true ∧ B 1 = true ∧ B 2 = true ∧ B 3 = true ∧ B 4 = true ∧ B 5 = true ∧ B 6 = true ∧ B 7 = true) ∧ (B 8 = false → w' = W2.drew) ∧ (B 8 = true → MapF w' Bm (cnt + 1) (fun k => if k = nm then ptr (some bt) else ptr (f k)) (.pointer none) ∧ W2.drew.grownBy w' (some Bm))) (upB B 3) u _) (hF.step (by rw [hVS]; simp) (by rw [hUS]; simp) (⟨fun h => by simp [upB, h8] at h, fun _ => rfl, fun h => by simp [upB, h8] at h⟩)))
      · have hFW := hF.wd
        have o3 := slot_spell (hF.had (d := 3) (v := .pointer (some ⟨w.heap.size, 0, none⟩)) (by rw [hUS]; simp))
        have h8 : B 8 = false := by
          cases h8 : B 8 with
          | false => rfl
          | true => exact absurd (hFW.1 h8) (by simp [hBi])
        have hw2 := (hFW.2.1 h8).symm
        subst hw2
        go_simp
        exact hK.out _ _ (close_put hfr (d := 40) (by decide) (by simp) _ (F := fun u => Det VS US (fun B _ w' => (B 8 = true → B 0 = true ∧ B 1 = true ∧ B 2 = true ∧ B 3 = true ∧ B 4 = true ∧ B 5 = true ∧ B 6 = true ∧ B 7 = true) ∧ (B 8 = false → w' = W2.drew) ∧ (B 8 = true → MapF w' Bm (cnt + 1) (fun k => if k = nm then ptr (some bt) else ptr (f k)) (.pointer none) ∧ W2.drew.grownBy w' (some Bm))) (upB B 4) u _) (hF.step (by rw [hVS]; simp) (by rw [hUS]; simp) (⟨fun h => by simp [upB, h8] at h, fun _ => rfl, fun h => by simp [upB, h8] at h⟩)))
      · have hFW := hF.wd
        have hB4 : B 4 = true := hdp ⟨4, .data⟩ (by simp) (by rfl)
        have e4 := slot_spell (hF.get (i := 4) (d := 40) (v := .pointer (some ⟨w.heap.size, 2, none⟩)) (by rw [hVS]; simp) hB4)
        have h8 : B 8 = false := by
          cases h8 : B 8 with
          | false => rfl
          | true => exact absurd (hFW.1 h8) (by simp [hBi])
        have hw2 := (hFW.2.1 h8).symm
        subst hw2
        have yx := HBX2.out.cells.2.2.1
        have yl := lt_of_block HBX2.out
        simp only at yx
        go_simp
        exact hK.out _ _ (close_put hfr (d := 41) (by decide) (by simp) _ (F := fun u => Det VS US (fun B _ w' => (B 8 = true → B 0 = true ∧ B 1 = true ∧ B 2 = true ∧ B 3 = true ∧ B 4 = true ∧ B 5 = true ∧ B 6 = true ∧ B 7 = true) ∧ (B 8 = false → w' = W2.drew) ∧ (B 8 = true → MapF w' Bm (cnt + 1) (fun k => if k = nm then ptr (some bt) else ptr (f k)) (.pointer none) ∧ W2.drew.grownBy w' (some Bm))) (upB B 5) u _) (hF.step (by rw [hVS]; simp) (by rw [hUS]; simp) (⟨fun h => by simp [upB, h8] at h, fun _ => rfl, fun h => by simp [upB, h8] at h⟩)))
      · have hFW := hF.wd
        have hB5 : B 5 = true := hdp ⟨5, .data⟩ (by simp) (by rfl)
        have e5 := slot_spell (hF.get (i := 5) (d := 41) (v := .string (bs t.x)) (by rw [hVS]; simp) hB5)
        have h8 : B 8 = false := by
          cases h8 : B 8 with
          | false => rfl
          | true => exact absurd (hFW.1 h8) (by simp [hBi])
        have hw2 := (hFW.2.1 h8).symm
        subst hw2
        have yn := HEX.out
        have ys := HSZ.out
        go_simp
        rw [if_pos (show (1 : Int) ≤ (t.x.length : Int) by omega)]
        go_simp
        exact hK.out _ _ (close_put hfr (d := 42) (by decide) (by simp) _ (F := fun u => Det VS US (fun B _ w' => (B 8 = true → B 0 = true ∧ B 1 = true ∧ B 2 = true ∧ B 3 = true ∧ B 4 = true ∧ B 5 = true ∧ B 6 = true ∧ B 7 = true) ∧ (B 8 = false → w' = W2.drew) ∧ (B 8 = true → MapF w' Bm (cnt + 1) (fun k => if k = nm then ptr (some bt) else ptr (f k)) (.pointer none) ∧ W2.drew.grownBy w' (some Bm))) (upB B 6) u _) (hF.step (by rw [hVS]; simp) (by rw [hUS]; simp) (⟨fun h => by simp [upB, h8] at h, fun _ => rfl, fun h => by simp [upB, h8] at h⟩)))
      · have hFW := hF.wd
        have o7 := slot_spell (hF.had (d := 7) (v := .pointer (some ⟨bt, 0, none⟩)) (by rw [hUS]; simp))
        have h8 : B 8 = false := by
          cases h8 : B 8 with
          | false => rfl
          | true => exact absurd (hFW.1 h8) (by simp [hBi])
        have hw2 := (hFW.2.1 h8).symm
        subst hw2
        go_simp
        exact hK.out _ _ (close_put hfr (d := 43) (by decide) (by simp) _ (F := fun u => Det VS US (fun B _ w' => (B 8 = true → B 0 = true ∧ B 1 = true ∧ B 2 = true ∧ B 3 = true ∧ B 4 = true ∧ B 5 = true ∧ B 6 = true ∧ B 7 = true) ∧ (B 8 = false → w' = W2.drew) ∧ (B 8 = true → MapF w' Bm (cnt + 1) (fun k => if k = nm then ptr (some bt) else ptr (f k)) (.pointer none) ∧ W2.drew.grownBy w' (some Bm))) (upB B 7) u _) (hF.step (by rw [hVS]; simp) (by rw [hUS]; simp) (⟨fun h => by simp [upB, h8] at h, fun _ => rfl, fun h => by simp [upB, h8] at h⟩)))
      · have hFW := hF.wd
        have hB3 : B 3 = true := hdp ⟨3, .data⟩ (by simp) (by rfl)
        have e3 := slot_spell (hF.get (i := 3) (d := 39) (v := .map (some Bm)) (by rw [hVS]; simp) hB3)
        have hB6 : B 6 = true := hdp ⟨6, .data⟩ (by simp) (by rfl)
        have e6 := slot_spell (hF.get (i := 6) (d := 42) (v := .string (bs nm)) (by rw [hVS]; simp) hB6)
        have hB7 : B 7 = true := hdp ⟨7, .data⟩ (by simp) (by rfl)
        have e7 := slot_spell (hF.get (i := 7) (d := 43) (v := .pointer (some ⟨bt, 0, none⟩)) (by rw [hVS]; simp) hB7)
        have hw2 := (hFW.2.1 hBi).symm
        subst hw2
        obtain ⟨w9, hrun, hm9, hg9⟩ := HMP.out.put Try.underlying62 hcm HNL.out (v := ptr (some bt)) (rp_ptr (some bt)).choose_spec
        have hrun2 : (Instr.mapUpdate 62 (.map (some Bm)) (.string (bs nm)) (.pointer (some ⟨bt, 0, none⟩))).run Try.prog W2.drew = .ok () w9 := hrun
        have q0 : B 0 = true := by first | assumption | exact hdp ⟨0, .phase⟩ (by simp) (by rfl) | exact hdp ⟨0, .chain⟩ (by simp) (by rfl)
        have q1 : B 1 = true := by first | assumption | exact hdp ⟨1, .phase⟩ (by simp) (by rfl) | exact hdp ⟨1, .chain⟩ (by simp) (by rfl)
        have q2 : B 2 = true := by first | assumption | exact hdp ⟨2, .phase⟩ (by simp) (by rfl) | exact hdp ⟨2, .chain⟩ (by simp) (by rfl)
        have q3 : B 3 = true := by first | assumption | exact hdp ⟨3, .phase⟩ (by simp) (by rfl) | exact hdp ⟨3, .chain⟩ (by simp) (by rfl)
        have q4 : B 4 = true := by first | assumption | exact hdp ⟨4, .phase⟩ (by simp) (by rfl) | exact hdp ⟨4, .chain⟩ (by simp) (by rfl)
        have q5 : B 5 = true := by first | assumption | exact hdp ⟨5, .phase⟩ (by simp) (by rfl) | exact hdp ⟨5, .chain⟩ (by simp) (by rfl)
        have q6 : B 6 = true := by first | assumption | exact hdp ⟨6, .phase⟩ (by simp) (by rfl) | exact hdp ⟨6, .chain⟩ (by simp) (by rfl)
        have q7 : B 7 = true := by first | assumption | exact hdp ⟨7, .phase⟩ (by simp) (by rfl) | exact hdp ⟨7, .chain⟩ (by simp) (by rfl)
        go_simp
        exact hK.out _ _ (close_none hfr undef (F := fun u => Det VS US (fun B _ w' => (B 8 = true → B 0 = true ∧ B 1 = true ∧ B 2 = true ∧ B 3 = true ∧ B 4 = true ∧ B 5 = true ∧ B 6 = true ∧ B 7 = true) ∧ (B 8 = false → w' = W2.drew) ∧ (B 8 = true → MapF w' Bm (cnt + 1) (fun k => if k = nm then ptr (some bt) else ptr (f k)) (.pointer none) ∧ W2.drew.grownBy w' (some Bm))) (upB B 8) u _) (hF.none (by rw [hVS]; simp) (⟨fun _ => by simp [upB, q0, q1, q2, q3, q4, q5, q6, q7], fun h => by simp [upB] at h, fun _ => ⟨hm9, hg9⟩⟩)))
    · intro B u w' hall hF
      have z0 := hF.get (i := 0) (d := 36) (v := .pointer (some ⟨Bv, 0, none⟩)) (by rw [hVS]; simp) (hall 0 (by simp))
      have z1 := hF.get (i := 1) (d := 37) (v := .pointer (some ⟨Bv, 0, none⟩)) (by rw [hVS]; simp) (hall 1 (by simp))
      have z2 := hF.get (i := 2) (d := 38) (v := .pointer (some ⟨Bv, 10, none⟩)) (by rw [hVS]; simp) (hall 2 (by simp))
      have z3 := hF.get (i := 3) (d := 39) (v := .map (some Bm)) (by rw [hVS]; simp) (hall 3 (by simp))
      have z4 := hF.get (i := 4) (d := 40) (v := .pointer (some ⟨w.heap.size, 2, none⟩)) (by rw [hVS]; simp) (hall 4 (by simp))
      have z5 := hF.get (i := 5) (d := 41) (v := .string (bs t.x)) (by rw [hVS]; simp) (hall 5 (by simp))
      have z6 := hF.get (i := 6) (d := 42) (v := .string (bs nm)) (by rw [hVS]; simp) (hall 6 (by simp))
      have z7 := hF.get (i := 7) (d := 43) (v := .pointer (some ⟨bt, 0, none⟩)) (by rw [hVS]; simp) (hall 7 (by simp))
      have hFW := hF.wd
      clear hF hVS hUS
      simp only [List.foldl_cons, List.foldl_nil, Act.put, List.setIfInBounds_toArray, List.set_cons_zero, List.set_cons_succ, z0, z1, z2, z3, z4, z5, z6, z7]
      clear z0 z1 z2 z3 z4 z5 z6 z7
      obtain ⟨hm9, hg9⟩ := hFW.2.2 (hall 8 (by simp))
      clear hFW hall
      obtain ⟨es, cl, hmb⟩ : ∃ es cl, W2.drew.heap[Bm]? = some (.map es cl) := by
        obtain ⟨_, _, _, ⟨es, cl, h1, _⟩, _⟩ := HMP.out
        exact ⟨es, cl, h1⟩
      have hgd : Gr w W2.drew := HGW.out.trans (Gr.refl _).drew
      have hkv7 : KV nb w w' := (KV.gr hnw hgd).grown hmb HS2.out.hm hg9
      have hkw7 : KV nb W2.drew w' := (KV.gr (Nat.le_trans hnw (Below.size hgd)) (Gr.refl _)).grown hmb HS2.out.hm hg9
      have hb7 : NBox w' w.heap.size ⟨t.k, t.l, t.x, some ⟨bk, ok, none⟩, 1, c, t.e⟩ := hkw7.box HBX2.out
      have hnew : ∀ s, f s ≠ some bt := fun s hs => by
        obtain ⟨kt, co, _, _, d', m', cz, h3, _⟩ := HST.out.yes s bt hs
        have h4 := lt_of_block h3
        have h5 := HBT.out
        omega
      have hs7 := HS2.out.add (b := bt) (by have := HBT.out; omega) hnew (HTB.out.gr (Gr.refl _).drew) (HRE.out.gr hgd) hm9 hg9
      obtain ⟨r, hr⟩ : ∃ r, visF L kid (st.add nm kid none) = r := ⟨_, rfl⟩
      have hcall := HI.out d kid (cnt + 1) (updF f nm bt) (st.add nm kid none) w' (HRE.out.below hkv7.2.1) HMK.out hs7 hcc (Nat.le_trans hnw hkv7.2.1.size)
      rw [hr] at hcall
      have HCALL := Lib.hid hcall
      have hqr : q = (r.1, r.2.1, r.2.2.done nm r.1) := by rw [← HQ.out, visA, ← HNM.out, hr]
      have HQR := Lib.hid hqr
      obtain ⟨e0, e1, e2, e3, e4⟩ := HCE.out.keep (P := fun b => b < nb) ⟨hkv7.2.1.size, fun b o hb _ => Go.RowKit.Below.cell hkv7.2.1 (p := ⟨b, o, none⟩) hb⟩ hbn hbw
      have hbw7 := hkv7.lt hbw
      obtain ⟨k0, k1, k2, k3, k4⟩ := hb7.cells
      simp only at k0 k1 k2 k3 k4
      have hl7 := lt_of_block hb7
      have HKV7 := Lib.hid hkv7
      clear hm9 hg9 hmb hgd hkw7 hb7 hnew hs7 hcall hqr hr hkv7
      go_wp2_with fail
      refine HCALL.out.mono ?_
      rintro e w8 ⟨rfl, hkv8, g, hext, hs8⟩
      have hgb : g nm = some bt := hext nm bt (by unfold updF; rw [if_pos rfl])
      obtain ⟨kt, co, _, hnb8, d8, m8, cz8, htb8, _⟩ := hs8.yes nm bt hgb
      obtain ⟨y5, y6, f5, f6⟩ := htb8.cells
      have hl8 := lt_of_block htb8
      have HTB8 := Lib.hid htb8
      have HKV8 := Lib.hid hkv8
      have HS8 := Lib.hid hs8
      have HGB := Lib.hid hgb
      have HEXT := Lib.hid hext
      clear hkv8 hs8 htb8 hgb hext e0 e1 e2 e3 e4 k0 k1 k2 k3 k4 hbw7 hl7 HCALL
      go_wp2_with fail
      go_ret2
      exact ⟨by rw [HQR.out]; rfl, (HKV7.out.trans HKV8.out).tset HTB8.out hnb8 _ _, g, (Ext.upd HF.out bt).trans HEXT.out, by rw [HQR.out]; exact HS8.out.fin HGB.out r.1⟩
theorem visL_drop (L : U5) (l : List NT) {j : Nat} {y : NT} (h : l[j]? = some y) (st : AS) (acc : Int) : visL L (l.drop j) st acc = if (visF L y st).2.1 = 0 then visL L (l.drop (j + 1)) (visF L y st).2.2 (wrap64 (acc + (visF L y st).1)) else (0, (visF L y st).2.1, (visF L y st).2.2) := by
  rw [drop_at h, visL]
theorem countL_take (l : List NT) {j : Nat} {y : NT} (h : l[j]? = some y) : countL (l.take (j + 1)) = countL (l.take j) + countF y := by
  rw [take_succ_at h, countL_app]
  simp [countL]
def VRel (nb Bv Bm : Nat) (L : U5) (cnt : Nat) (f : List UInt8 → Option Nat) (ks : List NT) (q : Int × Int × AS) (w : World) (n : Nat) (sv iv : Value) (wr : World) : Prop :=
  ∃ (j : Nat) (acc : Int) (g : List UInt8 → Option Nat) (st' : AS), j ≤ n ∧ iv = .int .i64 j ∧ sv = .int .i64 acc ∧ visL L (ks.drop j) st' acc = q ∧ Ext f g ∧ VSt nb Bv Bm L (cnt + countL (ks.take j)) g st' wr ∧ KV nb w wr
set_option maxRecDepth 100000 in
set_option maxHeartbeats 4000000 in
theorem visit_plain2 (nb Bv Bm : Nat) (L : U5) (m cnt : Nat) (f : List UInt8 → Option Nat) (st : AS) (t : NT) (A : Option Addr) (n c : Nat) (w : World) (HST : Hid (VSt nb Bv Bm L cnt f st w)) (_HXL : Hid (t.x.length ≤ maxLen)) (hnw : nb ≤ w.heap.size) (hk9 : t.k ≠ 9) (hk10 : t.k ≠ 10) (h2 : t.k = 2) (hn : n = t.ks.length) (hn63 : n ≤ maxLen) (hcc : cnt + countL t.ks ≤ 1000000) (hmk : markedL t.ks = true) (HK0 : Hid (Kids (fun b => b < nb) m w A t.ks)) (HI : Hid (∀ (v : ND) (t : NT) (cnt : Nat) (f : List UInt8 → Option Nat) (st : AS) (w : World), NRep (fun k => k < nb) m w v t → markedB t = true → VSt nb Bv Bm L cnt f st w → cnt + countF t ≤ 1000000 → nb ≤ w.heap.size → Calls Try.prog 48 #[.pointer (some ⟨Bv, 0, none⟩), .agg #[.int .i64 v.k, .string (bs v.l), .string (bs v.x), .slice v.A v.n v.c, .string (bs v.e)]] w (VPost nb Bv Bm L (cnt + countF t) f (visF L t st) w))) :
    Calls Try.prog 48 #[.pointer (some ⟨Bv, 0, none⟩), .agg #[.int .i64 t.k, .string (bs t.l), .string (bs t.x), .slice A n c, .string (bs t.e)]] w (VPost nb Bv Bm L (cnt + countL t.ks) f (visL L t.ks st 1) w) := by
  generalize hq : visL L t.ks st 1 = q
  have HQ := Lib.hid hq
  have HMK := Lib.hid hmk
  have HN := Lib.hid hn
  have HCC := Lib.hid hcc
  unfold maxLen at hn63
  have r9 : (t.k == 9) = false := by simp [hk9]
  have r10 : (t.k == 10) = false := by simp [hk10]
  have r2 : (t.k == 2) = true := by simp [h2]
  have HKK := Lib.hid (KV.gr hnw ((Gr.refl w).alloc (.cells #[.int .i64 t.k, .string (bs t.l), .string (bs t.x), .slice A n c, .string (bs t.e)] 24)))
  clear hq hmk hn hcc hk9 hk10 h2
  go_enter Try.func48, Try.ntmps48
  go_wp2_with fail
  go_loopw [6, 115] (fun sv iv wr => VRel nb Bv Bm L cnt f t.ks q w n sv iv wr) (fun _ iv _ => n - (intOf iv).toNat)
  case atStart => exact ⟨0, 1, f, st, Nat.zero_le _, rfl, rfl, HQ.out, Ext.refl f, (HST.out.gr ((Gr.refl w).alloc _)).mono (Nat.le_add_right _ _), HKK.out⟩
  case round =>
    obtain ⟨j, acc, g, st', hj, rfl, rfl, hvl, hext, hst, hkv⟩ := hrel
    have HVL := Lib.hid hvl
    have HEXT := Lib.hid hext
    have HST2 := Lib.hid hst
    have HKV := Lib.hid hkv
    clear hvl hext hst hkv
    by_cases hlt : j < n
    · obtain ⟨y, hy⟩ : ∃ y, t.ks[j]? = some y := ⟨t.ks[j]'(by have := HN.out; omega), List.getElem?_eq_getElem _⟩
      have HY := Lib.hid hy
      obtain ⟨bk, ok, d, hA, hbn, hbk, hce, hre⟩ := HK0.out j y hy
      subst hA
      obtain ⟨e0, e1, e2, e3, e4⟩ := hce.keep (P := fun b => b < nb) ⟨HKV.out.2.1.size, fun b o hb _ => Go.RowKit.Below.cell HKV.out.2.1 (p := ⟨b, o, none⟩) hb⟩ hbn hbk
      have hbw := HKV.out.lt hbk
      have hlt1 : (j : Int) < (n : Int) := by omega
      have hga : Gr wr (wr.alloc (.cells #[.int .i64 d.k, .string (bs d.l), .string (bs d.x), .slice d.A d.n d.c, .string (bs d.e)] 24)) := (Gr.refl wr).alloc _
      have hka := HKV.out.trans (KV.gr (Nat.le_trans HKV.out.1 HKV.out.2.1.size) hga)
      obtain ⟨r, hr⟩ : ∃ r, visF L y st' = r := ⟨_, rfl⟩
      have hct := countL_take t.ks hy
      have hcl := countL_get _ _ _ hy
      have hcall := HI.out d y (cnt + countL (t.ks.take j)) g st' (wr.alloc (.cells #[.int .i64 d.k, .string (bs d.l), .string (bs d.x), .slice d.A d.n d.c, .string (bs d.e)] 24)) (hre.below hka.2.1) (markedL_get _ _ _ HMK.out hy) (HST2.out.gr hga) (by have := HCC.out; omega) (Nat.le_trans hka.1 hka.2.1.size)
      have hvd := visL_drop L t.ks hy st' acc
      rw [hr] at hcall hvd
      rw [Nat.add_assoc, ← hct] at hcall
      have HCALL := Lib.hid hcall
      have HVD := Lib.hid hvd
      have HKA := Lib.hid hka
      have hle : countL (t.ks.take (j + 1)) ≤ countL t.ks := by rw [hct]; exact hcl
      have HLE := Lib.hid hle
      clear hy hce hre hga hka hr hct hcl hcall hvd hle
      by_cases hz : r.2.1 = 0
      · have hz2 : (r.2.1 != 0) = false := by simp [hz]
        have HV : Hid (visL L (t.ks.drop (j + 1)) r.2.2 (wrap64 (acc + r.1)) = q) := Lib.hid (by rw [← HVL.out, HVD.out, if_pos hz])
        clear hz
        go_wp2_with (go_at_call 48; refine HCALL.out.mono ?_; rintro e w2 ⟨rfl, hk2, g2, hx2, hs2⟩; have HK2 := Lib.hid hk2; have HX2 := Lib.hid hx2; have HS2 := Lib.hid hs2; clear hk2 hx2 hs2)
        go_roundw
        case rel => exact ⟨j + 1, _, g2, r.2.2, by omega, by go_num, rfl, HV.out, HEXT.out.trans HX2.out, HS2.out, HKA.out.trans HK2.out⟩
        case measure => simp [intOf] <;> omega
      · have hz2 : (r.2.1 != 0) = true := by simp [hz]
        have HV : Hid (q = (0, r.2.1, r.2.2)) := Lib.hid (by rw [← HVL.out, HVD.out, if_neg hz])
        clear hz
        go_wp2_with (go_at_call 48; refine HCALL.out.mono ?_; rintro e w2 ⟨rfl, hk2, g2, hx2, hs2⟩; have HK2 := Lib.hid hk2; have HX2 := Lib.hid hx2; have HS2 := Lib.hid hs2; clear hk2 hx2 hs2)
        go_ret2
        exact ⟨by rw [HV.out]; rfl, HKA.out.trans HK2.out, g2, HEXT.out.trans HX2.out, by rw [HV.out]; exact HS2.out.mono (Nat.add_le_add_left HLE.out _)⟩
    · have hd : t.ks.drop j = [] := List.drop_eq_nil_of_le (by rw [← HN.out]; omega)
      have htk : t.ks.take j = t.ks := List.take_of_length_le (by have := HN.out; omega)
      have HV : Hid (q = (acc, 0, st')) := Lib.hid (by rw [← HVL.out, hd, visL])
      have HTK := Lib.hid htk
      clear hd htk
      go_wp2_with fail
      go_ret2
      exact ⟨by rw [HV.out]; rfl, HKV.out, g, HEXT.out, by have h := HST2.out; rw [HTK.out] at h; rw [HV.out]; exact h⟩
set_option maxRecDepth 100000 in
set_option maxHeartbeats 4000000 in
theorem visit_plain3 (nb Bv Bm : Nat) (L : U5) (m cnt : Nat) (f : List UInt8 → Option Nat) (st : AS) (t : NT) (A : Option Addr) (n c : Nat) (w : World) (HST : Hid (VSt nb Bv Bm L cnt f st w)) (_HXL : Hid (t.x.length ≤ maxLen)) (hnw : nb ≤ w.heap.size) (hk9 : t.k ≠ 9) (hk10 : t.k ≠ 10) (h2 : t.k ≠ 2) (h3 : t.k = 3) (hn : n = t.ks.length) (hn63 : n ≤ maxLen) (hcc : cnt + countL t.ks ≤ 1000000) (hmk : markedL t.ks = true) (HK0 : Hid (Kids (fun b => b < nb) m w A t.ks)) (HI : Hid (∀ (v : ND) (t : NT) (cnt : Nat) (f : List UInt8 → Option Nat) (st : AS) (w : World), NRep (fun k => k < nb) m w v t → markedB t = true → VSt nb Bv Bm L cnt f st w → cnt + countF t ≤ 1000000 → nb ≤ w.heap.size → Calls Try.prog 48 #[.pointer (some ⟨Bv, 0, none⟩), .agg #[.int .i64 v.k, .string (bs v.l), .string (bs v.x), .slice v.A v.n v.c, .string (bs v.e)]] w (VPost nb Bv Bm L (cnt + countF t) f (visF L t st) w))) :
    Calls Try.prog 48 #[.pointer (some ⟨Bv, 0, none⟩), .agg #[.int .i64 t.k, .string (bs t.l), .string (bs t.x), .slice A n c, .string (bs t.e)]] w (VPost nb Bv Bm L (cnt + countL t.ks) f (visL L t.ks st 1) w) := by
  generalize hq : visL L t.ks st 1 = q
  have HQ := Lib.hid hq
  have HMK := Lib.hid hmk
  have HN := Lib.hid hn
  have HCC := Lib.hid hcc
  unfold maxLen at hn63
  have r9 : (t.k == 9) = false := by simp [hk9]
  have r10 : (t.k == 10) = false := by simp [hk10]
  have r2 : (t.k == 2) = false := by simp [h2]
  have r3 : (t.k == 3) = true := by simp [h3]
  have HKK := Lib.hid (KV.gr hnw ((Gr.refl w).alloc (.cells #[.int .i64 t.k, .string (bs t.l), .string (bs t.x), .slice A n c, .string (bs t.e)] 24)))
  clear hq hmk hn hcc hk9 hk10 h2 h3
  go_enter Try.func48, Try.ntmps48
  go_wp2_with fail
  go_loopw [6, 115] (fun sv iv wr => VRel nb Bv Bm L cnt f t.ks q w n sv iv wr) (fun _ iv _ => n - (intOf iv).toNat)
  case atStart => exact ⟨0, 1, f, st, Nat.zero_le _, rfl, rfl, HQ.out, Ext.refl f, (HST.out.gr ((Gr.refl w).alloc _)).mono (Nat.le_add_right _ _), HKK.out⟩
  case round =>
    obtain ⟨j, acc, g, st', hj, rfl, rfl, hvl, hext, hst, hkv⟩ := hrel
    have HVL := Lib.hid hvl
    have HEXT := Lib.hid hext
    have HST2 := Lib.hid hst
    have HKV := Lib.hid hkv
    clear hvl hext hst hkv
    by_cases hlt : j < n
    · obtain ⟨y, hy⟩ : ∃ y, t.ks[j]? = some y := ⟨t.ks[j]'(by have := HN.out; omega), List.getElem?_eq_getElem _⟩
      have HY := Lib.hid hy
      obtain ⟨bk, ok, d, hA, hbn, hbk, hce, hre⟩ := HK0.out j y hy
      subst hA
      obtain ⟨e0, e1, e2, e3, e4⟩ := hce.keep (P := fun b => b < nb) ⟨HKV.out.2.1.size, fun b o hb _ => Go.RowKit.Below.cell HKV.out.2.1 (p := ⟨b, o, none⟩) hb⟩ hbn hbk
      have hbw := HKV.out.lt hbk
      have hlt1 : (j : Int) < (n : Int) := by omega
      have hga : Gr wr (wr.alloc (.cells #[.int .i64 d.k, .string (bs d.l), .string (bs d.x), .slice d.A d.n d.c, .string (bs d.e)] 24)) := (Gr.refl wr).alloc _
      have hka := HKV.out.trans (KV.gr (Nat.le_trans HKV.out.1 HKV.out.2.1.size) hga)
      obtain ⟨r, hr⟩ : ∃ r, visF L y st' = r := ⟨_, rfl⟩
      have hct := countL_take t.ks hy
      have hcl := countL_get _ _ _ hy
      have hcall := HI.out d y (cnt + countL (t.ks.take j)) g st' (wr.alloc (.cells #[.int .i64 d.k, .string (bs d.l), .string (bs d.x), .slice d.A d.n d.c, .string (bs d.e)] 24)) (hre.below hka.2.1) (markedL_get _ _ _ HMK.out hy) (HST2.out.gr hga) (by have := HCC.out; omega) (Nat.le_trans hka.1 hka.2.1.size)
      have hvd := visL_drop L t.ks hy st' acc
      rw [hr] at hcall hvd
      rw [Nat.add_assoc, ← hct] at hcall
      have HCALL := Lib.hid hcall
      have HVD := Lib.hid hvd
      have HKA := Lib.hid hka
      have hle : countL (t.ks.take (j + 1)) ≤ countL t.ks := by rw [hct]; exact hcl
      have HLE := Lib.hid hle
      clear hy hce hre hga hka hr hct hcl hcall hvd hle
      by_cases hz : r.2.1 = 0
      · have hz2 : (r.2.1 != 0) = false := by simp [hz]
        have HV : Hid (visL L (t.ks.drop (j + 1)) r.2.2 (wrap64 (acc + r.1)) = q) := Lib.hid (by rw [← HVL.out, HVD.out, if_pos hz])
        clear hz
        go_wp2_with (go_at_call 48; refine HCALL.out.mono ?_; rintro e w2 ⟨rfl, hk2, g2, hx2, hs2⟩; have HK2 := Lib.hid hk2; have HX2 := Lib.hid hx2; have HS2 := Lib.hid hs2; clear hk2 hx2 hs2)
        go_roundw
        case rel => exact ⟨j + 1, _, g2, r.2.2, by omega, by go_num, rfl, HV.out, HEXT.out.trans HX2.out, HS2.out, HKA.out.trans HK2.out⟩
        case measure => simp [intOf] <;> omega
      · have hz2 : (r.2.1 != 0) = true := by simp [hz]
        have HV : Hid (q = (0, r.2.1, r.2.2)) := Lib.hid (by rw [← HVL.out, HVD.out, if_neg hz])
        clear hz
        go_wp2_with (go_at_call 48; refine HCALL.out.mono ?_; rintro e w2 ⟨rfl, hk2, g2, hx2, hs2⟩; have HK2 := Lib.hid hk2; have HX2 := Lib.hid hx2; have HS2 := Lib.hid hs2; clear hk2 hx2 hs2)
        go_ret2
        exact ⟨by rw [HV.out]; rfl, HKA.out.trans HK2.out, g2, HEXT.out.trans HX2.out, by rw [HV.out]; exact HS2.out.mono (Nat.add_le_add_left HLE.out _)⟩
    · have hd : t.ks.drop j = [] := List.drop_eq_nil_of_le (by rw [← HN.out]; omega)
      have htk : t.ks.take j = t.ks := List.take_of_length_le (by have := HN.out; omega)
      have HV : Hid (q = (acc, 0, st')) := Lib.hid (by rw [← HVL.out, hd, visL])
      have HTK := Lib.hid htk
      clear hd htk
      go_wp2_with fail
      go_ret2
      exact ⟨by rw [HV.out]; rfl, HKV.out, g, HEXT.out, by have h := HST2.out; rw [HTK.out] at h; rw [HV.out]; exact h⟩
set_option maxRecDepth 100000 in
set_option maxHeartbeats 4000000 in
theorem visit_plain4 (nb Bv Bm : Nat) (L : U5) (m cnt : Nat) (f : List UInt8 → Option Nat) (st : AS) (t : NT) (A : Option Addr) (n c : Nat) (w : World) (HST : Hid (VSt nb Bv Bm L cnt f st w)) (_HXL : Hid (t.x.length ≤ maxLen)) (hnw : nb ≤ w.heap.size) (hk9 : t.k ≠ 9) (hk10 : t.k ≠ 10) (h2 : t.k ≠ 2) (h3 : t.k ≠ 3) (h4 : t.k = 4) (hn : n = t.ks.length) (hn63 : n ≤ maxLen) (hcc : cnt + countL t.ks ≤ 1000000) (hmk : markedL t.ks = true) (HK0 : Hid (Kids (fun b => b < nb) m w A t.ks)) (HI : Hid (∀ (v : ND) (t : NT) (cnt : Nat) (f : List UInt8 → Option Nat) (st : AS) (w : World), NRep (fun k => k < nb) m w v t → markedB t = true → VSt nb Bv Bm L cnt f st w → cnt + countF t ≤ 1000000 → nb ≤ w.heap.size → Calls Try.prog 48 #[.pointer (some ⟨Bv, 0, none⟩), .agg #[.int .i64 v.k, .string (bs v.l), .string (bs v.x), .slice v.A v.n v.c, .string (bs v.e)]] w (VPost nb Bv Bm L (cnt + countF t) f (visF L t st) w))) :
    Calls Try.prog 48 #[.pointer (some ⟨Bv, 0, none⟩), .agg #[.int .i64 t.k, .string (bs t.l), .string (bs t.x), .slice A n c, .string (bs t.e)]] w (VPost nb Bv Bm L (cnt + countL t.ks) f (visL L t.ks st 1) w) := by
  generalize hq : visL L t.ks st 1 = q
  have HQ := Lib.hid hq
  have HMK := Lib.hid hmk
  have HN := Lib.hid hn
  have HCC := Lib.hid hcc
  unfold maxLen at hn63
  have r9 : (t.k == 9) = false := by simp [hk9]
  have r10 : (t.k == 10) = false := by simp [hk10]
  have r2 : (t.k == 2) = false := by simp [h2]
  have r3 : (t.k == 3) = false := by simp [h3]
  have r4 : (t.k == 4) = true := by simp [h4]
  have HKK := Lib.hid (KV.gr hnw ((Gr.refl w).alloc (.cells #[.int .i64 t.k, .string (bs t.l), .string (bs t.x), .slice A n c, .string (bs t.e)] 24)))
  clear hq hmk hn hcc hk9 hk10 h2 h3 h4
  go_enter Try.func48, Try.ntmps48
  go_wp2_with fail
  go_loopw [6, 115] (fun sv iv wr => VRel nb Bv Bm L cnt f t.ks q w n sv iv wr) (fun _ iv _ => n - (intOf iv).toNat)
  case atStart => exact ⟨0, 1, f, st, Nat.zero_le _, rfl, rfl, HQ.out, Ext.refl f, (HST.out.gr ((Gr.refl w).alloc _)).mono (Nat.le_add_right _ _), HKK.out⟩
  case round =>
    obtain ⟨j, acc, g, st', hj, rfl, rfl, hvl, hext, hst, hkv⟩ := hrel
    have HVL := Lib.hid hvl
    have HEXT := Lib.hid hext
    have HST2 := Lib.hid hst
    have HKV := Lib.hid hkv
    clear hvl hext hst hkv
    by_cases hlt : j < n
    · obtain ⟨y, hy⟩ : ∃ y, t.ks[j]? = some y := ⟨t.ks[j]'(by have := HN.out; omega), List.getElem?_eq_getElem _⟩
      have HY := Lib.hid hy
      obtain ⟨bk, ok, d, hA, hbn, hbk, hce, hre⟩ := HK0.out j y hy
      subst hA
      obtain ⟨e0, e1, e2, e3, e4⟩ := hce.keep (P := fun b => b < nb) ⟨HKV.out.2.1.size, fun b o hb _ => Go.RowKit.Below.cell HKV.out.2.1 (p := ⟨b, o, none⟩) hb⟩ hbn hbk
      have hbw := HKV.out.lt hbk
      have hlt1 : (j : Int) < (n : Int) := by omega
      have hga : Gr wr (wr.alloc (.cells #[.int .i64 d.k, .string (bs d.l), .string (bs d.x), .slice d.A d.n d.c, .string (bs d.e)] 24)) := (Gr.refl wr).alloc _
      have hka := HKV.out.trans (KV.gr (Nat.le_trans HKV.out.1 HKV.out.2.1.size) hga)
      obtain ⟨r, hr⟩ : ∃ r, visF L y st' = r := ⟨_, rfl⟩
      have hct := countL_take t.ks hy
      have hcl := countL_get _ _ _ hy
      have hcall := HI.out d y (cnt + countL (t.ks.take j)) g st' (wr.alloc (.cells #[.int .i64 d.k, .string (bs d.l), .string (bs d.x), .slice d.A d.n d.c, .string (bs d.e)] 24)) (hre.below hka.2.1) (markedL_get _ _ _ HMK.out hy) (HST2.out.gr hga) (by have := HCC.out; omega) (Nat.le_trans hka.1 hka.2.1.size)
      have hvd := visL_drop L t.ks hy st' acc
      rw [hr] at hcall hvd
      rw [Nat.add_assoc, ← hct] at hcall
      have HCALL := Lib.hid hcall
      have HVD := Lib.hid hvd
      have HKA := Lib.hid hka
      have hle : countL (t.ks.take (j + 1)) ≤ countL t.ks := by rw [hct]; exact hcl
      have HLE := Lib.hid hle
      clear hy hce hre hga hka hr hct hcl hcall hvd hle
      by_cases hz : r.2.1 = 0
      · have hz2 : (r.2.1 != 0) = false := by simp [hz]
        have HV : Hid (visL L (t.ks.drop (j + 1)) r.2.2 (wrap64 (acc + r.1)) = q) := Lib.hid (by rw [← HVL.out, HVD.out, if_pos hz])
        clear hz
        go_wp2_with (go_at_call 48; refine HCALL.out.mono ?_; rintro e w2 ⟨rfl, hk2, g2, hx2, hs2⟩; have HK2 := Lib.hid hk2; have HX2 := Lib.hid hx2; have HS2 := Lib.hid hs2; clear hk2 hx2 hs2)
        go_roundw
        case rel => exact ⟨j + 1, _, g2, r.2.2, by omega, by go_num, rfl, HV.out, HEXT.out.trans HX2.out, HS2.out, HKA.out.trans HK2.out⟩
        case measure => simp [intOf] <;> omega
      · have hz2 : (r.2.1 != 0) = true := by simp [hz]
        have HV : Hid (q = (0, r.2.1, r.2.2)) := Lib.hid (by rw [← HVL.out, HVD.out, if_neg hz])
        clear hz
        go_wp2_with (go_at_call 48; refine HCALL.out.mono ?_; rintro e w2 ⟨rfl, hk2, g2, hx2, hs2⟩; have HK2 := Lib.hid hk2; have HX2 := Lib.hid hx2; have HS2 := Lib.hid hs2; clear hk2 hx2 hs2)
        go_ret2
        exact ⟨by rw [HV.out]; rfl, HKA.out.trans HK2.out, g2, HEXT.out.trans HX2.out, by rw [HV.out]; exact HS2.out.mono (Nat.add_le_add_left HLE.out _)⟩
    · have hd : t.ks.drop j = [] := List.drop_eq_nil_of_le (by rw [← HN.out]; omega)
      have htk : t.ks.take j = t.ks := List.take_of_length_le (by have := HN.out; omega)
      have HV : Hid (q = (acc, 0, st')) := Lib.hid (by rw [← HVL.out, hd, visL])
      have HTK := Lib.hid htk
      clear hd htk
      go_wp2_with fail
      go_ret2
      exact ⟨by rw [HV.out]; rfl, HKV.out, g, HEXT.out, by have h := HST2.out; rw [HTK.out] at h; rw [HV.out]; exact h⟩
set_option maxRecDepth 100000 in
set_option maxHeartbeats 4000000 in
theorem visit_plain0 (nb Bv Bm : Nat) (L : U5) (m cnt : Nat) (f : List UInt8 → Option Nat) (st : AS) (t : NT) (A : Option Addr) (n c : Nat) (w : World) (HST : Hid (VSt nb Bv Bm L cnt f st w)) (_HXL : Hid (t.x.length ≤ maxLen)) (hnw : nb ≤ w.heap.size) (hk9 : t.k ≠ 9) (hk10 : t.k ≠ 10) (h2 : t.k ≠ 2) (h3 : t.k ≠ 3) (h4 : t.k ≠ 4) (hn : n = t.ks.length) (hn63 : n ≤ maxLen) (hcc : cnt + countL t.ks ≤ 1000000) (hmk : markedL t.ks = true) (HK0 : Hid (Kids (fun b => b < nb) m w A t.ks)) (HI : Hid (∀ (v : ND) (t : NT) (cnt : Nat) (f : List UInt8 → Option Nat) (st : AS) (w : World), NRep (fun k => k < nb) m w v t → markedB t = true → VSt nb Bv Bm L cnt f st w → cnt + countF t ≤ 1000000 → nb ≤ w.heap.size → Calls Try.prog 48 #[.pointer (some ⟨Bv, 0, none⟩), .agg #[.int .i64 v.k, .string (bs v.l), .string (bs v.x), .slice v.A v.n v.c, .string (bs v.e)]] w (VPost nb Bv Bm L (cnt + countF t) f (visF L t st) w))) :
    Calls Try.prog 48 #[.pointer (some ⟨Bv, 0, none⟩), .agg #[.int .i64 t.k, .string (bs t.l), .string (bs t.x), .slice A n c, .string (bs t.e)]] w (VPost nb Bv Bm L (cnt + countL t.ks) f (visL L t.ks st 0) w) := by
  generalize hq : visL L t.ks st 0 = q
  have HQ := Lib.hid hq
  have HMK := Lib.hid hmk
  have HN := Lib.hid hn
  have HCC := Lib.hid hcc
  unfold maxLen at hn63
  have r9 : (t.k == 9) = false := by simp [hk9]
  have r10 : (t.k == 10) = false := by simp [hk10]
  have r2 : (t.k == 2) = false := by simp [h2]
  have r3 : (t.k == 3) = false := by simp [h3]
  have r4 : (t.k == 4) = false := by simp [h4]
  have HKK := Lib.hid (KV.gr hnw ((Gr.refl w).alloc (.cells #[.int .i64 t.k, .string (bs t.l), .string (bs t.x), .slice A n c, .string (bs t.e)] 24)))
  clear hq hmk hn hcc hk9 hk10 h2 h3 h4
  go_enter Try.func48, Try.ntmps48
  go_wp2_with fail
  go_loopw [6, 115] (fun sv iv wr => VRel nb Bv Bm L cnt f t.ks q w n sv iv wr) (fun _ iv _ => n - (intOf iv).toNat)
  case atStart => exact ⟨0, 0, f, st, Nat.zero_le _, rfl, rfl, HQ.out, Ext.refl f, (HST.out.gr ((Gr.refl w).alloc _)).mono (Nat.le_add_right _ _), HKK.out⟩
  case round =>
    obtain ⟨j, acc, g, st', hj, rfl, rfl, hvl, hext, hst, hkv⟩ := hrel
    have HVL := Lib.hid hvl
    have HEXT := Lib.hid hext
    have HST2 := Lib.hid hst
    have HKV := Lib.hid hkv
    clear hvl hext hst hkv
    by_cases hlt : j < n
    · obtain ⟨y, hy⟩ : ∃ y, t.ks[j]? = some y := ⟨t.ks[j]'(by have := HN.out; omega), List.getElem?_eq_getElem _⟩
      have HY := Lib.hid hy
      obtain ⟨bk, ok, d, hA, hbn, hbk, hce, hre⟩ := HK0.out j y hy
      subst hA
      obtain ⟨e0, e1, e2, e3, e4⟩ := hce.keep (P := fun b => b < nb) ⟨HKV.out.2.1.size, fun b o hb _ => Go.RowKit.Below.cell HKV.out.2.1 (p := ⟨b, o, none⟩) hb⟩ hbn hbk
      have hbw := HKV.out.lt hbk
      have hlt1 : (j : Int) < (n : Int) := by omega
      have hga : Gr wr (wr.alloc (.cells #[.int .i64 d.k, .string (bs d.l), .string (bs d.x), .slice d.A d.n d.c, .string (bs d.e)] 24)) := (Gr.refl wr).alloc _
      have hka := HKV.out.trans (KV.gr (Nat.le_trans HKV.out.1 HKV.out.2.1.size) hga)
      obtain ⟨r, hr⟩ : ∃ r, visF L y st' = r := ⟨_, rfl⟩
      have hct := countL_take t.ks hy
      have hcl := countL_get _ _ _ hy
      have hcall := HI.out d y (cnt + countL (t.ks.take j)) g st' (wr.alloc (.cells #[.int .i64 d.k, .string (bs d.l), .string (bs d.x), .slice d.A d.n d.c, .string (bs d.e)] 24)) (hre.below hka.2.1) (markedL_get _ _ _ HMK.out hy) (HST2.out.gr hga) (by have := HCC.out; omega) (Nat.le_trans hka.1 hka.2.1.size)
      have hvd := visL_drop L t.ks hy st' acc
      rw [hr] at hcall hvd
      rw [Nat.add_assoc, ← hct] at hcall
      have HCALL := Lib.hid hcall
      have HVD := Lib.hid hvd
      have HKA := Lib.hid hka
      have hle : countL (t.ks.take (j + 1)) ≤ countL t.ks := by rw [hct]; exact hcl
      have HLE := Lib.hid hle
      clear hy hce hre hga hka hr hct hcl hcall hvd hle
      by_cases hz : r.2.1 = 0
      · have hz2 : (r.2.1 != 0) = false := by simp [hz]
        have HV : Hid (visL L (t.ks.drop (j + 1)) r.2.2 (wrap64 (acc + r.1)) = q) := Lib.hid (by rw [← HVL.out, HVD.out, if_pos hz])
        clear hz
        go_wp2_with (go_at_call 48; refine HCALL.out.mono ?_; rintro e w2 ⟨rfl, hk2, g2, hx2, hs2⟩; have HK2 := Lib.hid hk2; have HX2 := Lib.hid hx2; have HS2 := Lib.hid hs2; clear hk2 hx2 hs2)
        go_roundw
        case rel => exact ⟨j + 1, _, g2, r.2.2, by omega, by go_num, rfl, HV.out, HEXT.out.trans HX2.out, HS2.out, HKA.out.trans HK2.out⟩
        case measure => simp [intOf] <;> omega
      · have hz2 : (r.2.1 != 0) = true := by simp [hz]
        have HV : Hid (q = (0, r.2.1, r.2.2)) := Lib.hid (by rw [← HVL.out, HVD.out, if_neg hz])
        clear hz
        go_wp2_with (go_at_call 48; refine HCALL.out.mono ?_; rintro e w2 ⟨rfl, hk2, g2, hx2, hs2⟩; have HK2 := Lib.hid hk2; have HX2 := Lib.hid hx2; have HS2 := Lib.hid hs2; clear hk2 hx2 hs2)
        go_ret2
        exact ⟨by rw [HV.out]; rfl, HKA.out.trans HK2.out, g2, HEXT.out.trans HX2.out, by rw [HV.out]; exact HS2.out.mono (Nat.add_le_add_left HLE.out _)⟩
    · have hd : t.ks.drop j = [] := List.drop_eq_nil_of_le (by rw [← HN.out]; omega)
      have htk : t.ks.take j = t.ks := List.take_of_length_le (by have := HN.out; omega)
      have HV : Hid (q = (acc, 0, st')) := Lib.hid (by rw [← HVL.out, hd, visL])
      have HTK := Lib.hid htk
      clear hd htk
      go_wp2_with fail
      go_ret2
      exact ⟨by rw [HV.out]; rfl, HKV.out, g, HEXT.out, by have h := HST2.out; rw [HTK.out] at h; rw [HV.out]; exact h⟩
theorem VPost.mono {nb Bv Bm : Nat} {L : U5} {cnt cnt' : Nat} {f : List UInt8 → Option Nat} {q : Int × Int × AS} {w w' : World} {e : Ending} (h : VPost nb Bv Bm L cnt f q w e w') (hc : cnt ≤ cnt') : VPost nb Bv Bm L cnt' f q w e w' := by
  obtain ⟨h1, h2, g, h3, h4⟩ := h
  exact ⟨h1, h2, g, h3, h4.mono hc⟩
theorem visitP_any (nb Bv Bm : Nat) (L : U5) : ∀ (m : Nat), ∀ (v : ND) (t : NT) (cnt : Nat) (f : List UInt8 → Option Nat) (st : AS) (w : World), NRep (fun k => k < nb) m w v t → markedB t = true → VSt nb Bv Bm L cnt f st w → cnt + countF t ≤ 1000000 → nb ≤ w.heap.size → Calls Try.prog 48 #[.pointer (some ⟨Bv, 0, none⟩), .agg #[.int .i64 v.k, .string (bs v.l), .string (bs v.x), .slice v.A v.n v.c, .string (bs v.e)]] w (VPost nb Bv Bm L (cnt + countF t) f (visF L t st) w) := by
  intro m
  induction m with
  | zero => intro v t cnt f st w h; exact h.elim
  | succ m ih =>
    intro v t cnt f st w hr hmk hst hcc hnw
    obtain ⟨A, n, c, rfl, p1, p2, p3, p4, p5, p6, p7, p8, p9⟩ := hr.open5
    have hct := countF_eq t
    have hcp := countF_pos t
    have hm := marked_bad hmk
    dsimp only
    rw [visF_eq]
    have HST := Lib.hid hst
    have HXL := Lib.hid p6
    by_cases hk9 : t.k = 9
    · rw [if_pos hk9]
      obtain ⟨hnm, hl1⟩ := marked_anchor hmk hk9
      have hx2 := (named_len hnm).1
      cases hf : f (t.x.drop 1) with
      | some b =>
        obtain ⟨kt, co, hE, _⟩ := hst.yes _ b hf
        rw [if_pos (by rw [hE]; rfl)]
        exact (visit_dup nb Bv Bm L m cnt f st t A n c w HST HXL hnw hk9 hx2 b hf).mono (fun e w' h => h.mono (by omega))
      | none =>
        rw [if_neg (by rw [hst.no _ hf]; decide)]
        obtain ⟨kid, hks⟩ : ∃ kid, t.ks = [kid] := by
          match t.ks, hl1 with
          | [a], _ => exact ⟨a, rfl⟩
        rw [hks] at p9 p1 hct ⊢
        obtain ⟨bk, ok, d, hA, hbn, hbk, hce, hre⟩ := p9 0 kid rfl
        subst hA
        simp only [List.length_cons, List.length_nil, Nat.zero_add] at p1
        subst p1
        have hck : countF t = 1 + countF kid := by rw [hct, countL, countL, Nat.add_zero]
        have hmk2 := marked_kids hmk (i := 0) (y := kid) (by rw [hks]; rfl)
        have h := visit_anchor nb Bv Bm L m cnt f st t bk ok c w HST HXL hnw hk9 hx2 hf kid (by unfold maxLen; omega) (by omega) hmk2 d hbn (by simpa using hce) (Lib.hid hre) (Lib.hid ih)
        rw [hck, ← Nat.add_assoc]
        exact h
    · rw [if_neg hk9]
      by_cases hk10 : t.k = 10
      · rw [if_pos hk10]
        have hx2 := (named_len (marked_alias hmk hk10)).1
        cases hf : f (t.x.drop 1) with
        | none =>
          rw [hst.no _ hf]
          exact (visit_alias0 nb Bv Bm L m cnt f st t A n c w HST HXL hnw hk10 hx2 hf).mono (fun e w' h => h.mono (by omega))
        | some b =>
          obtain ⟨kt, co, hE, _, d, m', cz, htb, _, hcz⟩ := hst.yes _ b hf
          rw [hE]
          cases co with
          | none => exact (visit_alias1 nb Bv Bm L m cnt f st t A n c w HST HXL hnw hk10 hx2 b hf d cz htb).mono (fun e w' h => h.mono (by omega))
          | some c' =>
            obtain rfl := hcz c' rfl
            exact (visit_alias2 nb Bv Bm L m cnt f st t A n c w HST HXL hnw hk10 hx2 b hf d cz htb _ rfl).mono (fun e w' h => h.mono (by omega))
      · rw [if_neg hk10]
        by_cases h2 : t.k = 2
        · rw [if_pos (.inl h2)]
          exact (visit_plain2 nb Bv Bm L m cnt f st t A n c w HST HXL hnw hk9 hk10 h2 p1 (Nat.le_trans p2 p3) (by omega) hm.2 (Lib.hid p9) (Lib.hid ih)).mono (fun e w' h => h.mono (by omega))
        · by_cases h3 : t.k = 3
          · rw [if_pos (.inr (.inl h3))]
            exact (visit_plain3 nb Bv Bm L m cnt f st t A n c w HST HXL hnw hk9 hk10 h2 h3 p1 (Nat.le_trans p2 p3) (by omega) hm.2 (Lib.hid p9) (Lib.hid ih)).mono (fun e w' h => h.mono (by omega))
          · by_cases h4 : t.k = 4
            · rw [if_pos (.inr (.inr h4))]
              exact (visit_plain4 nb Bv Bm L m cnt f st t A n c w HST HXL hnw hk9 hk10 h2 h3 h4 p1 (Nat.le_trans p2 p3) (by omega) hm.2 (Lib.hid p9) (Lib.hid ih)).mono (fun e w' h => h.mono (by omega))
            · rw [if_neg (by simp [h2, h3, h4])]
              exact (visit_plain0 nb Bv Bm L m cnt f st t A n c w HST HXL hnw hk9 hk10 h2 h3 h4 p1 (Nat.le_trans p2 p3) (by omega) hm.2 (Lib.hid p9) (Lib.hid ih)).mono (fun e w' h => h.mono (by omega))
end Go.Proofs.Ytbfnmgiccbdglaa
