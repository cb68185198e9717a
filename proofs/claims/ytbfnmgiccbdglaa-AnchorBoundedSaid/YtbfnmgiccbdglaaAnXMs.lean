/- measure of anchor, walked. -/
import Derived.Test.YtbfnmgiccbdglaaAnXMap
import Derived.Test.YtbfnmgiccbdglaaAnRRep
import Derived.Test.YtbfnmgiccbdglaaAnVisit
namespace Go.Proofs.Ytbfnmgiccbdglaa
open Go.ChangeShapes Go.WideShapes Go.ChangeAt Go.RowKit

def MPost (Bm cnt : Nat) (q : Sz × (List UInt8 → Sz)) (w : World) (e : Ending) (w' : World) : Prop := e = .returned (.agg #[.int .i64 q.1.d, .int .i64 q.1.n, .int .i64 q.1.b]) ∧ Off [Bm] w w' ∧ MapS w' Bm cnt q.2 ∧ Below Bm w w'
theorem MPost.mono {Bm cnt cnt' : Nat} {q : Sz × (List UInt8 → Sz)} {w w' : World} {e : Ending} (h : MPost Bm cnt q w e w') (hc : cnt ≤ cnt') : MPost Bm cnt' q w e w' := ⟨h.1, h.2.1, h.2.2.1.mono hc, h.2.2.2⟩
theorem Off.ne {Bm : Nat} {W w : World} (h : Off [Bm] W w) : SameOn (fun b => b ≠ Bm) W w := h.on (fun b hb hm => hb (by simpa using hm))
theorem Off.grown {a w w' : World} {b : Nat} (h : Off [b] a w) (hg : w.grownBy w' (some b)) : Off [b] a w' :=
  h.trans ⟨hg.size, fun i hi hn => hg.block i hi (fun he => hn (by cases he; simp))⟩
def SBox (W : World) (b : Nat) (s : Sz) : Prop := W.heap[b]? = some (.cells #[.int .i64 s.d, .int .i64 s.n, .int .i64 s.b] 72 (0, 0))
theorem SBox.gr {W w : World} {b : Nat} {s : Sz} (h : SBox W b s) (hg : Gr W w) : SBox w b s := (hg.block b (lt_of_block h)).trans h
theorem SBox.off {W w : World} {b Bm : Nat} {s : Sz} (h : SBox W b s) (hg : Off [Bm] W w) (hn : b ≠ Bm) : SBox w b s := (hg.2 b (lt_of_block h) (by simpa using hn)).trans h
theorem SBox.cells {W : World} {b : Nat} {s : Sz} (h : SBox W b s) : (W.cell? ⟨b, 0, none⟩ = some (.int .i64 s.d) ∧ W.cell? ⟨b, 1, none⟩ = some (.int .i64 s.n) ∧ W.cell? ⟨b, 2, none⟩ = some (.int .i64 s.b)) ∧ W.frozen? ⟨b, 0, none⟩ = false ∧ W.frozen? ⟨b, 1, none⟩ = false ∧ W.frozen? ⟨b, 2, none⟩ = false :=
  ⟨⟨cell_of_cells h 0, cell_of_cells h 1, cell_of_cells h 2⟩, free_of_cells h 0, free_of_cells h 1, free_of_cells h 2⟩
theorem SBox.set {W : World} {b : Nat} {s : Sz} (h : SBox W b s) (x y z : Int) : SBox (((W.setCell ⟨b, 0, none⟩ (.int .i64 x)).setCell ⟨b, 1, none⟩ (.int .i64 y)).setCell ⟨b, 2, none⟩ (.int .i64 z)) b ⟨x, y, z⟩ := by
  unfold SBox at *
  simp [World.setCell, Array.getElem?_modify, h]
theorem NBox.off {W w : World} {b Bm : Nat} {d : ND} (h : NBox W b d) (hg : Off [Bm] W w) (hn : b ≠ Bm) : NBox w b d := (hg.2 b (lt_of_block h) (by simpa using hn)).trans h
set_option maxRecDepth 100000 in
set_option maxHeartbeats 4000000 in
theorem measure_alias (Bv Bm _m cnt : Nat) (D : List UInt8 → Sz) (t : NT) (A : Option Addr) (n c : Nat) (w : World) (HM : Hid (MapS w Bm cnt D)) (HXL : Hid (t.x.length ≤ maxLen)) (hk : t.k = 10) (h2 : 2 ≤ t.x.length) : Calls Try.prog 37 #[.pointer (some ⟨Bv, 0, none⟩), .agg #[.int .i64 t.k, .string (bs t.l), .string (bs t.x), .slice A n c, .string (bs t.e)], .map (some Bm)] w (MPost Bm cnt (D (t.x.drop 1), D) w) := by
  have hBml : Bm < w.heap.size := HM.out.lt
  have HBX : Hid (NBox ((w.alloc (.cells #[.int .i64 t.k, .string (bs t.l), .string (bs t.x), .slice A n c, .string (bs t.e)] 24)).alloc (.cells #[.int .i64 0, .int .i64 0, .int .i64 0] 72)) w.heap.size ⟨t.k, t.l, t.x, A, n, c, t.e⟩) := Lib.hid ((show NBox (w.alloc (.cells #[.int .i64 t.k, .string (bs t.l), .string (bs t.x), .slice A n c, .string (bs t.e)] 24)) w.heap.size ⟨t.k, t.l, t.x, A, n, c, t.e⟩ from heap_alloc_new w _).gr ((Gr.refl _).alloc _))
  have HSX : Hid (SBox ((w.alloc (.cells #[.int .i64 t.k, .string (bs t.l), .string (bs t.x), .slice A n c, .string (bs t.e)] 24)).alloc (.cells #[.int .i64 0, .int .i64 0, .int .i64 0] 72)) (w.heap.size + 1) Sz.zero) := Lib.hid (by
    have h := heap_alloc_new (w.alloc (.cells #[.int .i64 t.k, .string (bs t.l), .string (bs t.x), .slice A n c, .string (bs t.e)] 24)) (.cells #[.int .i64 0, .int .i64 0, .int .i64 0] 72)
    rw [show (w.alloc (.cells #[.int .i64 t.k, .string (bs t.l), .string (bs t.x), .slice A n c, .string (bs t.e)] 24)).heap.size = w.heap.size + 1 by simp] at h
    exact h)
  have HG1 : Hid (Gr w ((w.alloc (.cells #[.int .i64 t.k, .string (bs t.l), .string (bs t.x), .slice A n c, .string (bs t.e)] 24)).alloc (.cells #[.int .i64 0, .int .i64 0, .int .i64 0] 72))) := Lib.hid (((Gr.refl w).alloc _).alloc _)
  obtain ⟨nm, hnm⟩ : ∃ nm, nm = t.x.drop 1 := ⟨_, rfl⟩
  have HNM := Lib.hid hnm
  have HEX : Hid ((bs t.x).extract 1 t.x.length = bs nm) := Lib.hid (by rw [hnm]; exact bs_drop1 t.x)
  have HSZ : Hid ((bs t.x).size = t.x.length) := Lib.hid rfl
  have hnl : nm.length ≤ maxLen := by rw [hnm, List.length_drop]; exact Nat.le_trans (Nat.sub_le _ _) HXL.out
  have HNL := Lib.hid hnl
  rw [← hnm]
  obtain ⟨q, hq⟩ : ∃ q, q = D nm := ⟨_, rfl⟩
  rw [← hq]
  have hlk : (Instr.lookup 74 (.map (some Bm)) (.string (bs nm)) false).run Try.prog ((w.alloc (.cells #[.int .i64 t.k, .string (bs t.l), .string (bs t.x), .slice A n c, .string (bs t.e)] 24)).alloc (.cells #[.int .i64 0, .int .i64 0, .int .i64 0] 72)) = .ok (.agg #[.int .i64 q.d, .int .i64 q.n, .int .i64 q.b]) ((w.alloc (.cells #[.int .i64 t.k, .string (bs t.l), .string (bs t.x), .slice A n c, .string (bs t.e)] 24)).alloc (.cells #[.int .i64 0, .int .i64 0, .int .i64 0] 72)) := by
    rw [hq]
    exact (HM.out.gr HG1.out).look Try.underlying74 (zeroSz _) hnl
  have yn := HEX.out
  have ys := HSZ.out
  have r9 : (t.k == 9) = false := by simp [hk]
  have r10 : (t.k == 10) = true := by simp [hk]
  clear hnm hk hq hnl
  go_enter Try.func37, Try.ntmps37
  go_wp2_with fail
  have hg : Gr w ((w.alloc (.cells #[.int .i64 t.k, .string (bs t.l), .string (bs t.x), .slice A n c, .string (bs t.e)] 24)).alloc (.cells #[.int .i64 q.d, .int .i64 q.n, .int .i64 q.b] 72)) := ((Gr.refl w).alloc _).alloc _
  have hb : SBox ((w.alloc (.cells #[.int .i64 t.k, .string (bs t.l), .string (bs t.x), .slice A n c, .string (bs t.e)] 24)).alloc (.cells #[.int .i64 q.d, .int .i64 q.n, .int .i64 q.b] 72)) (w.heap.size + 1) q := by
    have h := heap_alloc_new (w.alloc (.cells #[.int .i64 t.k, .string (bs t.l), .string (bs t.x), .slice A n c, .string (bs t.e)] 24)) (.cells #[.int .i64 q.d, .int .i64 q.n, .int .i64 q.b] 72)
    rw [show (w.alloc (.cells #[.int .i64 t.k, .string (bs t.l), .string (bs t.x), .slice A n c, .string (bs t.e)] 24)).heap.size = w.heap.size + 1 by simp] at h
    exact h
  refine bodyPost_ret (results_cell_row (fn := Try.f37) rfl _ _ _ _ _ _ _ rfl (hb) Try.underlying72 rfl (by kernel_rfl)) rfl ⟨rfl, Off.gr hg, HM.out.gr hg, Below.mono hg (by omega)⟩
set_option maxRecDepth 100000 in
set_option maxHeartbeats 4000000 in
theorem measure_anchor (Bv Bm m cnt : Nat) (D : List UInt8 → Sz) (t : NT) (bk ok c : Nat) (w : World) (HM : Hid (MapS w Bm cnt D)) (HXL : Hid (t.x.length ≤ maxLen)) (hk : t.k = 9) (h2 : 2 ≤ t.x.length) (kid : NT) (hcc : cnt + 1 + countF kid ≤ 1000000) (hmk : markedB kid = true) (d : ND) (hbn : bk ≠ Bm) (hbw : bk < w.heap.size) (hce : NCells w bk ok d) (HRE : Hid (NRep (fun b => b ≠ Bm) m w d kid)) (HI : Hid (∀ (v : ND) (t : NT) (cnt : Nat) (D : List UInt8 → Sz) (w : World), NRep (fun b => b ≠ Bm) m w v t → markedB t = true → MapS w Bm cnt D → cnt + countF t ≤ 1000000 → Calls Try.prog 37 #[.pointer (some ⟨Bv, 0, none⟩), .agg #[.int .i64 v.k, .string (bs v.l), .string (bs v.x), .slice v.A v.n v.c, .string (bs v.e)], .map (some Bm)] w (MPost Bm (cnt + countF t) (msF t D) w))) :
    Calls Try.prog 37 #[.pointer (some ⟨Bv, 0, none⟩), .agg #[.int .i64 t.k, .string (bs t.l), .string (bs t.x), .slice (some ⟨bk, ok, none⟩) 1 c, .string (bs t.e)], .map (some Bm)] w (MPost Bm (cnt + 1 + countF kid) (msA (t.x.drop 1) [kid] D) w) := by
  have hBml : Bm < w.heap.size := HM.out.lt
  have HBX : Hid (NBox ((w.alloc (.cells #[.int .i64 t.k, .string (bs t.l), .string (bs t.x), .slice (some ⟨bk, ok, none⟩) 1 c, .string (bs t.e)] 24)).alloc (.cells #[.int .i64 0, .int .i64 0, .int .i64 0] 72)) w.heap.size ⟨t.k, t.l, t.x, some ⟨bk, ok, none⟩, 1, c, t.e⟩) := Lib.hid ((show NBox (w.alloc (.cells #[.int .i64 t.k, .string (bs t.l), .string (bs t.x), .slice (some ⟨bk, ok, none⟩) 1 c, .string (bs t.e)] 24)) w.heap.size ⟨t.k, t.l, t.x, some ⟨bk, ok, none⟩, 1, c, t.e⟩ from heap_alloc_new w _).gr ((Gr.refl _).alloc _))
  have HSX : Hid (SBox ((w.alloc (.cells #[.int .i64 t.k, .string (bs t.l), .string (bs t.x), .slice (some ⟨bk, ok, none⟩) 1 c, .string (bs t.e)] 24)).alloc (.cells #[.int .i64 0, .int .i64 0, .int .i64 0] 72)) (w.heap.size + 1) Sz.zero) := Lib.hid (by
    have h := heap_alloc_new (w.alloc (.cells #[.int .i64 t.k, .string (bs t.l), .string (bs t.x), .slice (some ⟨bk, ok, none⟩) 1 c, .string (bs t.e)] 24)) (.cells #[.int .i64 0, .int .i64 0, .int .i64 0] 72)
    rw [show (w.alloc (.cells #[.int .i64 t.k, .string (bs t.l), .string (bs t.x), .slice (some ⟨bk, ok, none⟩) 1 c, .string (bs t.e)] 24)).heap.size = w.heap.size + 1 by simp] at h
    exact h)
  have HG1 : Hid (Gr w ((w.alloc (.cells #[.int .i64 t.k, .string (bs t.l), .string (bs t.x), .slice (some ⟨bk, ok, none⟩) 1 c, .string (bs t.e)] 24)).alloc (.cells #[.int .i64 0, .int .i64 0, .int .i64 0] 72))) := Lib.hid (((Gr.refl w).alloc _).alloc _)
  obtain ⟨nm, hnm⟩ : ∃ nm, nm = t.x.drop 1 := ⟨_, rfl⟩
  have HNM := Lib.hid hnm
  have HEX : Hid ((bs t.x).extract 1 t.x.length = bs nm) := Lib.hid (by rw [hnm]; exact bs_drop1 t.x)
  have HSZ : Hid ((bs t.x).size = t.x.length) := Lib.hid rfl
  have hnl : nm.length ≤ maxLen := by rw [hnm, List.length_drop]; exact Nat.le_trans (Nat.sub_le _ _) HXL.out
  have HNL := Lib.hid hnl
  rw [← hnm]
  obtain ⟨r, hr⟩ : ∃ r, r = msF kid D := ⟨_, rfl⟩
  have hq : msA nm [kid] D = (r.1, updS r.2 nm r.1) := by rw [msA, ← hr]
  rw [hq]
  have r9 : (t.k == 9) = true := by simp [hk]
  obtain ⟨e0, e1, e2, e3, e4⟩ := hce.keep (HG1.out.on (fun b => b ≠ Bm)) hbn hbw
  have hbw2 := Gr.lt HG1.out hbw
  have HCALL := HI.out d kid cnt D ((w.alloc (.cells #[.int .i64 t.k, .string (bs t.l), .string (bs t.x), .slice (some ⟨bk, ok, none⟩) 1 c, .string (bs t.e)] 24)).alloc (.cells #[.int .i64 0, .int .i64 0, .int .i64 0] 72)) (HRE.out.gr HG1.out) hmk (HM.out.gr HG1.out) (by omega)
  rw [← hr] at HCALL
  replace HCALL := Lib.hid HCALL
  have hcm : cnt + countF kid < maxLen := by unfold maxLen; omega
  obtain ⟨k0, k1, k2, k3, k4⟩ := HBX.out.cells
  simp only at k0 k1 k2 k3 k4
  have hl7 := lt_of_block HBX.out
  clear hnm hk hq hr hnl hmk hcc hbn hbw hce
  go_enter Try.func37, Try.ntmps37
  go_wp2_with (go_at_call 37; refine HCALL.out.mono ?_; rintro e w2 ⟨rfl, hof2, hm2, hlo2⟩; have HOF2 := Lib.hid hof2; have HM2 := Lib.hid hm2; have HLO2 := Lib.hid hlo2; clear hof2 hm2 hlo2)
  obtain ⟨b7, hb7⟩ : ∃ b, b = w2.heap.size := ⟨_, rfl⟩
  have hx7 : SBox (w2.alloc (.cells #[.int .i64 r.1.d, .int .i64 r.1.n, .int .i64 r.1.b] 72)) b7 r.1 := by rw [hb7]; exact heap_alloc_new _ _
  have hnb : w.heap.size ≠ Bm := by omega
  have hbx7 : NBox (w2.alloc (.cells #[.int .i64 r.1.d, .int .i64 r.1.n, .int .i64 r.1.b] 72)) w.heap.size ⟨t.k, t.l, t.x, some ⟨bk, ok, none⟩, 1, c, t.e⟩ := (HBX.out.off HOF2.out hnb).gr ((Gr.refl _).alloc _)
  have hsx7 : SBox (w2.alloc (.cells #[.int .i64 r.1.d, .int .i64 r.1.n, .int .i64 r.1.b] 72)) (w.heap.size + 1) Sz.zero := (HSX.out.off HOF2.out (by omega)).gr ((Gr.refl _).alloc _)
  have hm7 := HM2.out.gr ((Gr.refl w2).alloc (.cells #[.int .i64 r.1.d, .int .i64 r.1.n, .int .i64 r.1.b] 72))
  have ho7 : Off [Bm] w (w2.alloc (.cells #[.int .i64 r.1.d, .int .i64 r.1.n, .int .i64 r.1.b] 72)) := ((Off.gr HG1.out).trans HOF2.out).trans (Off.gr ((Gr.refl _).alloc _))
  have hlo7 : Below Bm w (w2.alloc (.cells #[.int .i64 r.1.d, .int .i64 r.1.n, .int .i64 r.1.b] 72)) := ((Below.mono HG1.out (by omega)).trans HLO2.out).alloc (by have := HM2.out.lt; omega) _
  have hn7 : b7 ≠ Bm := by have := HM2.out.lt; omega
  have hn8 : b7 ≠ w.heap.size + 1 := by have h1 := lt_of_block (HSX.out.off HOF2.out (show w.heap.size + 1 ≠ Bm by omega)); omega
  rw [← hb7]
  generalize w2.alloc (.cells #[.int .i64 r.1.d, .int .i64 r.1.n, .int .i64 r.1.b] 72) = W2 at *
  have HMP := Lib.hid (hm7.gr (Gr.refl _).drew)
  have HBX2 := Lib.hid (hbx7.gr (Gr.refl _).drew)
  have HSB2 := Lib.hid (hx7.gr (Gr.refl _).drew)
  have HSX2 := Lib.hid (hsx7.gr (Gr.refl _).drew)
  have HO2 := Lib.hid (ho7.trans (Off.gr (Gr.refl _).drew))
  have HNE := Lib.hid (And.intro hn7 hn8)
  have HLO7 := Lib.hid hlo7.drew
  clear hlo7 hb7 hx7 hbx7 hsx7 hm7 ho7 hn7 hn8 e0 e1 e2 e3 e4 hbw2 k0 k1 k2 k3 k4 hl7
  obtain ⟨VS, hVS⟩ : ∃ VS : List (Nat × Nat × Value), VS = [(0, 23, .map (some Bm)), (1, 24, .pointer (some ⟨w.heap.size, 2, none⟩)), (2, 25, .string (bs t.x)), (3, 26, .string (bs nm)), (4, 27, .agg #[.int .i64 r.1.d, .int .i64 r.1.n, .int .i64 r.1.b])] := ⟨_, rfl⟩
  obtain ⟨US, hUS⟩ : ∃ US : List (Nat × Value), US = [(2, .map (some Bm)), (4, .pointer (some ⟨w.heap.size, 0, none⟩)), (7, .pointer (some ⟨b7, 0, none⟩))] := ⟨_, rfl⟩
  refine wp_region_frame (by kernel_rfl) (by kernel_rfl) [23, 24, 25, 26, 27] (by simp) (Det VS US (fun B _ w' => (B 5 = true → B 0 = true ∧ B 1 = true ∧ B 2 = true ∧ B 3 = true ∧ B 4 = true) ∧ (B 5 = false → w' = W2.drew) ∧ (B 5 = true → MapS w' Bm (cnt + countF kid + 1) (updS r.2 nm r.1) ∧ W2.drew.grownBy w' (some Bm)))) ?_ ?_ ?_
  · exact Det.start (by rw [hUS]; simp [slot]) (⟨fun h => (by cases h), fun _ => rfl, fun h => (by cases h)⟩)
  · intro B a' w' i o hfr hF ho hBi hdp
    have hi8 := (Array.getElem?_eq_some_iff.1 ho).1
    simp only [List.size_toArray, List.length_cons, List.length_nil] at hi8
    have hor : i = 0 ∨ i = 1 ∨ i = 2 ∨ i = 3 ∨ i = 4 ∨ i = 5 := by omega
    clear hi8
    rcases hor with rfl | rfl | rfl | rfl | rfl | rfl
    all_goals (
      simp only [List.getElem?_toArray, List.getElem?_cons_zero, List.getElem?_cons_succ, Option.some.injEq] at ho
      subst ho
      rw [if_pos (show Region.wanted _ _ = true from rfl)]
      refine wp_hideK ?_
      intro K hK)
    · have hFW := hF.wd
      have o2 := slot_spell (hF.had (d := 2) (v := .map (some Bm)) (by rw [hUS]; simp))
      have h5 : B 5 = false := by
        cases h5 : B 5 with
        | false => rfl
        | true => exact absurd (hFW.1 h5) (by simp [hBi])
      have hw2 := (hFW.2.1 h5).symm
      subst hw2
      go_simp
      exact hK.out _ _ (close_put hfr (d := 23) (by decide) (by simp) _ (F := fun u => Det VS US (fun B _ w' => (B 5 = true → B 0 = true ∧ B 1 = true ∧ B 2 = true ∧ B 3 = true ∧ B 4 = true) ∧ (B 5 = false → w' = W2.drew) ∧ (B 5 = true → MapS w' Bm (cnt + countF kid + 1) (updS r.2 nm r.1) ∧ W2.drew.grownBy w' (some Bm))) (upB B 0) u _) (hF.step (by rw [hVS]; simp) (by rw [hUS]; simp) (⟨fun h => by simp [upB, h5] at h, fun _ => rfl, fun h => by simp [upB, h5] at h⟩)))
    · have hFW := hF.wd
      have o4 := slot_spell (hF.had (d := 4) (v := .pointer (some ⟨w.heap.size, 0, none⟩)) (by rw [hUS]; simp))
      have h5 : B 5 = false := by
        cases h5 : B 5 with
        | false => rfl
        | true => exact absurd (hFW.1 h5) (by simp [hBi])
      have hw2 := (hFW.2.1 h5).symm
      subst hw2
      go_simp
      exact hK.out _ _ (close_put hfr (d := 24) (by decide) (by simp) _ (F := fun u => Det VS US (fun B _ w' => (B 5 = true → B 0 = true ∧ B 1 = true ∧ B 2 = true ∧ B 3 = true ∧ B 4 = true) ∧ (B 5 = false → w' = W2.drew) ∧ (B 5 = true → MapS w' Bm (cnt + countF kid + 1) (updS r.2 nm r.1) ∧ W2.drew.grownBy w' (some Bm))) (upB B 1) u _) (hF.step (by rw [hVS]; simp) (by rw [hUS]; simp) (⟨fun h => by simp [upB, h5] at h, fun _ => rfl, fun h => by simp [upB, h5] at h⟩)))
    · have hFW := hF.wd
      have hB1 : B 1 = true := hdp ⟨1, .data⟩ (by simp) (by rfl)
      have e1 := slot_spell (hF.get (i := 1) (d := 24) (v := .pointer (some ⟨w.heap.size, 2, none⟩)) (by rw [hVS]; simp) hB1)
      have h5 : B 5 = false := by
        cases h5 : B 5 with
        | false => rfl
        | true => exact absurd (hFW.1 h5) (by simp [hBi])
      have hw2 := (hFW.2.1 h5).symm
      subst hw2
      have yx := HBX2.out.cells.2.2.1
      have yl := lt_of_block HBX2.out
      simp only at yx
      go_simp
      exact hK.out _ _ (close_put hfr (d := 25) (by decide) (by simp) _ (F := fun u => Det VS US (fun B _ w' => (B 5 = true → B 0 = true ∧ B 1 = true ∧ B 2 = true ∧ B 3 = true ∧ B 4 = true) ∧ (B 5 = false → w' = W2.drew) ∧ (B 5 = true → MapS w' Bm (cnt + countF kid + 1) (updS r.2 nm r.1) ∧ W2.drew.grownBy w' (some Bm))) (upB B 2) u _) (hF.step (by rw [hVS]; simp) (by rw [hUS]; simp) (⟨fun h => by simp [upB, h5] at h, fun _ => rfl, fun h => by simp [upB, h5] at h⟩)))
    · have hFW := hF.wd
      have hB2 : B 2 = true := hdp ⟨2, .data⟩ (by simp) (by rfl)
      have e2 := slot_spell (hF.get (i := 2) (d := 25) (v := .string (bs t.x)) (by rw [hVS]; simp) hB2)
      have h5 : B 5 = false := by
        cases h5 : B 5 with
        | false => rfl
        | true => exact absurd (hFW.1 h5) (by simp [hBi])
      have hw2 := (hFW.2.1 h5).symm
      subst hw2
      have yn := HEX.out
      have ys := HSZ.out
      go_simp
      rw [if_pos (show (1 : Int) ≤ (t.x.length : Int) by omega)]
      go_simp
      exact hK.out _ _ (close_put hfr (d := 26) (by decide) (by simp) _ (F := fun u => Det VS US (fun B _ w' => (B 5 = true → B 0 = true ∧ B 1 = true ∧ B 2 = true ∧ B 3 = true ∧ B 4 = true) ∧ (B 5 = false → w' = W2.drew) ∧ (B 5 = true → MapS w' Bm (cnt + countF kid + 1) (updS r.2 nm r.1) ∧ W2.drew.grownBy w' (some Bm))) (upB B 3) u _) (hF.step (by rw [hVS]; simp) (by rw [hUS]; simp) (⟨fun h => by simp [upB, h5] at h, fun _ => rfl, fun h => by simp [upB, h5] at h⟩)))
    · have hFW := hF.wd
      have o7 := slot_spell (hF.had (d := 7) (v := .pointer (some ⟨b7, 0, none⟩)) (by rw [hUS]; simp))
      have h5 : B 5 = false := by
        cases h5 : B 5 with
        | false => rfl
        | true => exact absurd (hFW.1 h5) (by simp [hBi])
      have hw2 := (hFW.2.1 h5).symm
      subst hw2
      obtain ⟨⟨y0, y1, y2⟩, _⟩ := HSB2.out.cells
      have yl := lt_of_block HSB2.out
      go_simp
      exact hK.out _ _ (close_put hfr (d := 27) (by decide) (by simp) _ (F := fun u => Det VS US (fun B _ w' => (B 5 = true → B 0 = true ∧ B 1 = true ∧ B 2 = true ∧ B 3 = true ∧ B 4 = true) ∧ (B 5 = false → w' = W2.drew) ∧ (B 5 = true → MapS w' Bm (cnt + countF kid + 1) (updS r.2 nm r.1) ∧ W2.drew.grownBy w' (some Bm))) (upB B 4) u _) (hF.step (by rw [hVS]; simp) (by rw [hUS]; simp) (⟨fun h => by simp [upB, h5] at h, fun _ => rfl, fun h => by simp [upB, h5] at h⟩)))
    · have hFW := hF.wd
      have hB0 : B 0 = true := hdp ⟨0, .data⟩ (by simp) (by rfl)
      have e0 := slot_spell (hF.get (i := 0) (d := 23) (v := .map (some Bm)) (by rw [hVS]; simp) hB0)
      have hB3 : B 3 = true := hdp ⟨3, .data⟩ (by simp) (by rfl)
      have e3 := slot_spell (hF.get (i := 3) (d := 26) (v := .string (bs nm)) (by rw [hVS]; simp) hB3)
      have hB4 : B 4 = true := hdp ⟨4, .data⟩ (by simp) (by rfl)
      have e4 := slot_spell (hF.get (i := 4) (d := 27) (v := .agg #[.int .i64 r.1.d, .int .i64 r.1.n, .int .i64 r.1.b]) (by rw [hVS]; simp) hB4)
      have hw2 := (hFW.2.1 hBi).symm
      subst hw2
      obtain ⟨w9, hrun, hm9, hg9⟩ := HMP.out.put Try.underlying74 hcm HNL.out r.1
      have hrun2 : (Instr.mapUpdate 74 (.map (some Bm)) (.string (bs nm)) (.agg #[.int .i64 r.1.d, .int .i64 r.1.n, .int .i64 r.1.b])).run Try.prog W2.drew = .ok () w9 := hrun
      have q0 : B 0 = true := by first | assumption | exact hdp ⟨0, .phase⟩ (by simp) (by rfl) | exact hdp ⟨0, .chain⟩ (by simp) (by rfl)
      have q1 : B 1 = true := by first | assumption | exact hdp ⟨1, .phase⟩ (by simp) (by rfl) | exact hdp ⟨1, .chain⟩ (by simp) (by rfl)
      have q2 : B 2 = true := by first | assumption | exact hdp ⟨2, .phase⟩ (by simp) (by rfl) | exact hdp ⟨2, .chain⟩ (by simp) (by rfl)
      have q3 : B 3 = true := by first | assumption | exact hdp ⟨3, .phase⟩ (by simp) (by rfl) | exact hdp ⟨3, .chain⟩ (by simp) (by rfl)
      have q4 : B 4 = true := by first | assumption | exact hdp ⟨4, .phase⟩ (by simp) (by rfl) | exact hdp ⟨4, .chain⟩ (by simp) (by rfl)
      go_simp
      exact hK.out _ _ (close_none hfr undef (F := fun u => Det VS US (fun B _ w' => (B 5 = true → B 0 = true ∧ B 1 = true ∧ B 2 = true ∧ B 3 = true ∧ B 4 = true) ∧ (B 5 = false → w' = W2.drew) ∧ (B 5 = true → MapS w' Bm (cnt + countF kid + 1) (updS r.2 nm r.1) ∧ W2.drew.grownBy w' (some Bm))) (upB B 5) u _) (hF.none (by rw [hVS]; simp) (⟨fun _ => by simp [upB, q0, q1, q2, q3, q4], fun h => by simp [upB] at h, fun _ => ⟨hm9, hg9⟩⟩)))
  · intro B u w' hall hF
    have z0 := hF.get (i := 0) (d := 23) (v := .map (some Bm)) (by rw [hVS]; simp) (hall 0 (by simp))
    have z1 := hF.get (i := 1) (d := 24) (v := .pointer (some ⟨w.heap.size, 2, none⟩)) (by rw [hVS]; simp) (hall 1 (by simp))
    have z2 := hF.get (i := 2) (d := 25) (v := .string (bs t.x)) (by rw [hVS]; simp) (hall 2 (by simp))
    have z3 := hF.get (i := 3) (d := 26) (v := .string (bs nm)) (by rw [hVS]; simp) (hall 3 (by simp))
    have z4 := hF.get (i := 4) (d := 27) (v := .agg #[.int .i64 r.1.d, .int .i64 r.1.n, .int .i64 r.1.b]) (by rw [hVS]; simp) (hall 4 (by simp))
    have hFW := hF.wd
    clear hF hVS hUS
    simp only [List.foldl_cons, List.foldl_nil, Act.put, List.setIfInBounds_toArray, List.set_cons_zero, List.set_cons_succ, z0, z1, z2, z3, z4]
    clear z0 z1 z2 z3 z4
    obtain ⟨hm9, hg9⟩ := hFW.2.2 (hall 5 (by simp))
    clear hFW hall
    have hof9 : Off [Bm] W2.drew w' := (Off.refl _ _).grown hg9
    have hsb9 := HSB2.out.off hof9 HNE.out.1
    have hsx9 := HSX2.out.off hof9 (show w.heap.size + 1 ≠ Bm by omega)
    obtain ⟨⟨y0, y1, y2⟩, _⟩ := hsb9.cells
    have yl := lt_of_block hsb9
    obtain ⟨⟨x0, x1, x2⟩, xf0, xf1, xf2⟩ := hsx9.cells
    have xl := lt_of_block hsx9
    have HSX9 := Lib.hid hsx9
    have HM9 := Lib.hid hm9
    have HO9 := Lib.hid (HO2.out.trans hof9)
    have HLO9 := Lib.hid (HLO7.out.grown hg9 (Nat.le_of_lt HMP.out.lt) (fun k hk => by cases hk; exact Nat.le_refl _))
    clear hm9 hg9 hof9 hsb9 hsx9
    go_wp2_with fail
    have hof : Off [w.heap.size + 1] w' (((w'.setCell ⟨w.heap.size + 1, 0, none⟩ (.int .i64 r.1.d)).setCell ⟨w.heap.size + 1, 1, none⟩ (.int .i64 r.1.n)).setCell ⟨w.heap.size + 1, 2, none⟩ (.int .i64 r.1.b)) := (((Off.refl _ _).set (by simp) _).set (by simp) _).set (by simp) _
    refine bodyPost_ret (results_cell_row (fn := Try.f37) rfl _ _ _ _ _ _ _ rfl (HSX9.out.set r.1.d r.1.n r.1.b) Try.underlying72 rfl (by kernel_rfl)) rfl ⟨rfl, ⟨Nat.le_trans HO9.out.1 hof.1, fun i hi hn => (hof.2 i (Nat.lt_of_lt_of_le hi HO9.out.1) (by simp; omega)).trans (HO9.out.2 i hi hn)⟩, (HM9.out.same (hof.2 Bm HM9.out.lt (by simp; omega))).mono (by omega), ((HLO9.out.setCell (by simp; omega) _).setCell (by simp; omega) _).setCell (by simp; omega) _⟩
theorem wrap64_three (a b c : Nat) : wrap64 ((a + b + c : Nat) : Int) = wrap64 (wrap64 ((a : Int) + (b : Int)) + (c : Int)) := by unfold wrap64; omega
structure MRel (Bm cnt : Nat) (ks : List NT) (q : Sz × (List UInt8 → Sz)) (w : World) (p j : Nat) (D : List UInt8 → Sz) (s : Sz) (wr : World) : Prop where
  res : msL (ks.drop j) D s = q
  box : SBox wr (p + 1 + 1) s
  box0 : SBox wr (p + 1) Sz.zero
  off : Off [Bm] w wr
  map : MapS wr Bm (cnt + countL (ks.take j)) D
  low : Below Bm w wr
set_option maxRecDepth 100000 in
set_option maxHeartbeats 4000000 in
theorem measure_node (Bv Bm m cnt : Nat) (D : List UInt8 → Sz) (t : NT) (A : Option Addr) (n c : Nat) (w : World) (HM : Hid (MapS w Bm cnt D)) (HXL : Hid (t.x.length ≤ maxLen)) (hk9 : t.k ≠ 9) (hk10 : t.k ≠ 10) (hn : n = t.ks.length) (hn63 : n ≤ maxLen) (hcc : cnt + countL t.ks ≤ 1000000) (hmk : markedL t.ks = true) (HK0 : Hid (Kids (fun b => b ≠ Bm) m w A t.ks)) (HI : Hid (∀ (v : ND) (t : NT) (cnt : Nat) (D : List UInt8 → Sz) (w : World), NRep (fun b => b ≠ Bm) m w v t → markedB t = true → MapS w Bm cnt D → cnt + countF t ≤ 1000000 → Calls Try.prog 37 #[.pointer (some ⟨Bv, 0, none⟩), .agg #[.int .i64 v.k, .string (bs v.l), .string (bs v.x), .slice v.A v.n v.c, .string (bs v.e)], .map (some Bm)] w (MPost Bm (cnt + countF t) (msF t D) w))) :
    Calls Try.prog 37 #[.pointer (some ⟨Bv, 0, none⟩), .agg #[.int .i64 t.k, .string (bs t.l), .string (bs t.x), .slice A n c, .string (bs t.e)], .map (some Bm)] w (MPost Bm (cnt + countL t.ks) (msL t.ks D ⟨1, 1, wrap64 ((t.l.length + t.x.length + t.e.length : Nat) : Int)⟩) w) := by
  have hBml : Bm < w.heap.size := HM.out.lt
  generalize hq : msL t.ks D ⟨1, 1, wrap64 ((t.l.length + t.x.length + t.e.length : Nat) : Int)⟩ = q
  have HQ := Lib.hid hq
  have HMK := Lib.hid hmk
  have HN := Lib.hid hn
  have HCC := Lib.hid hcc
  have hx := HXL.out
  unfold maxLen at hn63 hx
  have hwr : wrap64 ((t.l.length + t.x.length + t.e.length : Nat) : Int) = wrap64 (wrap64 ((t.l.length : Int) + (t.x.length : Int)) + (t.e.length : Int)) := wrap64_three _ _ _
  have HWR := Lib.hid hwr
  have r9 : (t.k == 9) = false := by simp [hk9]
  have r10 : (t.k == 10) = false := by simp [hk10]
  have ll : (bs t.l).size = t.l.length := rfl
  have lx : (bs t.x).size = t.x.length := rfl
  have le : (bs t.e).size = t.e.length := rfl
  clear hq hmk hn hcc hk9 hk10 hwr
  go_enter Try.func37, Try.ntmps37
  go_wp2_with fail
  obtain ⟨p, hp⟩ : ∃ p, p = w.heap.size := ⟨_, rfl⟩
  obtain ⟨W3, hW3⟩ : ∃ W3, W3 = ((w.alloc (.cells #[.int .i64 t.k, .string (bs t.l), .string (bs t.x), .slice A n c, .string (bs t.e)] 24)).alloc (.cells #[.int .i64 0, .int .i64 0, .int .i64 0] 72)).alloc (.cells #[.int .i64 1, .int .i64 1, .int .i64 (wrap64 (wrap64 ((t.l.length : Int) + (t.x.length : Int)) + (t.e.length : Int)))] 72) := ⟨_, rfl⟩
  rw [← hp]
  rw [← hW3]
  have hg3 : Gr w W3 := by rw [hW3]; exact (((Gr.refl w).alloc _).alloc _).alloc _
  have hb0 : SBox W3 (p + 1) Sz.zero := by
    have h := heap_alloc_new (w.alloc (.cells #[.int .i64 t.k, .string (bs t.l), .string (bs t.x), .slice A n c, .string (bs t.e)] 24)) (.cells #[.int .i64 0, .int .i64 0, .int .i64 0] 72)
    rw [show (w.alloc (.cells #[.int .i64 t.k, .string (bs t.l), .string (bs t.x), .slice A n c, .string (bs t.e)] 24)).heap.size = p + 1 by simp [hp]] at h
    rw [hW3]
    exact (show SBox _ (p + 1) Sz.zero from h).gr ((Gr.refl _).alloc _)
  have hb3 : SBox W3 (p + 1 + 1) ⟨1, 1, wrap64 ((t.l.length + t.x.length + t.e.length : Nat) : Int)⟩ := by
    have h := heap_alloc_new ((w.alloc (.cells #[.int .i64 t.k, .string (bs t.l), .string (bs t.x), .slice A n c, .string (bs t.e)] 24)).alloc (.cells #[.int .i64 0, .int .i64 0, .int .i64 0] 72)) (.cells #[.int .i64 1, .int .i64 1, .int .i64 (wrap64 (wrap64 ((t.l.length : Int) + (t.x.length : Int)) + (t.e.length : Int)))] 72)
    rw [show ((w.alloc (.cells #[.int .i64 t.k, .string (bs t.l), .string (bs t.x), .slice A n c, .string (bs t.e)] 24)).alloc (.cells #[.int .i64 0, .int .i64 0, .int .i64 0] 72)).heap.size = p + 1 + 1 by simp [hp]] at h
    rw [HWR.out, hW3]
    exact h
  have HG3 := Lib.hid hg3
  have HB0 := Lib.hid hb0
  have HB3 := Lib.hid hb3
  have hbp : Bm < p := by omega
  have HP := Lib.hid hp
  clear hW3 hg3 hb0 hb3 hp hBml
  go_loopw [51] (fun iv wr => ∃ (j : Nat) (D' : List UInt8 → Sz) (s : Sz), j ≤ n ∧ iv = .int .i64 j ∧ MRel Bm cnt t.ks q w p j D' s wr) (fun iv _ => n - (intOf iv).toNat)
  case atStart => exact ⟨0, D, _, Nat.zero_le _, rfl, ⟨HQ.out, HB3.out, HB0.out, Off.gr HG3.out, (HM.out.gr HG3.out).mono (Nat.le_add_right _ _), Below.mono HG3.out (by have := HP.out; omega)⟩⟩
  case round =>
    obtain ⟨j, D', s, hj, rfl, hv⟩ := hrel
    have HV := Lib.hid hv
    clear hv
    by_cases hlt : j < n
    · obtain ⟨y, hy⟩ : ∃ y, t.ks[j]? = some y := ⟨t.ks[j]'(by have := HN.out; omega), List.getElem?_eq_getElem _⟩
      obtain ⟨bk, ok, d, hA, hbn, hbk, hce, hre⟩ := HK0.out j y hy
      subst hA
      obtain ⟨e0, e1, e2, e3, e4⟩ := hce.keep HV.out.off.ne hbn hbk
      have hbw : bk < wr.heap.size := Nat.lt_of_lt_of_le hbk HV.out.off.1
      have hlt1 : (j : Int) < (n : Int) := by omega
      have hga : Gr wr (wr.alloc (.cells #[.int .i64 d.k, .string (bs d.l), .string (bs d.x), .slice d.A d.n d.c, .string (bs d.e)] 24)) := (Gr.refl wr).alloc _
      obtain ⟨r, hr⟩ : ∃ r, msF y D' = r := ⟨_, rfl⟩
      have hct := countL_take t.ks hy
      have hcl := countL_get _ _ _ hy
      have hcall := HI.out d y (cnt + countL (t.ks.take j)) D' (wr.alloc (.cells #[.int .i64 d.k, .string (bs d.l), .string (bs d.x), .slice d.A d.n d.c, .string (bs d.e)] 24)) ((NRep.keep HV.out.off.ne m d y hre).gr hga) (markedL_get _ _ _ HMK.out hy) (HV.out.map.gr hga) (by have := HCC.out; omega)
      have hvd := msL_drop hy D' s
      rw [hr] at hcall hvd
      rw [Nat.add_assoc, ← hct] at hcall
      have HCALL := Lib.hid hcall
      have HV2 : Hid (msL (t.ks.drop (j + 1)) r.2 (s.join r.1) = q) := Lib.hid (by rw [← hvd]; exact HV.out.res)
      have HGA := Lib.hid hga
      clear hy hce hre hga hr hct hcl hcall hvd
      go_wp2_with (go_at_call 37; refine HCALL.out.mono ?_; rintro e w2 ⟨rfl, hof2, hm2, hlo2⟩; (have hsb2 := (HV.out.box.gr HGA.out).off hof2 (show p + 1 + 1 ≠ Bm by omega)); (obtain ⟨⟨y0, y1, y2⟩, yf0, yf1, yf2⟩ := hsb2.cells); (have yl := lt_of_block hsb2); (have HSB2 := Lib.hid hsb2); (have HOF2 := Lib.hid hof2); (have HM2 := Lib.hid hm2); (have HLO2 := Lib.hid hlo2); clear hof2 hm2 hsb2 hlo2)
      have hof9 : Off [p + 1 + 1] w2 ((((w2.setCell ⟨p + 1 + 1, 0, none⟩ (.int .i64 (if s.d < wrap64 (r.1.d + 1) then wrap64 (r.1.d + 1) else s.d))).setCell ⟨p + 1 + 1, 1, none⟩ (.int .i64 (wrap64 (s.n + r.1.n)))).setCell ⟨p + 1 + 1, 2, none⟩ (.int .i64 (wrap64 (s.b + r.1.b)))).alloc (.cells #[.int .i64 r.1.d, .int .i64 r.1.n, .int .i64 r.1.b] 72)) := ((((Off.refl _ _).set (by simp) _).set (by simp) _).set (by simp) _).trans (Off.gr ((Gr.refl _).alloc _))
      have HREL : Hid (MRel Bm cnt t.ks q w p (j + 1) r.2 (s.join r.1) ((((w2.setCell ⟨p + 1 + 1, 0, none⟩ (.int .i64 (if s.d < wrap64 (r.1.d + 1) then wrap64 (r.1.d + 1) else s.d))).setCell ⟨p + 1 + 1, 1, none⟩ (.int .i64 (wrap64 (s.n + r.1.n)))).setCell ⟨p + 1 + 1, 2, none⟩ (.int .i64 (wrap64 (s.b + r.1.b)))).alloc (.cells #[.int .i64 r.1.d, .int .i64 r.1.n, .int .i64 r.1.b] 72))) := Lib.hid (by
        have h1 : Off [Bm] w w2 := (HV.out.off.trans (Off.gr HGA.out)).trans HOF2.out
        have hp := HP.out
        refine ⟨HV2.out, (HSB2.out.set _ _ _).gr ((Gr.refl _).alloc _), ?_, ⟨Nat.le_trans h1.1 hof9.1, fun i hi hn => (hof9.2 i (Nat.lt_of_lt_of_le hi h1.1) (by simp; omega)).trans (h1.2 i hi hn)⟩, HM2.out.same (hof9.2 Bm HM2.out.lt (by simp; omega)), (((((HV.out.low.trans (Below.mono HGA.out (Nat.le_of_lt HV.out.map.lt))).trans HLO2.out).setCell (by simp; omega) _).setCell (by simp; omega) _).setCell (by simp; omega) _).alloc (by have := HM2.out.lt; simp; omega) _⟩
        have h2 := (HV.out.box0.gr HGA.out).off HOF2.out (show p + 1 ≠ Bm by omega)
        exact (hof9.2 _ (lt_of_block h2) (by simp)).trans h2)
      clear hof9 y0 y1 y2 yf0 yf1 yf2 yl e0 e1 e2 e3 e4 hbw
      go_roundw
      case rel => exact ⟨j + 1, _, _, by omega, by go_num, HREL.out⟩
      case measure => simp [intOf] <;> omega
    · have hd : t.ks.drop j = [] := List.drop_eq_nil_of_le (by rw [← HN.out]; omega)
      have htk : t.ks.take j = t.ks := List.take_of_length_le (by have := HN.out; omega)
      have hqs : q = (s, D') := by rw [← HV.out.res, hd, msL]
      have HQS := Lib.hid hqs
      have HTK := Lib.hid htk
      obtain ⟨⟨y0, y1, y2⟩, _⟩ := HV.out.box.cells
      have yl := lt_of_block HV.out.box
      obtain ⟨⟨x0, x1, x2⟩, xf0, xf1, xf2⟩ := HV.out.box0.cells
      have xl := lt_of_block HV.out.box0
      clear hd htk hqs
      go_wp2_with fail
      have hof : Off [p + 1] wr (((wr.setCell ⟨p + 1, 0, none⟩ (.int .i64 s.d)).setCell ⟨p + 1, 1, none⟩ (.int .i64 s.n)).setCell ⟨p + 1, 2, none⟩ (.int .i64 s.b)) := (((Off.refl _ _).set (by simp) _).set (by simp) _).set (by simp) _
      have hp := HP.out
      refine bodyPost_ret (results_cell_row (fn := Try.f37) rfl _ _ _ _ _ _ _ rfl (HV.out.box0.set s.d s.n s.b) Try.underlying72 rfl (by kernel_rfl)) rfl ⟨by rw [HQS.out], ⟨Nat.le_trans HV.out.off.1 hof.1, fun i hi hn => (hof.2 i (Nat.lt_of_lt_of_le hi HV.out.off.1) (by simp; omega)).trans (HV.out.off.2 i hi hn)⟩, by
        have h1 := HV.out.map.same (hof.2 Bm HV.out.map.lt (by simp; omega))
        rw [HTK.out] at h1
        rw [HQS.out]
        exact h1, ((HV.out.low.setCell (by simp; omega) _).setCell (by simp; omega) _).setCell (by simp; omega) _⟩
theorem measureP_any (Bv Bm : Nat) : ∀ (m : Nat), ∀ (v : ND) (t : NT) (cnt : Nat) (D : List UInt8 → Sz) (w : World), NRep (fun b => b ≠ Bm) m w v t → markedB t = true → MapS w Bm cnt D → cnt + countF t ≤ 1000000 → Calls Try.prog 37 #[.pointer (some ⟨Bv, 0, none⟩), .agg #[.int .i64 v.k, .string (bs v.l), .string (bs v.x), .slice v.A v.n v.c, .string (bs v.e)], .map (some Bm)] w (MPost Bm (cnt + countF t) (msF t D) w) := by
  intro m
  induction m with
  | zero => intro v t cnt D w h; exact h.elim
  | succ m ih =>
    intro v t cnt D w hr hmk hm hcc
    obtain ⟨A, n, c, rfl, p1, p2, p3, p4, p5, p6, p7, p8, p9⟩ := hr.open5
    have hct := countF_eq t
    have hmb := marked_bad hmk
    dsimp only
    rw [msF_eq]
    have HM := Lib.hid hm
    have HXL := Lib.hid p6
    by_cases hk9 : t.k = 9
    · rw [if_pos hk9]
      obtain ⟨hnm, hl1⟩ := marked_anchor hmk hk9
      have hx2 := (named_len hnm).1
      obtain ⟨kid, hks⟩ : ∃ kid, t.ks = [kid] := by
        match t.ks, hl1 with
        | [a], _ => exact ⟨a, rfl⟩
      rw [hks] at p9 p1 hct ⊢
      obtain ⟨bk, ok, d, hA, hbn, hbk, hce, hre⟩ := p9 0 kid rfl
      subst hA
      simp only [List.length_cons, List.length_nil, Nat.zero_add] at p1
      subst p1
      have hck : countF t = 1 + countF kid := by rw [hct, countL, countL, Nat.add_zero]
      have hmk2 := marked_kids hmk (i := 0) (y := kid) (by rw [hks]; rfl)
      rw [hck, ← Nat.add_assoc]
      exact measure_anchor Bv Bm m cnt D t bk ok c w HM HXL hk9 hx2 kid (by omega) hmk2 d hbn hbk (by simpa using hce) (Lib.hid hre) (Lib.hid ih)
    · rw [if_neg hk9]
      by_cases hk10 : t.k = 10
      · rw [if_pos hk10]
        have hx2 := (named_len (marked_alias hmk hk10)).1
        exact (measure_alias Bv Bm m cnt D t A n c w HM HXL hk10 hx2).mono (fun e w' h => h.mono (by omega))
      · rw [if_neg hk10]
        exact (measure_node Bv Bm m cnt D t A n c w HM HXL hk9 hk10 p1 (Nat.le_trans p2 p3) (by omega) hmb.2 (Lib.hid p9) (Lib.hid ih)).mono (fun e w' h => h.mono (by omega))
end Go.Proofs.Ytbfnmgiccbdglaa
