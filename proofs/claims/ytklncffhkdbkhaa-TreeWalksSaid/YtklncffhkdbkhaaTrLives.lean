/- lives of the laws about trees, walked. -/
import Derived.Test.YtklncffhkdbkhaaTrFind
import Derived.Laws.StructEq
namespace Go.Proofs.Ytklncffhkdbkhaa
open Go.ChangeShapes Go.WideShapes Go.ChangeAt Go.RowKit

def kidT : NT := .mk 2 [32] [49] [] []
def rootT : NT := .mk 3 [] [91] [kidT] [93]
theorem root_rep {W : World} {b : Nat} (h : W.heap[b]? = some (.cells #[.int .i64 2, .string (bs [32]), .string (bs [49]), .slice none 0 0, .string (bs [])] 24 (0, 0))) : NRep anyB 2 W ⟨3, [], [91], some ⟨b, 0, none⟩, 1, 1, [93]⟩ rootT := by
  refine ⟨rfl, rfl, rfl, rfl, rfl, Nat.le_refl _, (by show (1 : Nat) ≤ maxLen; unfold maxLen; omega), by decide, (by unfold maxLen; simp), (by unfold maxLen; simp), (by unfold maxLen; simp), (fun h => by cases h), fun i y hy => ?_⟩
  have hi : i = 0 := by have := (List.getElem?_eq_some_iff.1 hy).1; simp at this; omega
  subst hi
  simp only [List.getElem?_cons_zero, Option.some.injEq] at hy
  subst hy
  refine ⟨b, 0, ⟨2, [32], [49], none, 0, 0, []⟩, rfl, trivial, lt_of_block h, ⟨cell_of_cells h 0, cell_of_cells h 1, cell_of_cells h 2, cell_of_cells h 3, cell_of_cells h 4⟩, rfl, rfl, rfl, rfl, rfl, Nat.le_refl _, by decide, by decide, by decide, by decide, by decide, fun _ => rfl, fun i y hy => ?_⟩
  simp at hy
theorem ints_one {W : World} {b : Nat} {z : Int} (h : W.heap[b]? = some (.cells #[.int .i64 z] 3 (0, 0))) (hz : (Lit.int .i64 z).wf = true) : IntsAt .i64 W (some ⟨b, 0, none⟩) 1 [z] := by
  refine ⟨rfl, (fun u hu => by rw [List.mem_singleton] at hu; rw [hu]; exact hz), fun _ => ⟨b, 0, rfl, lt_of_block h, fun i hi => ?_⟩⟩
  obtain rfl : i = 0 := by omega
  exact cell_of_cells h 0
set_option maxRecDepth 100000 in
set_option maxHeartbeats 4000000 in
theorem livesP_any (w : World) : Calls Try.prog 11 #[] w (RB true w) := by
  go_enter Try.func11, Try.ntmps11
  go_wp2_with fail
  have hA : (((w.alloc (.cells #[.int .i64 2, .string (bs [32]), .string (bs [49]), .slice none 0 0, .string (bs [])] 24)).alloc (.cells #[.int .i64 3, .string (bs []), .string (bs [91]), .slice (some ⟨w.heap.size, 0, none⟩) 1 1, .string (bs [93])] 24)).alloc (.cells #[.int .i64 0] 3)).heap[w.heap.size]? = some (.cells #[.int .i64 2, .string (bs [32]), .string (bs [49]), .slice none 0 0, .string (bs [])] 24 (0, 0)) := (heapOld (by simp; omega)).trans ((heapOld (by simp)).trans (heap_alloc_new w _))
  have hi0 : (((w.alloc (.cells #[.int .i64 2, .string (bs [32]), .string (bs [49]), .slice none 0 0, .string (bs [])] 24)).alloc (.cells #[.int .i64 3, .string (bs []), .string (bs [91]), .slice (some ⟨w.heap.size, 0, none⟩) 1 1, .string (bs [93])] 24)).alloc (.cells #[.int .i64 0] 3)).heap[w.heap.size + 1 + 1]? = some (.cells #[.int .i64 0] 3 (0, 0)) := by
    have h := heap_alloc_new ((w.alloc (.cells #[.int .i64 2, .string (bs [32]), .string (bs [49]), .slice none 0 0, .string (bs [])] 24)).alloc (.cells #[.int .i64 3, .string (bs []), .string (bs [91]), .slice (some ⟨w.heap.size, 0, none⟩) 1 1, .string (bs [93])] 24)) (.cells #[.int .i64 0] 3)
    have hz : ((w.alloc (.cells #[.int .i64 2, .string (bs [32]), .string (bs [49]), .slice none 0 0, .string (bs [])] 24)).alloc (.cells #[.int .i64 3, .string (bs []), .string (bs [91]), .slice (some ⟨w.heap.size, 0, none⟩) 1 1, .string (bs [93])] 24)).heap.size = w.heap.size + 1 + 1 := by simp
    rwa [hz] at h
  have hN0 : NBox (((w.alloc (.cells #[.int .i64 2, .string (bs [32]), .string (bs [49]), .slice none 0 0, .string (bs [])] 24)).alloc (.cells #[.int .i64 3, .string (bs []), .string (bs [91]), .slice (some ⟨w.heap.size, 0, none⟩) 1 1, .string (bs [93])] 24)).alloc (.cells #[.int .i64 0] 3)) (w.heap.size + 1) ⟨3, [], [91], some ⟨w.heap.size, 0, none⟩, 1, 1, [93]⟩ := by
    have h := heap_alloc_new (w.alloc (.cells #[.int .i64 2, .string (bs [32]), .string (bs [49]), .slice none 0 0, .string (bs [])] 24)) (.cells #[.int .i64 3, .string (bs []), .string (bs [91]), .slice (some ⟨w.heap.size, 0, none⟩) 1 1, .string (bs [93])] 24)
    have hz : (w.alloc (.cells #[.int .i64 2, .string (bs [32]), .string (bs [49]), .slice none 0 0, .string (bs [])] 24)).heap.size = w.heap.size + 1 := by simp
    rw [hz] at h
    exact (heapOld (by simp)).trans h
  have HR := Lib.hid (root_rep hA)
  refine (innerP_any 2 ⟨3, [], [91], some ⟨w.heap.size, 0, none⟩, 1, 1, [93]⟩ rootT (some ⟨w.heap.size + 1 + 1, 0, none⟩) 1 1 [0] _ HR.out (ints_one hi0 (by decide)) (by omega) (by decide)).mono ?_
  have hv : InnerVal (spanF rootT [0] 0) = .tuple #[.agg #[.int .i64 2, .int .i64 3], .int .i64 0] := rfl
  rw [hv]
  clear hA hi0 hv
  rintro e w1 ⟨rfl, hb1⟩
  have hs1 := Below.size hb1
  simp at hs1
  have hN1 := hN0.gr hb1
  obtain ⟨r0, r1, r2, r3, r4⟩ := hN1.cells
  simp only at r0 r1 r2 r3 r4
  have HR1 := Lib.hid (HR.out.gr hb1)
  have hg1 : Gr w w1 := (((Gr.refl w).alloc _).alloc _).alloc _ |>.trans hb1
  have hl1 : w.heap.size + 1 < w1.heap.size := by omega
  clear HR hb1 hs1 hN0
  go_wp2_with fail
  refine (findP_in 2 ⟨3, [], [91], some ⟨w.heap.size, 0, none⟩, 1, 1, [93]⟩ rootT 1 _ (HR1.out.gr ((Gr.refl _).alloc _)) (by decide) (by decide) (by decide) (by decide)).mono ?_
  have hv : findF rootT ((1 : Nat) : Int) = [0] := rfl
  rw [hv]
  clear hv
  rintro e w2 ⟨A, n, c, rfl, hnc, hcm, hia, hb2⟩
  obtain rfl : n = 1 := hia.1.symm
  obtain ⟨bz, oz, rfl, hbz, hcz⟩ := hia.2.2 (by omega)
  have hz0 : w2.cell? ⟨bz, oz, none⟩ = some (.int .i64 0) := hcz 0 (by omega)
  have hs2 := Below.size hb2
  simp at hs2
  have hS2 : SBox w2 w1.heap.size 2 3 := SBox.gr (heap_alloc_new w1 _) hb2
  have u0 := cell_of_cells hS2 0
  have u1 := cell_of_cells hS2 1
  simp only [List.getElem?_toArray, List.getElem?_cons_zero, List.getElem?_cons_succ] at u0 u1
  have hN2 := hN1.gr (((Gr.refl w1).alloc _).trans hb2)
  obtain ⟨p0, p1, p2, p3, p4⟩ := hN2.cells
  simp only at p0 p1 p2 p3 p4
  have HR2 := Lib.hid (HR1.out.gr (((Gr.refl w1).alloc _).trans hb2))
  have hg2 : Gr w w2 := hg1.trans (((Gr.refl w1).alloc _).trans hb2)
  clear hia hcz hb2 hS2 hN2 hs2 r0 r1 r2 r3 r4 HR1 hg1 hN1
  unfold maxLen at hcm
  go_wp2_with fail
  refine (printP_any 2 ⟨3, [], [91], some ⟨w.heap.size, 0, none⟩, 1, 1, [93]⟩ rootT _ HR2.out (by decide)).mono ?_
  have hv : printF rootT = [91, 32, 49, 93] := rfl
  rw [hv]
  clear hv
  rintro e w3 ⟨rfl, hb3⟩
  have v0 := hb3.cell u0
  have v1 := hb3.cell u1
  have vz := hb3.cell hz0
  have hbz3 := Gr.lt hb3 hbz
  have hl3 : w1.heap.size < w3.heap.size := Gr.lt hb3 (World.block_lt_of_cell? w2 _ u0)
  have hg3 := hg2.trans hb3
  clear u0 u1 hz0 hbz p0 p1 p2 p3 p4 HR2 hg2 hb3
  have hsl : (bs [91, 32, 49, 93]).toList = [91, 32, 49, 93] := bs_list _
  go_wp2_with fail
  go_ret
  exact ⟨rfl, by with_reducible exact hg3⟩
end Go.Proofs.Ytklncffhkdbkhaa
