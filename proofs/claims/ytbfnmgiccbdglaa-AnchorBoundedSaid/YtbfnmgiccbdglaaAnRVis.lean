/- visit of the reference, walked: the short cases. -/
import Derived.Test.YtbfnmgiccbdglaaAnRAlias
namespace Go.Proofs.Ytbfnmgiccbdglaa
open Go.ChangeShapes Go.WideShapes Go.ChangeAt Go.RowKit

/-- P but for the boxes of a call. -/
def Pn (P : Nat → Prop) (p : Nat) : Nat → Prop := fun b => P b ∧ b ∉ [p, p + 1, p + 1 + 1, p + 1 + 1 + 1]
theorem Pn.of {P : Nat → Prop} {p b : Nat} (h : P b) (hb : b < p) : Pn P p b := ⟨h, by simp; omega⟩
theorem Pn.on {P : Nat → Prop} {p : Nat} {W w : World} (h : Off [p, p + 1, p + 1 + 1, p + 1 + 1 + 1] W w) : SameOn (Pn P p) W w := h.on (fun _b hb => hb.2)
set_option maxRecDepth 100000 in
set_option maxHeartbeats 4000000 in
theorem visitR_err {P : Nat → Prop} (g : Bool) (L : U5) (t : NT) (v : ND) (st : RSt) (a : SV) (w : World) (hr : NR P w v t) (hs : SRep P w st a) (he : st.err ≠ 0) : Calls Try.prog 35 #[.agg #[.int .i64 L.d, .int .i64 L.n, .int .i64 L.b, .int .i64 L.a, .int .i64 L.x, .slice a.A1 a.n1 a.c1, .slice a.A2 a.n2 a.c2, .int .i64 st.u.d, .int .i64 st.u.n, .int .i64 st.u.b, .int .i64 st.u.a, .int .i64 st.u.x, .int .i64 st.err], .agg #[.int .i64 v.k, .string (bs v.l), .string (bs v.x), .slice v.A v.n v.c, .string (bs v.e)], .bool g] w (VRes P L (visR g L t st) w) := by
  generalize hq : visR g L t st = q
  have HS := Lib.hid hs
  have HR := Lib.hid hr
  have htx := hr.text
  rw [visR_eq, if_pos he] at hq
  have HQ := Lib.hid hq
  have r1 : (st.err != 0) = true := by simp [he]
  clear hq hs hr htx he
  go_enter Try.func35, Try.ntmps35
  go_wp2_with fail
  obtain ⟨p, hp⟩ : ∃ p, p = w.heap.size := ⟨_, rfl⟩
  obtain ⟨W1, hW1⟩ : ∃ W1, W1 = ((((w.alloc (.cells #[.int .i64 L.d, .int .i64 L.n, .int .i64 L.b, .int .i64 L.a, .int .i64 L.x, .slice a.A1 a.n1 a.c1, .slice a.A2 a.n2 a.c2, .int .i64 st.u.d, .int .i64 st.u.n, .int .i64 st.u.b, .int .i64 st.u.a, .int .i64 st.u.x, .int .i64 st.err] 68)).alloc (.cells #[.int .i64 v.k, .string (bs v.l), .string (bs v.x), .slice v.A v.n v.c, .string (bs v.e)] 24)).alloc (.cells #[.int .i64 0, .int .i64 0, .int .i64 0, .int .i64 0, .int .i64 0, .slice none 0 0, .slice none 0 0, .int .i64 0, .int .i64 0, .int .i64 0, .int .i64 0, .int .i64 0, .int .i64 0] 68)).alloc (.cells #[.int .i64 0, .string ⟨#[]⟩, .string ⟨#[]⟩, .slice none 0 0, .string ⟨#[]⟩] 24)) := ⟨_, rfl⟩
  rw [← hp, ← hW1]
  have hg1 : Gr w W1 := by rw [hW1]; exact ((((Gr.refl w).alloc _).alloc _).alloc _).alloc _
  have hb2 : W1.heap[p]? = some (.cells #[.int .i64 L.d, .int .i64 L.n, .int .i64 L.b, .int .i64 L.a, .int .i64 L.x, .slice a.A1 a.n1 a.c1, .slice a.A2 a.n2 a.c2, .int .i64 st.u.d, .int .i64 st.u.n, .int .i64 st.u.b, .int .i64 st.u.a, .int .i64 st.u.x, .int .i64 st.err] 68 (0, 0)) := by
    rw [hW1, hp, heapOldR (by simp; omega), heapOldR (by simp; omega), heapOldR (by simp)]
    exact heap_alloc_new w _
  have hb3 : W1.heap[p + 1]? = some (.cells #[.int .i64 v.k, .string (bs v.l), .string (bs v.x), .slice v.A v.n v.c, .string (bs v.e)] 24 (0, 0)) := by
    have h := heap_alloc_new (w.alloc (.cells #[.int .i64 L.d, .int .i64 L.n, .int .i64 L.b, .int .i64 L.a, .int .i64 L.x, .slice a.A1 a.n1 a.c1, .slice a.A2 a.n2 a.c2, .int .i64 st.u.d, .int .i64 st.u.n, .int .i64 st.u.b, .int .i64 st.u.a, .int .i64 st.u.x, .int .i64 st.err] 68)) (.cells #[.int .i64 v.k, .string (bs v.l), .string (bs v.x), .slice v.A v.n v.c, .string (bs v.e)] 24)
    rw [show (w.alloc (.cells #[.int .i64 L.d, .int .i64 L.n, .int .i64 L.b, .int .i64 L.a, .int .i64 L.x, .slice a.A1 a.n1 a.c1, .slice a.A2 a.n2 a.c2, .int .i64 st.u.d, .int .i64 st.u.n, .int .i64 st.u.b, .int .i64 st.u.a, .int .i64 st.u.x, .int .i64 st.err] 68)).heap.size = p + 1 by simp [hp]] at h
    rw [hW1, heapOldR (by simp [hp]), heapOldR (by simp [hp])]
    exact h
  have hb4 : W1.heap[p + 1 + 1]? = some (.cells #[.int .i64 0, .int .i64 0, .int .i64 0, .int .i64 0, .int .i64 0, .slice none 0 0, .slice none 0 0, .int .i64 0, .int .i64 0, .int .i64 0, .int .i64 0, .int .i64 0, .int .i64 0] 68 (0, 0)) := by
    have h := heap_alloc_new ((w.alloc (.cells #[.int .i64 L.d, .int .i64 L.n, .int .i64 L.b, .int .i64 L.a, .int .i64 L.x, .slice a.A1 a.n1 a.c1, .slice a.A2 a.n2 a.c2, .int .i64 st.u.d, .int .i64 st.u.n, .int .i64 st.u.b, .int .i64 st.u.a, .int .i64 st.u.x, .int .i64 st.err] 68)).alloc (.cells #[.int .i64 v.k, .string (bs v.l), .string (bs v.x), .slice v.A v.n v.c, .string (bs v.e)] 24)) (.cells #[.int .i64 0, .int .i64 0, .int .i64 0, .int .i64 0, .int .i64 0, .slice none 0 0, .slice none 0 0, .int .i64 0, .int .i64 0, .int .i64 0, .int .i64 0, .int .i64 0, .int .i64 0] 68)
    rw [show ((w.alloc (.cells #[.int .i64 L.d, .int .i64 L.n, .int .i64 L.b, .int .i64 L.a, .int .i64 L.x, .slice a.A1 a.n1 a.c1, .slice a.A2 a.n2 a.c2, .int .i64 st.u.d, .int .i64 st.u.n, .int .i64 st.u.b, .int .i64 st.u.a, .int .i64 st.u.x, .int .i64 st.err] 68)).alloc (.cells #[.int .i64 v.k, .string (bs v.l), .string (bs v.x), .slice v.A v.n v.c, .string (bs v.e)] 24)).heap.size = p + 1 + 1 by simp [hp]] at h
    rw [hW1, heapOldR (by simp [hp])]
    exact h
  have hb5 : W1.heap[p + 1 + 1 + 1]? = some (.cells #[.int .i64 0, .string ⟨#[]⟩, .string ⟨#[]⟩, .slice none 0 0, .string ⟨#[]⟩] 24 (0, 0)) := by
    have h := heap_alloc_new (((w.alloc (.cells #[.int .i64 L.d, .int .i64 L.n, .int .i64 L.b, .int .i64 L.a, .int .i64 L.x, .slice a.A1 a.n1 a.c1, .slice a.A2 a.n2 a.c2, .int .i64 st.u.d, .int .i64 st.u.n, .int .i64 st.u.b, .int .i64 st.u.a, .int .i64 st.u.x, .int .i64 st.err] 68)).alloc (.cells #[.int .i64 v.k, .string (bs v.l), .string (bs v.x), .slice v.A v.n v.c, .string (bs v.e)] 24)).alloc (.cells #[.int .i64 0, .int .i64 0, .int .i64 0, .int .i64 0, .int .i64 0, .slice none 0 0, .slice none 0 0, .int .i64 0, .int .i64 0, .int .i64 0, .int .i64 0, .int .i64 0, .int .i64 0] 68)) (.cells #[.int .i64 0, .string ⟨#[]⟩, .string ⟨#[]⟩, .slice none 0 0, .string ⟨#[]⟩] 24)
    rw [show (((w.alloc (.cells #[.int .i64 L.d, .int .i64 L.n, .int .i64 L.b, .int .i64 L.a, .int .i64 L.x, .slice a.A1 a.n1 a.c1, .slice a.A2 a.n2 a.c2, .int .i64 st.u.d, .int .i64 st.u.n, .int .i64 st.u.b, .int .i64 st.u.a, .int .i64 st.u.x, .int .i64 st.err] 68)).alloc (.cells #[.int .i64 v.k, .string (bs v.l), .string (bs v.x), .slice v.A v.n v.c, .string (bs v.e)] 24)).alloc (.cells #[.int .i64 0, .int .i64 0, .int .i64 0, .int .i64 0, .int .i64 0, .slice none 0 0, .slice none 0 0, .int .i64 0, .int .i64 0, .int .i64 0, .int .i64 0, .int .i64 0, .int .i64 0] 68)).heap.size = p + 1 + 1 + 1 by simp [hp]] at h
    rw [hW1]
    exact h
  have HG1 := Lib.hid hg1
  have HB2 := Lib.hid hb2
  have HB3 := Lib.hid hb3
  have HB4 := Lib.hid hb4
  have HB5 := Lib.hid hb5
  have HP := Lib.hid hp
  clear hW1 hg1 hb2 hb3 hb4 hb5 hp
  have hgw := Gr.refl W1
  have hb2 := HB2.out
  have k0 := cell_of_cells hb2 0
  have k1 := cell_of_cells hb2 1
  have k2 := cell_of_cells hb2 2
  have k3 := cell_of_cells hb2 3
  have k4 := cell_of_cells hb2 4
  have k5 := cell_of_cells hb2 5
  have k6 := cell_of_cells hb2 6
  have k7 := cell_of_cells hb2 7
  have k8 := cell_of_cells hb2 8
  have k9 := cell_of_cells hb2 9
  have k10 := cell_of_cells hb2 10
  have k11 := cell_of_cells hb2 11
  have k12 := cell_of_cells hb2 12
  have kl := lt_of_block hb2
  go_wp2_with fail
  obtain ⟨W0, hW0⟩ : ∃ W0, W0 = W1 := ⟨_, rfl⟩
  try rw [← hW0]
  have HX2 : Hid (W0.heap[p]? = some (.cells #[.int .i64 L.d, .int .i64 L.n, .int .i64 L.b, .int .i64 L.a, .int .i64 L.x, .slice a.A1 a.n1 a.c1, .slice a.A2 a.n2 a.c2, .int .i64 st.u.d, .int .i64 st.u.n, .int .i64 st.u.b, .int .i64 st.u.a, .int .i64 st.u.x, .int .i64 st.err] 68 (0, 0))) := Lib.hid (by rw [hW0]; exact HB2.out)
  have HX3 : Hid (W0.heap[p + 1]? = some (.cells #[.int .i64 v.k, .string (bs v.l), .string (bs v.x), .slice v.A v.n v.c, .string (bs v.e)] 24 (0, 0))) := Lib.hid (by rw [hW0]; (repeat (rw [heap_set_other (by simp)])); exact ((hgw.block (p + 1) (lt_of_block HB3.out)).trans HB3.out))
  have HZ6 : Hid (W0.heap[p + 1 + 1]? = some (.cells #[.int .i64 0, .int .i64 0, .int .i64 0, .int .i64 0, .int .i64 0, .slice none 0 0, .slice none 0 0, .int .i64 0, .int .i64 0, .int .i64 0, .int .i64 0, .int .i64 0, .int .i64 0] 68 (0, 0))) := Lib.hid (by rw [hW0]; (repeat (rw [heap_set_other (by simp; omega)])); exact ((hgw.block (p + 1 + 1) (lt_of_block HB4.out)).trans HB4.out))
  have HZ7 : Hid (W0.heap[p + 1 + 1 + 1]? = some (.cells #[.int .i64 0, .string ⟨#[]⟩, .string ⟨#[]⟩, .slice none 0 0, .string ⟨#[]⟩] 24 (0, 0))) := Lib.hid (by rw [hW0]; (repeat (rw [heap_set_other (by simp; omega)])); exact ((hgw.block (p + 1 + 1 + 1) (lt_of_block HB5.out)).trans HB5.out))
  have HGR0 : Hid (Gr w W0) := Lib.hid (by rw [hW0]; exact HG1.out)
  clear k0 k1 k2 k3 k4 k5 k6 k7 k8 k9 k10 k11 k12 kl hgw hb2
  clear hW0
  obtain ⟨VS, hVS⟩ : ∃ VS : List (Nat × Nat × Value), VS = [(0, 22, .agg #[.int .i64 L.d, .int .i64 L.n, .int .i64 L.b, .int .i64 L.a, .int .i64 L.x, .slice a.A1 a.n1 a.c1, .slice a.A2 a.n2 a.c2, .int .i64 st.u.d, .int .i64 st.u.n, .int .i64 st.u.b, .int .i64 st.u.a, .int .i64 st.u.x, .int .i64 st.err]), (1, 23, .agg #[.int .i64 v.k, .string (bs v.l), .string (bs v.x), .slice v.A v.n v.c, .string (bs v.e)]), (4, 8, .int .i64 0)] := ⟨_, rfl⟩
  obtain ⟨US, hUS⟩ : ∃ US : List (Nat × Value), US = [(3, .pointer (some ⟨p, 0, none⟩)), (4, .pointer (some ⟨p + 1, 0, none⟩)), (6, .pointer (some ⟨p + 1 + 1, 0, none⟩)), (7, .pointer (some ⟨p + 1 + 1 + 1, 0, none⟩))] := ⟨_, rfl⟩
  refine wp_region_frame (by kernel_rfl) (by kernel_rfl) [22, 23, 8] (by simp) (Det VS US (fun B _ w' => CP w W0 (p + 1 + 1) (p + 1 + 1 + 1) #[.int .i64 L.d, .int .i64 L.n, .int .i64 L.b, .int .i64 L.a, .int .i64 L.x, .slice a.A1 a.n1 a.c1, .slice a.A2 a.n2 a.c2, .int .i64 st.u.d, .int .i64 st.u.n, .int .i64 st.u.b, .int .i64 st.u.a, .int .i64 st.u.x, .int .i64 st.err] #[.int .i64 0, .int .i64 0, .int .i64 0, .int .i64 0, .int .i64 0, .slice none 0 0, .slice none 0 0, .int .i64 0, .int .i64 0, .int .i64 0, .int .i64 0, .int .i64 0, .int .i64 0] #[.int .i64 v.k, .string (bs v.l), .string (bs v.x), .slice v.A v.n v.c, .string (bs v.e)] #[.int .i64 0, .string ⟨#[]⟩, .string ⟨#[]⟩, .slice none 0 0, .string ⟨#[]⟩] 2 3 B w')) ?_ ?_ ?_
  · exact Det.start (by rw [hUS]; simp [slot]) (CP.start HGR0.out.drew (Off.gr ((Gr.refl _).drew)) HZ6.out HZ7.out)
  · intro B a' w' i o hfr hF ho hBi hdp
    have hi8 := (Array.getElem?_eq_some_iff.1 ho).1
    simp only [List.size_toArray, List.length_cons, List.length_nil] at hi8
    have hor : i = 0 ∨ i = 1 ∨ i = 2 ∨ i = 3 ∨ i = 4 := by omega
    clear hi8
    rcases hor with rfl | rfl | rfl | rfl | rfl
    all_goals (
      simp only [List.getElem?_toArray, List.getElem?_cons_zero, List.getElem?_cons_succ, Option.some.injEq] at ho
      subst ho
      rw [if_pos (show Region.wanted _ _ = true from rfl)]
      refine wp_hideK ?_
      intro K hK)
    · have hFW := hF.wd
      have o3 := slot_spell (hF.had (d := 3) (v := .pointer (some ⟨p, 0, none⟩)) (by rw [hUS]; simp))
      have hb := hFW.off.block HX2.out (by simp; try omega)
      have k0 := cell_of_cells hb 0
      have k1 := cell_of_cells hb 1
      have k2 := cell_of_cells hb 2
      have k3 := cell_of_cells hb 3
      have k4 := cell_of_cells hb 4
      have k5 := cell_of_cells hb 5
      have k6 := cell_of_cells hb 6
      have k7 := cell_of_cells hb 7
      have k8 := cell_of_cells hb 8
      have k9 := cell_of_cells hb 9
      have k10 := cell_of_cells hb 10
      have k11 := cell_of_cells hb 11
      have k12 := cell_of_cells hb 12
      have kl := lt_of_block hb
      go_simp
      exact hK.out _ _ (close_put hfr (d := 22) (by decide) (by simp) _ (F := fun u => Det VS US (fun B _ w' => CP w W0 (p + 1 + 1) (p + 1 + 1 + 1) #[.int .i64 L.d, .int .i64 L.n, .int .i64 L.b, .int .i64 L.a, .int .i64 L.x, .slice a.A1 a.n1 a.c1, .slice a.A2 a.n2 a.c2, .int .i64 st.u.d, .int .i64 st.u.n, .int .i64 st.u.b, .int .i64 st.u.a, .int .i64 st.u.x, .int .i64 st.err] #[.int .i64 0, .int .i64 0, .int .i64 0, .int .i64 0, .int .i64 0, .slice none 0 0, .slice none 0 0, .int .i64 0, .int .i64 0, .int .i64 0, .int .i64 0, .int .i64 0, .int .i64 0] #[.int .i64 v.k, .string (bs v.l), .string (bs v.x), .slice v.A v.n v.c, .string (bs v.e)] #[.int .i64 0, .string ⟨#[]⟩, .string ⟨#[]⟩, .slice none 0 0, .string ⟨#[]⟩] 2 3 B w') (upB B 0) u _) (hF.step (by rw [hVS]; simp) (by rw [hUS]; simp) (hFW.skip (by decide) (by decide))))
    · have hFW := hF.wd
      have o4 := slot_spell (hF.had (d := 4) (v := .pointer (some ⟨p + 1, 0, none⟩)) (by rw [hUS]; simp))
      have hb := hFW.off.block HX3.out (by simp; try omega)
      have k0 := cell_of_cells hb 0
      have k1 := cell_of_cells hb 1
      have k2 := cell_of_cells hb 2
      have k3 := cell_of_cells hb 3
      have k4 := cell_of_cells hb 4
      have kl := lt_of_block hb
      go_simp
      exact hK.out _ _ (close_put hfr (d := 23) (by decide) (by simp) _ (F := fun u => Det VS US (fun B _ w' => CP w W0 (p + 1 + 1) (p + 1 + 1 + 1) #[.int .i64 L.d, .int .i64 L.n, .int .i64 L.b, .int .i64 L.a, .int .i64 L.x, .slice a.A1 a.n1 a.c1, .slice a.A2 a.n2 a.c2, .int .i64 st.u.d, .int .i64 st.u.n, .int .i64 st.u.b, .int .i64 st.u.a, .int .i64 st.u.x, .int .i64 st.err] #[.int .i64 0, .int .i64 0, .int .i64 0, .int .i64 0, .int .i64 0, .slice none 0 0, .slice none 0 0, .int .i64 0, .int .i64 0, .int .i64 0, .int .i64 0, .int .i64 0, .int .i64 0] #[.int .i64 v.k, .string (bs v.l), .string (bs v.x), .slice v.A v.n v.c, .string (bs v.e)] #[.int .i64 0, .string ⟨#[]⟩, .string ⟨#[]⟩, .slice none 0 0, .string ⟨#[]⟩] 2 3 B w') (upB B 1) u _) (hF.step (by rw [hVS]; simp) (by rw [hUS]; simp) (hFW.skip (by decide) (by decide))))
    · have hFW := hF.wd
      have hB0 : B 0 = true := hdp ⟨0, .data⟩ (by simp) (by rfl)
      have e0 := slot_spell (hF.get (i := 0) (d := 22) (v := .agg #[.int .i64 L.d, .int .i64 L.n, .int .i64 L.b, .int .i64 L.a, .int .i64 L.x, .slice a.A1 a.n1 a.c1, .slice a.A2 a.n2 a.c2, .int .i64 st.u.d, .int .i64 st.u.n, .int .i64 st.u.b, .int .i64 st.u.a, .int .i64 st.u.x, .int .i64 st.err]) (by rw [hVS]; simp) hB0)
      have o6 := slot_spell (hF.had (d := 6) (v := .pointer (some ⟨p + 1 + 1, 0, none⟩)) (by rw [hUS]; simp))
      have q6 := hFW.b6
      rw [if_neg (by rw [hBi]; decide)] at q6
      have y0 := cell_of_cells q6 0
      have yf0 := free_of_cells q6 0
      have y1 := cell_of_cells q6 1
      have yf1 := free_of_cells q6 1
      have y2 := cell_of_cells q6 2
      have yf2 := free_of_cells q6 2
      have y3 := cell_of_cells q6 3
      have yf3 := free_of_cells q6 3
      have y4 := cell_of_cells q6 4
      have yf4 := free_of_cells q6 4
      have y5 := cell_of_cells q6 5
      have yf5 := free_of_cells q6 5
      have y6 := cell_of_cells q6 6
      have yf6 := free_of_cells q6 6
      have y7 := cell_of_cells q6 7
      have yf7 := free_of_cells q6 7
      have y8 := cell_of_cells q6 8
      have yf8 := free_of_cells q6 8
      have y9 := cell_of_cells q6 9
      have yf9 := free_of_cells q6 9
      have y10 := cell_of_cells q6 10
      have yf10 := free_of_cells q6 10
      have y11 := cell_of_cells q6 11
      have yf11 := free_of_cells q6 11
      have y12 := cell_of_cells q6 12
      have yf12 := free_of_cells q6 12
      have yl := lt_of_block q6
      go_simp
      exact hK.out _ _ (close_none hfr undef (F := fun u => Det VS US (fun B _ w' => CP w W0 (p + 1 + 1) (p + 1 + 1 + 1) #[.int .i64 L.d, .int .i64 L.n, .int .i64 L.b, .int .i64 L.a, .int .i64 L.x, .slice a.A1 a.n1 a.c1, .slice a.A2 a.n2 a.c2, .int .i64 st.u.d, .int .i64 st.u.n, .int .i64 st.u.b, .int .i64 st.u.a, .int .i64 st.u.x, .int .i64 st.err] #[.int .i64 0, .int .i64 0, .int .i64 0, .int .i64 0, .int .i64 0, .slice none 0 0, .slice none 0 0, .int .i64 0, .int .i64 0, .int .i64 0, .int .i64 0, .int .i64 0, .int .i64 0] #[.int .i64 v.k, .string (bs v.l), .string (bs v.x), .slice v.A v.n v.c, .string (bs v.e)] #[.int .i64 0, .string ⟨#[]⟩, .string ⟨#[]⟩, .slice none 0 0, .string ⟨#[]⟩] 2 3 B w') (upB B 2) u _) (hF.none (by rw [hVS]; simp) (hFW.s6 hBi (by decide) (by omega) (by have hp := HP.out; omega) rfl rfl)))
    · have hFW := hF.wd
      have hB1 : B 1 = true := hdp ⟨1, .data⟩ (by simp) (by rfl)
      have e1 := slot_spell (hF.get (i := 1) (d := 23) (v := .agg #[.int .i64 v.k, .string (bs v.l), .string (bs v.x), .slice v.A v.n v.c, .string (bs v.e)]) (by rw [hVS]; simp) hB1)
      have o7 := slot_spell (hF.had (d := 7) (v := .pointer (some ⟨p + 1 + 1 + 1, 0, none⟩)) (by rw [hUS]; simp))
      have q7 := hFW.b7
      rw [if_neg (by rw [hBi]; decide)] at q7
      have y0 := cell_of_cells q7 0
      have yf0 := free_of_cells q7 0
      have y1 := cell_of_cells q7 1
      have yf1 := free_of_cells q7 1
      have y2 := cell_of_cells q7 2
      have yf2 := free_of_cells q7 2
      have y3 := cell_of_cells q7 3
      have yf3 := free_of_cells q7 3
      have y4 := cell_of_cells q7 4
      have yf4 := free_of_cells q7 4
      have yl := lt_of_block q7
      go_simp
      exact hK.out _ _ (close_none hfr undef (F := fun u => Det VS US (fun B _ w' => CP w W0 (p + 1 + 1) (p + 1 + 1 + 1) #[.int .i64 L.d, .int .i64 L.n, .int .i64 L.b, .int .i64 L.a, .int .i64 L.x, .slice a.A1 a.n1 a.c1, .slice a.A2 a.n2 a.c2, .int .i64 st.u.d, .int .i64 st.u.n, .int .i64 st.u.b, .int .i64 st.u.a, .int .i64 st.u.x, .int .i64 st.err] #[.int .i64 0, .int .i64 0, .int .i64 0, .int .i64 0, .int .i64 0, .slice none 0 0, .slice none 0 0, .int .i64 0, .int .i64 0, .int .i64 0, .int .i64 0, .int .i64 0, .int .i64 0] #[.int .i64 v.k, .string (bs v.l), .string (bs v.x), .slice v.A v.n v.c, .string (bs v.e)] #[.int .i64 0, .string ⟨#[]⟩, .string ⟨#[]⟩, .slice none 0 0, .string ⟨#[]⟩] 2 3 B w') (upB B 3) u _) (hF.none (by rw [hVS]; simp) (hFW.s7 hBi (by decide) (by omega) (by have hp := HP.out; omega) rfl rfl)))
    · have hFW := hF.wd
      go_simp
      exact hK.out _ _ (close_put hfr (d := 8) (by decide) (by simp) _ (F := fun u => Det VS US (fun B _ w' => CP w W0 (p + 1 + 1) (p + 1 + 1 + 1) #[.int .i64 L.d, .int .i64 L.n, .int .i64 L.b, .int .i64 L.a, .int .i64 L.x, .slice a.A1 a.n1 a.c1, .slice a.A2 a.n2 a.c2, .int .i64 st.u.d, .int .i64 st.u.n, .int .i64 st.u.b, .int .i64 st.u.a, .int .i64 st.u.x, .int .i64 st.err] #[.int .i64 0, .int .i64 0, .int .i64 0, .int .i64 0, .int .i64 0, .slice none 0 0, .slice none 0 0, .int .i64 0, .int .i64 0, .int .i64 0, .int .i64 0, .int .i64 0, .int .i64 0] #[.int .i64 v.k, .string (bs v.l), .string (bs v.x), .slice v.A v.n v.c, .string (bs v.e)] #[.int .i64 0, .string ⟨#[]⟩, .string ⟨#[]⟩, .slice none 0 0, .string ⟨#[]⟩] 2 3 B w') (upB B 4) u _) (hF.step (by rw [hVS]; simp) (by rw [hUS]; simp) (hFW.skip (by decide) (by decide))))
  · intro B u w' hall hF
    have z0 := hF.get (i := 0) (d := 22) (v := .agg #[.int .i64 L.d, .int .i64 L.n, .int .i64 L.b, .int .i64 L.a, .int .i64 L.x, .slice a.A1 a.n1 a.c1, .slice a.A2 a.n2 a.c2, .int .i64 st.u.d, .int .i64 st.u.n, .int .i64 st.u.b, .int .i64 st.u.a, .int .i64 st.u.x, .int .i64 st.err]) (by rw [hVS]; simp) (hall 0 (by simp))
    have z1 := hF.get (i := 1) (d := 23) (v := .agg #[.int .i64 v.k, .string (bs v.l), .string (bs v.x), .slice v.A v.n v.c, .string (bs v.e)]) (by rw [hVS]; simp) (hall 1 (by simp))
    have z4 := hF.get (i := 4) (d := 8) (v := .int .i64 0) (by rw [hVS]; simp) (hall 4 (by simp))
    have hFW := hF.wd
    clear hF hVS hUS
    simp only [List.foldl_cons, List.foldl_nil, Act.put, List.setIfInBounds_toArray, List.set_cons_zero, List.set_cons_succ, z0, z1, z4]
    clear z0 z1 z4
    have hp := HP.out
    have q6 := hFW.b6
    have q7 := hFW.b7
    have hgf := hFW.gr
    have hof := hFW.off
    rw [if_pos (hall 2 (by simp))] at q6
    rw [if_pos (hall 3 (by simp))] at q7
    clear hall hFW
    go_wp2_with fail
    refine bodyPost_ret (results_state rfl _ _ _ _ _ _ rfl rfl rfl q6 rfl q7) rfl ⟨a, v, by rw [← HQ.out]; rfl, ?_, ?_, hgf⟩
    · rw [← HQ.out]
      exact HS.out.on (hgf.on P)
    · rw [← HQ.out]
      exact HR.out.on (hgf.on P)
set_option maxRecDepth 100000 in
set_option maxHeartbeats 4000000 in
theorem visitR_alias {P : Nat → Prop} (g : Bool) (L : U5) (t : NT) (v : ND) (st : RSt) (a : SV) (w : World) (hr : NR P w v t) (hs : SRep P w st a) (he : st.err = 0) (hk : t.k = 10) (h2 : 2 ≤ v.x.length) (hcnt : st.done.length ≤ 1000000) : Calls Try.prog 35 #[.agg #[.int .i64 L.d, .int .i64 L.n, .int .i64 L.b, .int .i64 L.a, .int .i64 L.x, .slice a.A1 a.n1 a.c1, .slice a.A2 a.n2 a.c2, .int .i64 st.u.d, .int .i64 st.u.n, .int .i64 st.u.b, .int .i64 st.u.a, .int .i64 st.u.x, .int .i64 st.err], .agg #[.int .i64 v.k, .string (bs v.l), .string (bs v.x), .slice v.A v.n v.c, .string (bs v.e)], .bool g] w (VRes P L (visR g L t st) w) := by
  generalize hq : visR g L t st = q
  have HS := Lib.hid hs
  have HR := Lib.hid hr
  have htx := hr.text
  rw [visR_eq, if_neg (by rw [he]; decide), if_pos hk] at hq
  have HQ := Lib.hid hq
  have r1 : (st.err != 0) = false := by simp [he]
  have r2 : (v.k == 10) = true := by rw [htx.1]; simp [hk]
  clear hq hs hr htx he hk
  go_enter Try.func35, Try.ntmps35
  go_wp2_with fail
  obtain ⟨p, hp⟩ : ∃ p, p = w.heap.size := ⟨_, rfl⟩
  obtain ⟨W1, hW1⟩ : ∃ W1, W1 = ((((w.alloc (.cells #[.int .i64 L.d, .int .i64 L.n, .int .i64 L.b, .int .i64 L.a, .int .i64 L.x, .slice a.A1 a.n1 a.c1, .slice a.A2 a.n2 a.c2, .int .i64 st.u.d, .int .i64 st.u.n, .int .i64 st.u.b, .int .i64 st.u.a, .int .i64 st.u.x, .int .i64 st.err] 68)).alloc (.cells #[.int .i64 v.k, .string (bs v.l), .string (bs v.x), .slice v.A v.n v.c, .string (bs v.e)] 24)).alloc (.cells #[.int .i64 0, .int .i64 0, .int .i64 0, .int .i64 0, .int .i64 0, .slice none 0 0, .slice none 0 0, .int .i64 0, .int .i64 0, .int .i64 0, .int .i64 0, .int .i64 0, .int .i64 0] 68)).alloc (.cells #[.int .i64 0, .string ⟨#[]⟩, .string ⟨#[]⟩, .slice none 0 0, .string ⟨#[]⟩] 24)) := ⟨_, rfl⟩
  rw [← hp, ← hW1]
  have hg1 : Gr w W1 := by rw [hW1]; exact ((((Gr.refl w).alloc _).alloc _).alloc _).alloc _
  have hb2 : W1.heap[p]? = some (.cells #[.int .i64 L.d, .int .i64 L.n, .int .i64 L.b, .int .i64 L.a, .int .i64 L.x, .slice a.A1 a.n1 a.c1, .slice a.A2 a.n2 a.c2, .int .i64 st.u.d, .int .i64 st.u.n, .int .i64 st.u.b, .int .i64 st.u.a, .int .i64 st.u.x, .int .i64 st.err] 68 (0, 0)) := by
    rw [hW1, hp, heapOldR (by simp; omega), heapOldR (by simp; omega), heapOldR (by simp)]
    exact heap_alloc_new w _
  have hb3 : W1.heap[p + 1]? = some (.cells #[.int .i64 v.k, .string (bs v.l), .string (bs v.x), .slice v.A v.n v.c, .string (bs v.e)] 24 (0, 0)) := by
    have h := heap_alloc_new (w.alloc (.cells #[.int .i64 L.d, .int .i64 L.n, .int .i64 L.b, .int .i64 L.a, .int .i64 L.x, .slice a.A1 a.n1 a.c1, .slice a.A2 a.n2 a.c2, .int .i64 st.u.d, .int .i64 st.u.n, .int .i64 st.u.b, .int .i64 st.u.a, .int .i64 st.u.x, .int .i64 st.err] 68)) (.cells #[.int .i64 v.k, .string (bs v.l), .string (bs v.x), .slice v.A v.n v.c, .string (bs v.e)] 24)
    rw [show (w.alloc (.cells #[.int .i64 L.d, .int .i64 L.n, .int .i64 L.b, .int .i64 L.a, .int .i64 L.x, .slice a.A1 a.n1 a.c1, .slice a.A2 a.n2 a.c2, .int .i64 st.u.d, .int .i64 st.u.n, .int .i64 st.u.b, .int .i64 st.u.a, .int .i64 st.u.x, .int .i64 st.err] 68)).heap.size = p + 1 by simp [hp]] at h
    rw [hW1, heapOldR (by simp [hp]), heapOldR (by simp [hp])]
    exact h
  have hb4 : W1.heap[p + 1 + 1]? = some (.cells #[.int .i64 0, .int .i64 0, .int .i64 0, .int .i64 0, .int .i64 0, .slice none 0 0, .slice none 0 0, .int .i64 0, .int .i64 0, .int .i64 0, .int .i64 0, .int .i64 0, .int .i64 0] 68 (0, 0)) := by
    have h := heap_alloc_new ((w.alloc (.cells #[.int .i64 L.d, .int .i64 L.n, .int .i64 L.b, .int .i64 L.a, .int .i64 L.x, .slice a.A1 a.n1 a.c1, .slice a.A2 a.n2 a.c2, .int .i64 st.u.d, .int .i64 st.u.n, .int .i64 st.u.b, .int .i64 st.u.a, .int .i64 st.u.x, .int .i64 st.err] 68)).alloc (.cells #[.int .i64 v.k, .string (bs v.l), .string (bs v.x), .slice v.A v.n v.c, .string (bs v.e)] 24)) (.cells #[.int .i64 0, .int .i64 0, .int .i64 0, .int .i64 0, .int .i64 0, .slice none 0 0, .slice none 0 0, .int .i64 0, .int .i64 0, .int .i64 0, .int .i64 0, .int .i64 0, .int .i64 0] 68)
    rw [show ((w.alloc (.cells #[.int .i64 L.d, .int .i64 L.n, .int .i64 L.b, .int .i64 L.a, .int .i64 L.x, .slice a.A1 a.n1 a.c1, .slice a.A2 a.n2 a.c2, .int .i64 st.u.d, .int .i64 st.u.n, .int .i64 st.u.b, .int .i64 st.u.a, .int .i64 st.u.x, .int .i64 st.err] 68)).alloc (.cells #[.int .i64 v.k, .string (bs v.l), .string (bs v.x), .slice v.A v.n v.c, .string (bs v.e)] 24)).heap.size = p + 1 + 1 by simp [hp]] at h
    rw [hW1, heapOldR (by simp [hp])]
    exact h
  have hb5 : W1.heap[p + 1 + 1 + 1]? = some (.cells #[.int .i64 0, .string ⟨#[]⟩, .string ⟨#[]⟩, .slice none 0 0, .string ⟨#[]⟩] 24 (0, 0)) := by
    have h := heap_alloc_new (((w.alloc (.cells #[.int .i64 L.d, .int .i64 L.n, .int .i64 L.b, .int .i64 L.a, .int .i64 L.x, .slice a.A1 a.n1 a.c1, .slice a.A2 a.n2 a.c2, .int .i64 st.u.d, .int .i64 st.u.n, .int .i64 st.u.b, .int .i64 st.u.a, .int .i64 st.u.x, .int .i64 st.err] 68)).alloc (.cells #[.int .i64 v.k, .string (bs v.l), .string (bs v.x), .slice v.A v.n v.c, .string (bs v.e)] 24)).alloc (.cells #[.int .i64 0, .int .i64 0, .int .i64 0, .int .i64 0, .int .i64 0, .slice none 0 0, .slice none 0 0, .int .i64 0, .int .i64 0, .int .i64 0, .int .i64 0, .int .i64 0, .int .i64 0] 68)) (.cells #[.int .i64 0, .string ⟨#[]⟩, .string ⟨#[]⟩, .slice none 0 0, .string ⟨#[]⟩] 24)
    rw [show (((w.alloc (.cells #[.int .i64 L.d, .int .i64 L.n, .int .i64 L.b, .int .i64 L.a, .int .i64 L.x, .slice a.A1 a.n1 a.c1, .slice a.A2 a.n2 a.c2, .int .i64 st.u.d, .int .i64 st.u.n, .int .i64 st.u.b, .int .i64 st.u.a, .int .i64 st.u.x, .int .i64 st.err] 68)).alloc (.cells #[.int .i64 v.k, .string (bs v.l), .string (bs v.x), .slice v.A v.n v.c, .string (bs v.e)] 24)).alloc (.cells #[.int .i64 0, .int .i64 0, .int .i64 0, .int .i64 0, .int .i64 0, .slice none 0 0, .slice none 0 0, .int .i64 0, .int .i64 0, .int .i64 0, .int .i64 0, .int .i64 0, .int .i64 0] 68)).heap.size = p + 1 + 1 + 1 by simp [hp]] at h
    rw [hW1]
    exact h
  have HG1 := Lib.hid hg1
  have HB2 := Lib.hid hb2
  have HB3 := Lib.hid hb3
  have HB4 := Lib.hid hb4
  have HB5 := Lib.hid hb5
  have HP := Lib.hid hp
  clear hW1 hg1 hb2 hb3 hb4 hb5 hp
  have hb2 := HB2.out
  have hb3 := HB3.out
  have k0 := cell_of_cells hb2 0
  have k1 := cell_of_cells hb2 1
  have k2 := cell_of_cells hb2 2
  have k3 := cell_of_cells hb2 3
  have k4 := cell_of_cells hb2 4
  have k5 := cell_of_cells hb2 5
  have k6 := cell_of_cells hb2 6
  have k7 := cell_of_cells hb2 7
  have k8 := cell_of_cells hb2 8
  have k9 := cell_of_cells hb2 9
  have k10 := cell_of_cells hb2 10
  have k11 := cell_of_cells hb2 11
  have k12 := cell_of_cells hb2 12
  have kl := lt_of_block hb2
  have j0 := cell_of_cells hb3 0
  have j1 := cell_of_cells hb3 1
  have j2 := cell_of_cells hb3 2
  have j3 := cell_of_cells hb3 3
  have j4 := cell_of_cells hb3 4
  have jl := lt_of_block hb3
  have hcall : Calls Try.prog 49 #[.agg #[.int .i64 L.d, .int .i64 L.n, .int .i64 L.b, .int .i64 L.a, .int .i64 L.x, .slice a.A1 a.n1 a.c1, .slice a.A2 a.n2 a.c2, .int .i64 st.u.d, .int .i64 st.u.n, .int .i64 st.u.b, .int .i64 st.u.a, .int .i64 st.u.x, .int .i64 st.err], .agg #[.int .i64 v.k, .string (bs v.l), .string (bs v.x), .slice v.A v.n v.c, .string (bs v.e)]] W1 (fun e w' => ∃ a' v', e = .returned (.tuple #[.agg #[.int .i64 L.d, .int .i64 L.n, .int .i64 L.b, .int .i64 L.a, .int .i64 L.x, .slice a'.A1 a'.n1 a'.c1, .slice a'.A2 a'.n2 a'.c2, .int .i64 q.1.u.d, .int .i64 q.1.u.n, .int .i64 q.1.u.b, .int .i64 q.1.u.a, .int .i64 q.1.u.x, .int .i64 q.1.err], .agg #[.int .i64 v'.k, .string (bs v'.l), .string (bs v'.x), .slice v'.A v'.n v'.c, .string (bs v'.e)], .int .i64 q.2.2]) ∧ SRep (Pn P p) w' q.1 a' ∧ NR (Pn P p) w' v' q.2.1 ∧ Gr W1 w') := by
    rw [← HQ.out]
    have hp := HP.out
    exact aliasRP_any L st a t v W1 ((HS.out.fence (fun b hb hl => Pn.of hb (by omega))).on (HG1.out.on _)) ((HR.out.fence (fun b hb hl => Pn.of hb (by omega))).on (HG1.out.on _)) h2 hcnt
  have HCALL := Lib.hid hcall
  clear hcall hb2 hb3
  go_wp2_with fail
  refine HCALL.out.mono ?_
  rintro e' w2 ⟨a', v', rfl, hs2, hr2, hg2⟩
  have hb4 := (hg2.block _ (lt_of_block HB4.out)).trans HB4.out
  have hb5 := (hg2.block _ (lt_of_block HB5.out)).trans HB5.out
  have y0 := cell_of_cells hb4 0
  have yf0 := free_of_cells hb4 0
  have y1 := cell_of_cells hb4 1
  have yf1 := free_of_cells hb4 1
  have y2 := cell_of_cells hb4 2
  have yf2 := free_of_cells hb4 2
  have y3 := cell_of_cells hb4 3
  have yf3 := free_of_cells hb4 3
  have y4 := cell_of_cells hb4 4
  have yf4 := free_of_cells hb4 4
  have y5 := cell_of_cells hb4 5
  have yf5 := free_of_cells hb4 5
  have y6 := cell_of_cells hb4 6
  have yf6 := free_of_cells hb4 6
  have y7 := cell_of_cells hb4 7
  have yf7 := free_of_cells hb4 7
  have y8 := cell_of_cells hb4 8
  have yf8 := free_of_cells hb4 8
  have y9 := cell_of_cells hb4 9
  have yf9 := free_of_cells hb4 9
  have y10 := cell_of_cells hb4 10
  have yf10 := free_of_cells hb4 10
  have y11 := cell_of_cells hb4 11
  have yf11 := free_of_cells hb4 11
  have y12 := cell_of_cells hb4 12
  have yf12 := free_of_cells hb4 12
  have yl := lt_of_block hb4
  have z0 := cell_of_cells hb5 0
  have zf0 := free_of_cells hb5 0
  have z1 := cell_of_cells hb5 1
  have zf1 := free_of_cells hb5 1
  have z2 := cell_of_cells hb5 2
  have zf2 := free_of_cells hb5 2
  have z3 := cell_of_cells hb5 3
  have zf3 := free_of_cells hb5 3
  have z4 := cell_of_cells hb5 4
  have zf4 := free_of_cells hb5 4
  have zl := lt_of_block hb5
  have HS2 := Lib.hid hs2
  have HR2 := Lib.hid hr2
  have HG2 := Lib.hid hg2
  have HC4 := Lib.hid hb4
  have HC5 := Lib.hid hb5
  clear hs2 hr2 hg2 hb4 hb5 HCALL k0 k1 k2 k3 k4 k5 k6 k7 k8 k9 k10 k11 k12 kl j0 j1 j2 j3 j4 jl
  go_wp2_with fail
  have hp := HP.out
  have hg2 := HG1.out.trans HG2.out
  refine bodyPost_ret (results_state rfl _ _ _ _ _ _ rfl rfl rfl (by rw [heap_set_other (by simp), heap_set_other (by simp), heap_set_other (by simp), heap_set_other (by simp), heap_set_other (by simp)]; exact state_set HC4.out _ _ _ _ _ _ _ _ _ _ _ _ _) rfl (five_setR (by rw [heap_set_other (by simp), heap_set_other (by simp), heap_set_other (by simp), heap_set_other (by simp), heap_set_other (by simp), heap_set_other (by simp), heap_set_other (by simp), heap_set_other (by simp), heap_set_other (by simp), heap_set_other (by simp), heap_set_other (by simp), heap_set_other (by simp), heap_set_other (by simp)]; exact HC5.out) _ _ _ _ _)) rfl ⟨a', v', rfl, ?_, ?_, (Gr.setCell (Gr.setCell (Gr.setCell (Gr.setCell (Gr.setCell (Gr.setCell (Gr.setCell (Gr.setCell (Gr.setCell (Gr.setCell (Gr.setCell (Gr.setCell (Gr.setCell (Gr.setCell (Gr.setCell (Gr.setCell (Gr.setCell (Gr.setCell hg2 (by simp; omega) _) (by simp; omega) _) (by simp; omega) _) (by simp; omega) _) (by simp; omega) _) (by simp; omega) _) (by simp; omega) _) (by simp; omega) _) (by simp; omega) _) (by simp; omega) _) (by simp; omega) _) (by simp; omega) _) (by simp; omega) _) (by simp; omega) _) (by simp; omega) _) (by simp; omega) _) (by simp; omega) _) (by simp; omega) _)⟩
  · exact (HS2.out.on (Pn.on (Off.set (Off.set (Off.set (Off.set (Off.set (Off.set (Off.set (Off.set (Off.set (Off.set (Off.set (Off.set (Off.set (Off.set (Off.set (Off.set (Off.set (Off.set (Off.refl _ _) (by simp) _) (by simp) _) (by simp) _) (by simp) _) (by simp) _) (by simp) _) (by simp) _) (by simp) _) (by simp) _) (by simp) _) (by simp) _) (by simp) _) (by simp) _) (by simp) _) (by simp) _) (by simp) _) (by simp) _) (by simp) _))).fence (fun b hb _ => hb.1)
  · exact (HR2.out.on (Pn.on (Off.set (Off.set (Off.set (Off.set (Off.set (Off.set (Off.set (Off.set (Off.set (Off.set (Off.set (Off.set (Off.set (Off.set (Off.set (Off.set (Off.set (Off.set (Off.refl _ _) (by simp) _) (by simp) _) (by simp) _) (by simp) _) (by simp) _) (by simp) _) (by simp) _) (by simp) _) (by simp) _) (by simp) _) (by simp) _) (by simp) _) (by simp) _) (by simp) _) (by simp) _) (by simp) _) (by simp) _) (by simp) _))).fence (fun b hb _ => hb.1)
set_option maxRecDepth 100000 in
set_option maxHeartbeats 4000000 in
theorem visitR_dup {P : Nat → Prop} (g : Bool) (L : U5) (t : NT) (v : ND) (st : RSt) (a : SV) (w : World) (hr : NR P w v t) (hs : SRep P w st a) (he : st.err = 0) (hk : t.k = 9) (h2 : 2 ≤ v.x.length) (hdup : v.x.drop 1 ∈ st.names) : Calls Try.prog 35 #[.agg #[.int .i64 L.d, .int .i64 L.n, .int .i64 L.b, .int .i64 L.a, .int .i64 L.x, .slice a.A1 a.n1 a.c1, .slice a.A2 a.n2 a.c2, .int .i64 st.u.d, .int .i64 st.u.n, .int .i64 st.u.b, .int .i64 st.u.a, .int .i64 st.u.x, .int .i64 st.err], .agg #[.int .i64 v.k, .string (bs v.l), .string (bs v.x), .slice v.A v.n v.c, .string (bs v.e)], .bool g] w (VRes P L (visR g L t st) w) := by
  generalize hq : visR g L t st = q
  have HS := Lib.hid hs
  have HR := Lib.hid hr
  have htx := hr.text
  obtain ⟨nm, hnm⟩ : ∃ nm, nm = v.x.drop 1 := ⟨_, rfl⟩
  obtain ⟨nx, hnx⟩ : ∃ nx, nx = v.x.length := ⟨_, rfl⟩
  have yn : (bs v.x).extract 1 nx = bs nm := by rw [hnx, hnm]; exact bs_drop1R v.x
  have ys : (bs v.x).size = nx := hnx.symm
  have hx1 : ((1 : Int) ≤ (nx : Int)) = True := by simp; omega
  rw [visR_eq, if_neg (by rw [he]; decide), if_neg (by rw [hk]; decide), if_pos hk, ← htx.2.2.1, ← hnm] at hq
  rw [← hnm] at hdup
  have HN1 := Lib.hid hs.n1
  have hn63 : a.n1 ≤ maxLen := Nat.le_trans hs.nc1.1 hs.nc1.2
  unfold maxLen at hn63
  have r1 : (st.err != 0) = false := by simp [he]
  have r2 : (v.k == 10) = false := by rw [htx.1]; simp [hk]
  have r3 : (v.k == 9) = true := by rw [htx.1]; simp [hk]
  rw [if_pos hdup] at hq
  have HQ := Lib.hid hq
  have HDUP := Lib.hid hdup
  clear hq hr htx he hk hnm hdup hnx
  go_enter Try.func35, Try.ntmps35
  go_wp2_with fail
  obtain ⟨p, hp⟩ : ∃ p, p = w.heap.size := ⟨_, rfl⟩
  obtain ⟨W1, hW1⟩ : ∃ W1, W1 = ((((w.alloc (.cells #[.int .i64 L.d, .int .i64 L.n, .int .i64 L.b, .int .i64 L.a, .int .i64 L.x, .slice a.A1 a.n1 a.c1, .slice a.A2 a.n2 a.c2, .int .i64 st.u.d, .int .i64 st.u.n, .int .i64 st.u.b, .int .i64 st.u.a, .int .i64 st.u.x, .int .i64 st.err] 68)).alloc (.cells #[.int .i64 v.k, .string (bs v.l), .string (bs v.x), .slice v.A v.n v.c, .string (bs v.e)] 24)).alloc (.cells #[.int .i64 0, .int .i64 0, .int .i64 0, .int .i64 0, .int .i64 0, .slice none 0 0, .slice none 0 0, .int .i64 0, .int .i64 0, .int .i64 0, .int .i64 0, .int .i64 0, .int .i64 0] 68)).alloc (.cells #[.int .i64 0, .string ⟨#[]⟩, .string ⟨#[]⟩, .slice none 0 0, .string ⟨#[]⟩] 24)) := ⟨_, rfl⟩
  rw [← hp, ← hW1]
  have hg1 : Gr w W1 := by rw [hW1]; exact ((((Gr.refl w).alloc _).alloc _).alloc _).alloc _
  have hb2 : W1.heap[p]? = some (.cells #[.int .i64 L.d, .int .i64 L.n, .int .i64 L.b, .int .i64 L.a, .int .i64 L.x, .slice a.A1 a.n1 a.c1, .slice a.A2 a.n2 a.c2, .int .i64 st.u.d, .int .i64 st.u.n, .int .i64 st.u.b, .int .i64 st.u.a, .int .i64 st.u.x, .int .i64 st.err] 68 (0, 0)) := by
    rw [hW1, hp, heapOldR (by simp; omega), heapOldR (by simp; omega), heapOldR (by simp)]
    exact heap_alloc_new w _
  have hb3 : W1.heap[p + 1]? = some (.cells #[.int .i64 v.k, .string (bs v.l), .string (bs v.x), .slice v.A v.n v.c, .string (bs v.e)] 24 (0, 0)) := by
    have h := heap_alloc_new (w.alloc (.cells #[.int .i64 L.d, .int .i64 L.n, .int .i64 L.b, .int .i64 L.a, .int .i64 L.x, .slice a.A1 a.n1 a.c1, .slice a.A2 a.n2 a.c2, .int .i64 st.u.d, .int .i64 st.u.n, .int .i64 st.u.b, .int .i64 st.u.a, .int .i64 st.u.x, .int .i64 st.err] 68)) (.cells #[.int .i64 v.k, .string (bs v.l), .string (bs v.x), .slice v.A v.n v.c, .string (bs v.e)] 24)
    rw [show (w.alloc (.cells #[.int .i64 L.d, .int .i64 L.n, .int .i64 L.b, .int .i64 L.a, .int .i64 L.x, .slice a.A1 a.n1 a.c1, .slice a.A2 a.n2 a.c2, .int .i64 st.u.d, .int .i64 st.u.n, .int .i64 st.u.b, .int .i64 st.u.a, .int .i64 st.u.x, .int .i64 st.err] 68)).heap.size = p + 1 by simp [hp]] at h
    rw [hW1, heapOldR (by simp [hp]), heapOldR (by simp [hp])]
    exact h
  have hb4 : W1.heap[p + 1 + 1]? = some (.cells #[.int .i64 0, .int .i64 0, .int .i64 0, .int .i64 0, .int .i64 0, .slice none 0 0, .slice none 0 0, .int .i64 0, .int .i64 0, .int .i64 0, .int .i64 0, .int .i64 0, .int .i64 0] 68 (0, 0)) := by
    have h := heap_alloc_new ((w.alloc (.cells #[.int .i64 L.d, .int .i64 L.n, .int .i64 L.b, .int .i64 L.a, .int .i64 L.x, .slice a.A1 a.n1 a.c1, .slice a.A2 a.n2 a.c2, .int .i64 st.u.d, .int .i64 st.u.n, .int .i64 st.u.b, .int .i64 st.u.a, .int .i64 st.u.x, .int .i64 st.err] 68)).alloc (.cells #[.int .i64 v.k, .string (bs v.l), .string (bs v.x), .slice v.A v.n v.c, .string (bs v.e)] 24)) (.cells #[.int .i64 0, .int .i64 0, .int .i64 0, .int .i64 0, .int .i64 0, .slice none 0 0, .slice none 0 0, .int .i64 0, .int .i64 0, .int .i64 0, .int .i64 0, .int .i64 0, .int .i64 0] 68)
    rw [show ((w.alloc (.cells #[.int .i64 L.d, .int .i64 L.n, .int .i64 L.b, .int .i64 L.a, .int .i64 L.x, .slice a.A1 a.n1 a.c1, .slice a.A2 a.n2 a.c2, .int .i64 st.u.d, .int .i64 st.u.n, .int .i64 st.u.b, .int .i64 st.u.a, .int .i64 st.u.x, .int .i64 st.err] 68)).alloc (.cells #[.int .i64 v.k, .string (bs v.l), .string (bs v.x), .slice v.A v.n v.c, .string (bs v.e)] 24)).heap.size = p + 1 + 1 by simp [hp]] at h
    rw [hW1, heapOldR (by simp [hp])]
    exact h
  have hb5 : W1.heap[p + 1 + 1 + 1]? = some (.cells #[.int .i64 0, .string ⟨#[]⟩, .string ⟨#[]⟩, .slice none 0 0, .string ⟨#[]⟩] 24 (0, 0)) := by
    have h := heap_alloc_new (((w.alloc (.cells #[.int .i64 L.d, .int .i64 L.n, .int .i64 L.b, .int .i64 L.a, .int .i64 L.x, .slice a.A1 a.n1 a.c1, .slice a.A2 a.n2 a.c2, .int .i64 st.u.d, .int .i64 st.u.n, .int .i64 st.u.b, .int .i64 st.u.a, .int .i64 st.u.x, .int .i64 st.err] 68)).alloc (.cells #[.int .i64 v.k, .string (bs v.l), .string (bs v.x), .slice v.A v.n v.c, .string (bs v.e)] 24)).alloc (.cells #[.int .i64 0, .int .i64 0, .int .i64 0, .int .i64 0, .int .i64 0, .slice none 0 0, .slice none 0 0, .int .i64 0, .int .i64 0, .int .i64 0, .int .i64 0, .int .i64 0, .int .i64 0] 68)) (.cells #[.int .i64 0, .string ⟨#[]⟩, .string ⟨#[]⟩, .slice none 0 0, .string ⟨#[]⟩] 24)
    rw [show (((w.alloc (.cells #[.int .i64 L.d, .int .i64 L.n, .int .i64 L.b, .int .i64 L.a, .int .i64 L.x, .slice a.A1 a.n1 a.c1, .slice a.A2 a.n2 a.c2, .int .i64 st.u.d, .int .i64 st.u.n, .int .i64 st.u.b, .int .i64 st.u.a, .int .i64 st.u.x, .int .i64 st.err] 68)).alloc (.cells #[.int .i64 v.k, .string (bs v.l), .string (bs v.x), .slice v.A v.n v.c, .string (bs v.e)] 24)).alloc (.cells #[.int .i64 0, .int .i64 0, .int .i64 0, .int .i64 0, .int .i64 0, .slice none 0 0, .slice none 0 0, .int .i64 0, .int .i64 0, .int .i64 0, .int .i64 0, .int .i64 0, .int .i64 0] 68)).heap.size = p + 1 + 1 + 1 by simp [hp]] at h
    rw [hW1]
    exact h
  have HG1 := Lib.hid hg1
  have HB2 := Lib.hid hb2
  have HB3 := Lib.hid hb3
  have HB4 := Lib.hid hb4
  have HB5 := Lib.hid hb5
  have HP := Lib.hid hp
  clear hW1 hg1 hb2 hb3 hb4 hb5 hp
  have hb2 := HB2.out
  have hb3 := HB3.out
  have k0 := cell_of_cells hb2 0
  have k1 := cell_of_cells hb2 1
  have k2 := cell_of_cells hb2 2
  have k3 := cell_of_cells hb2 3
  have k4 := cell_of_cells hb2 4
  have k5 := cell_of_cells hb2 5
  have k6 := cell_of_cells hb2 6
  have k7 := cell_of_cells hb2 7
  have k8 := cell_of_cells hb2 8
  have k9 := cell_of_cells hb2 9
  have k10 := cell_of_cells hb2 10
  have k11 := cell_of_cells hb2 11
  have k12 := cell_of_cells hb2 12
  have kl := lt_of_block hb2
  have j0 := cell_of_cells hb3 0
  have j1 := cell_of_cells hb3 1
  have j2 := cell_of_cells hb3 2
  have j3 := cell_of_cells hb3 3
  have j4 := cell_of_cells hb3 4
  have jl := lt_of_block hb3
  have kf12 := free_of_cells hb2 12
  have HROW := Lib.hid (hs.row1.on (HG1.out.on P))
  clear hb2 hb3 hs yn ys hx1
  go_loopw [10] (fun iv wr => ∃ j : Nat, j ≤ a.n1 ∧ iv = .int .i64 j ∧ nm ∉ st.names.take j ∧ wr = W1) (fun iv _ => a.n1 - (intOf iv).toNat)
  case atStart => exact ⟨0, Nat.zero_le _, rfl, by simp, rfl⟩
  case round =>
    obtain ⟨j, hj, rfl, hnx, rfl⟩ := hrel
    have HNX := Lib.hid hnx
    clear hnx
    by_cases hlt : j < a.n1
    · obtain ⟨x, hx⟩ : ∃ x, st.names[j]? = some x := ⟨st.names[j]'(by rw [← HN1.out]; omega), List.getElem?_eq_getElem _⟩
      obtain ⟨gn, hA1, _, hgl, hgc⟩ := HROW.out (fun h0 => by rw [List.map_eq_nil_iff] at h0; rw [h0] at hx; simp at hx)
      have c1 := hgc j (.string (bs x)) (by rw [List.getElem?_map, hx]; rfl)
      rw [hA1] at k5
      have hlt1 : (j : Int) < (a.n1 : Int) := by omega
      have HX := Lib.hid hx
      clear hgc hx hA1
      by_cases hxn : x = nm
      · have qe : ((bs x).toList == (bs nm).toList) = true := by rw [hxn]; simp
        have HXN := Lib.hid hxn
        clear hxn
        go_wp2_with fail
        have hgw := Gr.refl wr
        have hp := HP.out
        obtain ⟨W0, hW0⟩ : ∃ W0, W0 = (wr.setCell ⟨p, 12, none⟩ (.int .i64 8)) := ⟨_, rfl⟩
        try rw [← hW0]
        have HX2 : Hid (W0.heap[p]? = some (.cells #[.int .i64 L.d, .int .i64 L.n, .int .i64 L.b, .int .i64 L.a, .int .i64 L.x, .slice a.A1 a.n1 a.c1, .slice a.A2 a.n2 a.c2, .int .i64 st.u.d, .int .i64 st.u.n, .int .i64 st.u.b, .int .i64 st.u.a, .int .i64 st.u.x, .int .i64 8] 68 (0, 0))) := Lib.hid (by rw [hW0]; exact cells_set HB2.out _)
        have HX3 : Hid (W0.heap[p + 1]? = some (.cells #[.int .i64 v.k, .string (bs v.l), .string (bs v.x), .slice v.A v.n v.c, .string (bs v.e)] 24 (0, 0))) := Lib.hid (by rw [hW0]; (repeat (rw [heap_set_other (by simp)])); exact ((hgw.block (p + 1) (lt_of_block HB3.out)).trans HB3.out))
        have HZ6 : Hid (W0.heap[p + 1 + 1]? = some (.cells #[.int .i64 0, .int .i64 0, .int .i64 0, .int .i64 0, .int .i64 0, .slice none 0 0, .slice none 0 0, .int .i64 0, .int .i64 0, .int .i64 0, .int .i64 0, .int .i64 0, .int .i64 0] 68 (0, 0))) := Lib.hid (by rw [hW0]; (repeat (rw [heap_set_other (by simp; omega)])); exact ((hgw.block (p + 1 + 1) (lt_of_block HB4.out)).trans HB4.out))
        have HZ7 : Hid (W0.heap[p + 1 + 1 + 1]? = some (.cells #[.int .i64 0, .string ⟨#[]⟩, .string ⟨#[]⟩, .slice none 0 0, .string ⟨#[]⟩] 24 (0, 0))) := Lib.hid (by rw [hW0]; (repeat (rw [heap_set_other (by simp; omega)])); exact ((hgw.block (p + 1 + 1 + 1) (lt_of_block HB5.out)).trans HB5.out))
        have HGR0 : Hid (Gr w W0) := Lib.hid (by rw [hW0]; exact HG1.out.setCell (by simp; omega) _)
        clear hW0 hgw hp k0 k1 k2 k3 k4 k5 k6 k7 k8 k9 k10 k11 k12 kf12 kl j0 j1 j2 j3 j4 jl
        obtain ⟨VS, hVS⟩ : ∃ VS : List (Nat × Nat × Value), VS = [(0, 54, .agg #[.int .i64 L.d, .int .i64 L.n, .int .i64 L.b, .int .i64 L.a, .int .i64 L.x, .slice a.A1 a.n1 a.c1, .slice a.A2 a.n2 a.c2, .int .i64 st.u.d, .int .i64 st.u.n, .int .i64 st.u.b, .int .i64 st.u.a, .int .i64 st.u.x, .int .i64 8]), (1, 55, .agg #[.int .i64 v.k, .string (bs v.l), .string (bs v.x), .slice v.A v.n v.c, .string (bs v.e)]), (4, 8, .int .i64 0)] := ⟨_, rfl⟩
        obtain ⟨US, hUS⟩ : ∃ US : List (Nat × Value), US = [(3, .pointer (some ⟨p, 0, none⟩)), (4, .pointer (some ⟨p + 1, 0, none⟩)), (6, .pointer (some ⟨p + 1 + 1, 0, none⟩)), (7, .pointer (some ⟨p + 1 + 1 + 1, 0, none⟩))] := ⟨_, rfl⟩
        refine wp_region_frame (by kernel_rfl) (by kernel_rfl) [54, 55, 8] (by simp) (Det VS US (fun B _ w' => CP w W0 (p + 1 + 1) (p + 1 + 1 + 1) #[.int .i64 L.d, .int .i64 L.n, .int .i64 L.b, .int .i64 L.a, .int .i64 L.x, .slice a.A1 a.n1 a.c1, .slice a.A2 a.n2 a.c2, .int .i64 st.u.d, .int .i64 st.u.n, .int .i64 st.u.b, .int .i64 st.u.a, .int .i64 st.u.x, .int .i64 8] #[.int .i64 0, .int .i64 0, .int .i64 0, .int .i64 0, .int .i64 0, .slice none 0 0, .slice none 0 0, .int .i64 0, .int .i64 0, .int .i64 0, .int .i64 0, .int .i64 0, .int .i64 0] #[.int .i64 v.k, .string (bs v.l), .string (bs v.x), .slice v.A v.n v.c, .string (bs v.e)] #[.int .i64 0, .string ⟨#[]⟩, .string ⟨#[]⟩, .slice none 0 0, .string ⟨#[]⟩] 2 3 B w')) ?_ ?_ ?_
        · exact Det.start (by rw [hUS]; simp [slot]) (CP.start HGR0.out.drew (Off.gr ((Gr.refl _).drew)) HZ6.out HZ7.out)
        · intro B a' w' i o hfr hF ho hBi hdp
          have hi8 := (Array.getElem?_eq_some_iff.1 ho).1
          simp only [List.size_toArray, List.length_cons, List.length_nil] at hi8
          have hor : i = 0 ∨ i = 1 ∨ i = 2 ∨ i = 3 ∨ i = 4 := by omega
          clear hi8
          rcases hor with rfl | rfl | rfl | rfl | rfl
          all_goals (
            simp only [List.getElem?_toArray, List.getElem?_cons_zero, List.getElem?_cons_succ, Option.some.injEq] at ho
            subst ho
            rw [if_pos (show Region.wanted _ _ = true from rfl)]
            refine wp_hideK ?_
            intro K hK)
          · have hFW := hF.wd
            have o3 := slot_spell (hF.had (d := 3) (v := .pointer (some ⟨p, 0, none⟩)) (by rw [hUS]; simp))
            have hb := hFW.off.block HX2.out (by simp; try omega)
            have k0 := cell_of_cells hb 0
            have k1 := cell_of_cells hb 1
            have k2 := cell_of_cells hb 2
            have k3 := cell_of_cells hb 3
            have k4 := cell_of_cells hb 4
            have k5 := cell_of_cells hb 5
            have k6 := cell_of_cells hb 6
            have k7 := cell_of_cells hb 7
            have k8 := cell_of_cells hb 8
            have k9 := cell_of_cells hb 9
            have k10 := cell_of_cells hb 10
            have k11 := cell_of_cells hb 11
            have k12 := cell_of_cells hb 12
            have kl := lt_of_block hb
            go_simp
            exact hK.out _ _ (close_put hfr (d := 54) (by decide) (by simp) _ (F := fun u => Det VS US (fun B _ w' => CP w W0 (p + 1 + 1) (p + 1 + 1 + 1) #[.int .i64 L.d, .int .i64 L.n, .int .i64 L.b, .int .i64 L.a, .int .i64 L.x, .slice a.A1 a.n1 a.c1, .slice a.A2 a.n2 a.c2, .int .i64 st.u.d, .int .i64 st.u.n, .int .i64 st.u.b, .int .i64 st.u.a, .int .i64 st.u.x, .int .i64 8] #[.int .i64 0, .int .i64 0, .int .i64 0, .int .i64 0, .int .i64 0, .slice none 0 0, .slice none 0 0, .int .i64 0, .int .i64 0, .int .i64 0, .int .i64 0, .int .i64 0, .int .i64 0] #[.int .i64 v.k, .string (bs v.l), .string (bs v.x), .slice v.A v.n v.c, .string (bs v.e)] #[.int .i64 0, .string ⟨#[]⟩, .string ⟨#[]⟩, .slice none 0 0, .string ⟨#[]⟩] 2 3 B w') (upB B 0) u _) (hF.step (by rw [hVS]; simp) (by rw [hUS]; simp) (hFW.skip (by decide) (by decide))))
          · have hFW := hF.wd
            have o4 := slot_spell (hF.had (d := 4) (v := .pointer (some ⟨p + 1, 0, none⟩)) (by rw [hUS]; simp))
            have hb := hFW.off.block HX3.out (by simp; try omega)
            have k0 := cell_of_cells hb 0
            have k1 := cell_of_cells hb 1
            have k2 := cell_of_cells hb 2
            have k3 := cell_of_cells hb 3
            have k4 := cell_of_cells hb 4
            have kl := lt_of_block hb
            go_simp
            exact hK.out _ _ (close_put hfr (d := 55) (by decide) (by simp) _ (F := fun u => Det VS US (fun B _ w' => CP w W0 (p + 1 + 1) (p + 1 + 1 + 1) #[.int .i64 L.d, .int .i64 L.n, .int .i64 L.b, .int .i64 L.a, .int .i64 L.x, .slice a.A1 a.n1 a.c1, .slice a.A2 a.n2 a.c2, .int .i64 st.u.d, .int .i64 st.u.n, .int .i64 st.u.b, .int .i64 st.u.a, .int .i64 st.u.x, .int .i64 8] #[.int .i64 0, .int .i64 0, .int .i64 0, .int .i64 0, .int .i64 0, .slice none 0 0, .slice none 0 0, .int .i64 0, .int .i64 0, .int .i64 0, .int .i64 0, .int .i64 0, .int .i64 0] #[.int .i64 v.k, .string (bs v.l), .string (bs v.x), .slice v.A v.n v.c, .string (bs v.e)] #[.int .i64 0, .string ⟨#[]⟩, .string ⟨#[]⟩, .slice none 0 0, .string ⟨#[]⟩] 2 3 B w') (upB B 1) u _) (hF.step (by rw [hVS]; simp) (by rw [hUS]; simp) (hFW.skip (by decide) (by decide))))
          · have hFW := hF.wd
            have hB0 : B 0 = true := hdp ⟨0, .data⟩ (by simp) (by rfl)
            have e0 := slot_spell (hF.get (i := 0) (d := 54) (v := .agg #[.int .i64 L.d, .int .i64 L.n, .int .i64 L.b, .int .i64 L.a, .int .i64 L.x, .slice a.A1 a.n1 a.c1, .slice a.A2 a.n2 a.c2, .int .i64 st.u.d, .int .i64 st.u.n, .int .i64 st.u.b, .int .i64 st.u.a, .int .i64 st.u.x, .int .i64 8]) (by rw [hVS]; simp) hB0)
            have o6 := slot_spell (hF.had (d := 6) (v := .pointer (some ⟨p + 1 + 1, 0, none⟩)) (by rw [hUS]; simp))
            have q6 := hFW.b6
            rw [if_neg (by rw [hBi]; decide)] at q6
            have y0 := cell_of_cells q6 0
            have yf0 := free_of_cells q6 0
            have y1 := cell_of_cells q6 1
            have yf1 := free_of_cells q6 1
            have y2 := cell_of_cells q6 2
            have yf2 := free_of_cells q6 2
            have y3 := cell_of_cells q6 3
            have yf3 := free_of_cells q6 3
            have y4 := cell_of_cells q6 4
            have yf4 := free_of_cells q6 4
            have y5 := cell_of_cells q6 5
            have yf5 := free_of_cells q6 5
            have y6 := cell_of_cells q6 6
            have yf6 := free_of_cells q6 6
            have y7 := cell_of_cells q6 7
            have yf7 := free_of_cells q6 7
            have y8 := cell_of_cells q6 8
            have yf8 := free_of_cells q6 8
            have y9 := cell_of_cells q6 9
            have yf9 := free_of_cells q6 9
            have y10 := cell_of_cells q6 10
            have yf10 := free_of_cells q6 10
            have y11 := cell_of_cells q6 11
            have yf11 := free_of_cells q6 11
            have y12 := cell_of_cells q6 12
            have yf12 := free_of_cells q6 12
            have yl := lt_of_block q6
            go_simp
            exact hK.out _ _ (close_none hfr undef (F := fun u => Det VS US (fun B _ w' => CP w W0 (p + 1 + 1) (p + 1 + 1 + 1) #[.int .i64 L.d, .int .i64 L.n, .int .i64 L.b, .int .i64 L.a, .int .i64 L.x, .slice a.A1 a.n1 a.c1, .slice a.A2 a.n2 a.c2, .int .i64 st.u.d, .int .i64 st.u.n, .int .i64 st.u.b, .int .i64 st.u.a, .int .i64 st.u.x, .int .i64 8] #[.int .i64 0, .int .i64 0, .int .i64 0, .int .i64 0, .int .i64 0, .slice none 0 0, .slice none 0 0, .int .i64 0, .int .i64 0, .int .i64 0, .int .i64 0, .int .i64 0, .int .i64 0] #[.int .i64 v.k, .string (bs v.l), .string (bs v.x), .slice v.A v.n v.c, .string (bs v.e)] #[.int .i64 0, .string ⟨#[]⟩, .string ⟨#[]⟩, .slice none 0 0, .string ⟨#[]⟩] 2 3 B w') (upB B 2) u _) (hF.none (by rw [hVS]; simp) (hFW.s6 hBi (by decide) (by omega) (by have hp := HP.out; omega) rfl rfl)))
          · have hFW := hF.wd
            have hB1 : B 1 = true := hdp ⟨1, .data⟩ (by simp) (by rfl)
            have e1 := slot_spell (hF.get (i := 1) (d := 55) (v := .agg #[.int .i64 v.k, .string (bs v.l), .string (bs v.x), .slice v.A v.n v.c, .string (bs v.e)]) (by rw [hVS]; simp) hB1)
            have o7 := slot_spell (hF.had (d := 7) (v := .pointer (some ⟨p + 1 + 1 + 1, 0, none⟩)) (by rw [hUS]; simp))
            have q7 := hFW.b7
            rw [if_neg (by rw [hBi]; decide)] at q7
            have y0 := cell_of_cells q7 0
            have yf0 := free_of_cells q7 0
            have y1 := cell_of_cells q7 1
            have yf1 := free_of_cells q7 1
            have y2 := cell_of_cells q7 2
            have yf2 := free_of_cells q7 2
            have y3 := cell_of_cells q7 3
            have yf3 := free_of_cells q7 3
            have y4 := cell_of_cells q7 4
            have yf4 := free_of_cells q7 4
            have yl := lt_of_block q7
            go_simp
            exact hK.out _ _ (close_none hfr undef (F := fun u => Det VS US (fun B _ w' => CP w W0 (p + 1 + 1) (p + 1 + 1 + 1) #[.int .i64 L.d, .int .i64 L.n, .int .i64 L.b, .int .i64 L.a, .int .i64 L.x, .slice a.A1 a.n1 a.c1, .slice a.A2 a.n2 a.c2, .int .i64 st.u.d, .int .i64 st.u.n, .int .i64 st.u.b, .int .i64 st.u.a, .int .i64 st.u.x, .int .i64 8] #[.int .i64 0, .int .i64 0, .int .i64 0, .int .i64 0, .int .i64 0, .slice none 0 0, .slice none 0 0, .int .i64 0, .int .i64 0, .int .i64 0, .int .i64 0, .int .i64 0, .int .i64 0] #[.int .i64 v.k, .string (bs v.l), .string (bs v.x), .slice v.A v.n v.c, .string (bs v.e)] #[.int .i64 0, .string ⟨#[]⟩, .string ⟨#[]⟩, .slice none 0 0, .string ⟨#[]⟩] 2 3 B w') (upB B 3) u _) (hF.none (by rw [hVS]; simp) (hFW.s7 hBi (by decide) (by omega) (by have hp := HP.out; omega) rfl rfl)))
          · have hFW := hF.wd
            go_simp
            exact hK.out _ _ (close_put hfr (d := 8) (by decide) (by simp) _ (F := fun u => Det VS US (fun B _ w' => CP w W0 (p + 1 + 1) (p + 1 + 1 + 1) #[.int .i64 L.d, .int .i64 L.n, .int .i64 L.b, .int .i64 L.a, .int .i64 L.x, .slice a.A1 a.n1 a.c1, .slice a.A2 a.n2 a.c2, .int .i64 st.u.d, .int .i64 st.u.n, .int .i64 st.u.b, .int .i64 st.u.a, .int .i64 st.u.x, .int .i64 8] #[.int .i64 0, .int .i64 0, .int .i64 0, .int .i64 0, .int .i64 0, .slice none 0 0, .slice none 0 0, .int .i64 0, .int .i64 0, .int .i64 0, .int .i64 0, .int .i64 0, .int .i64 0] #[.int .i64 v.k, .string (bs v.l), .string (bs v.x), .slice v.A v.n v.c, .string (bs v.e)] #[.int .i64 0, .string ⟨#[]⟩, .string ⟨#[]⟩, .slice none 0 0, .string ⟨#[]⟩] 2 3 B w') (upB B 4) u _) (hF.step (by rw [hVS]; simp) (by rw [hUS]; simp) (hFW.skip (by decide) (by decide))))
        · intro B u w' hall hF
          have z0 := hF.get (i := 0) (d := 54) (v := .agg #[.int .i64 L.d, .int .i64 L.n, .int .i64 L.b, .int .i64 L.a, .int .i64 L.x, .slice a.A1 a.n1 a.c1, .slice a.A2 a.n2 a.c2, .int .i64 st.u.d, .int .i64 st.u.n, .int .i64 st.u.b, .int .i64 st.u.a, .int .i64 st.u.x, .int .i64 8]) (by rw [hVS]; simp) (hall 0 (by simp))
          have z1 := hF.get (i := 1) (d := 55) (v := .agg #[.int .i64 v.k, .string (bs v.l), .string (bs v.x), .slice v.A v.n v.c, .string (bs v.e)]) (by rw [hVS]; simp) (hall 1 (by simp))
          have z4 := hF.get (i := 4) (d := 8) (v := .int .i64 0) (by rw [hVS]; simp) (hall 4 (by simp))
          have hFW := hF.wd
          clear hF hVS hUS
          simp only [List.foldl_cons, List.foldl_nil, Act.put, List.setIfInBounds_toArray, List.set_cons_zero, List.set_cons_succ, z0, z1, z4]
          clear z0 z1 z4
          have hp := HP.out
          have q6 := hFW.b6
          have q7 := hFW.b7
          have hgf := hFW.gr
          have hof := hFW.off
          rw [if_pos (hall 2 (by simp))] at q6
          rw [if_pos (hall 3 (by simp))] at q7
          clear hall hFW
          go_wp2_with fail
          refine bodyPost_ret (results_state rfl _ _ _ _ _ _ rfl rfl rfl q6 rfl q7) rfl ⟨a, v, by rw [← HQ.out]; rfl, ?_, ?_, hgf⟩
          · rw [← HQ.out]
            exact (HS.out.err 8).on (hgf.on P)
          · rw [← HQ.out]
            exact HR.out.on (hgf.on P)
      · have qe : ((bs x).toList == (bs nm).toList) = false := by simpa [bs_listR] using hxn
        have hnx2 : nm ∉ st.names.take (j + 1) := by
          rw [List.take_add_one, HX.out, List.mem_append]
          rintro (h | h)
          · exact HNX.out h
          · simp at h
            exact hxn h.symm
        have HNX2 := Lib.hid hnx2
        clear hxn hnx2
        go_wp2_with fail
        exact ⟨⟨j + 1, by omega, by go_num, HNX2.out, trivial⟩, by simp [intOf] <;> omega⟩
    · have hnn : nm ∉ st.names := by
        have h := HNX.out
        rwa [List.take_of_length_le (by rw [← HN1.out]; omega)] at h
      have HNN := Lib.hid hnn
      clear hnn
      exact absurd HDUP.out HNN.out
end Go.Proofs.Ytbfnmgiccbdglaa
