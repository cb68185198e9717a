/- expand of anchor, walked. -/
import Derived.Test.YtbfnmgiccbdglaaAnXLaw
import Derived.Test.YtbfnmgiccbdglaaAnRVisG
import Derived.Test.YtbfnmgiccbdglaaAnCheck
namespace Go.Proofs.Ytbfnmgiccbdglaa
open Go.ChangeShapes Go.WideShapes Go.ChangeAt Go.RowKit

def XPost (t' : NT) (w : World) (e : Ending) (w' : World) : Prop := ∃ d : ND, e = .returned (.agg #[.int .i64 d.k, .string (bs d.l), .string (bs d.x), .slice d.A d.n d.c, .string (bs d.e)]) ∧ NR (fun b => w.heap.size ≤ b) w' d t' ∧ Gr w w'
theorem NR.bare2 {P Q : Nat → Prop} {W w : World} {v : ND} {t : NT} (h : NR P W v t) : NR Q w ⟨v.k, v.l, v.x, none, 0, 0, v.e⟩ (.mk t.k t.l t.x [] t.e) := by
  obtain ⟨m0, hr0⟩ := h
  obtain ⟨m1, _, e1, e2, e3, e4, _, _, _, e8, e9, e10, e11, _⟩ := hr0.parts
  exact ⟨1, e1, e2, e3, e4, rfl, Nat.le_refl _, Nat.zero_le _, e8, e9, e10, e11, fun _ => rfl, fun i y hy => by simp at hy⟩
theorem NR.text2 {P : Nat → Prop} {W : World} {v : ND} {t : NT} (h : NR P W v t) : v.k = t.k ∧ v.x = t.x ∧ v.x.length ≤ maxLen ∧ v.n = t.ks.length ∧ v.n ≤ maxLen := by
  obtain ⟨m0, hr0⟩ := h
  obtain ⟨m1, _, e1, e2, e3, e4, e5, e6, e7, e8, e9, e10, e11, _⟩ := hr0.parts
  exact ⟨e1, e3, by rw [e3]; exact e10, e5, Nat.le_trans e6 e7⟩
theorem NR.kid {P : Nat → Prop} {W : World} {v : ND} {t : NT} (h : NR P W v t) {i : Nat} {y : NT} (hy : t.ks[i]? = some y) : ∃ (b o : Nat) (d : ND), v.A = some ⟨b, o, none⟩ ∧ P b ∧ b < W.heap.size ∧ NCells W b (o + i * 5) d ∧ NR P W d y := by
  obtain ⟨m0, hr0⟩ := h
  obtain ⟨m1, _, e1, e2, e3, e4, e5, e6, e7, e8, e9, e10, e11, _, h12⟩ := hr0.parts
  obtain ⟨b, o, d, h1, h2, h3, h4, h5⟩ := h12 i y hy
  exact ⟨b, o, d, h1, h2, h3, h4, m1, h5⟩
theorem NR.gr {P : Nat → Prop} {W w : World} {v : ND} {t : NT} (h : NR P W v t) (hg : Gr W w) : NR P w v t := h.on (hg.on P)
/-- The boxes that expand lays first. -/
structure XBox (w W : World) (v : ND) : Prop where
  gr : Gr w W
  a : NBox W w.heap.size v
  z : NBox W (w.heap.size + 1) ⟨0, [], [], none, 0, 0, []⟩
theorem XBox.made (w : World) (v : ND) : XBox w ((w.alloc (.cells #[.int .i64 v.k, .string (bs v.l), .string (bs v.x), .slice v.A v.n v.c, .string (bs v.e)] 24)).alloc (.cells #[.int .i64 0, .string ⟨#[]⟩, .string ⟨#[]⟩, .slice none 0 0, .string ⟨#[]⟩] 24)) v := by
  refine ⟨((Gr.refl w).alloc _).alloc _, NBox.gr (heap_alloc_new w _) ((Gr.refl _).alloc _), ?_⟩
  have h := heap_alloc_new (w.alloc (.cells #[.int .i64 v.k, .string (bs v.l), .string (bs v.x), .slice v.A v.n v.c, .string (bs v.e)] 24)) (.cells #[.int .i64 0, .string ⟨#[]⟩, .string ⟨#[]⟩, .slice none 0 0, .string ⟨#[]⟩] 24)
  rw [show (w.alloc (.cells #[.int .i64 v.k, .string (bs v.l), .string (bs v.x), .slice v.A v.n v.c, .string (bs v.e)] 24)).heap.size = w.heap.size + 1 by simp] at h
  exact h
theorem XBox.to {w W W' : World} {v : ND} (h : XBox w W v) (hg : Gr W W') : XBox w W' v := ⟨h.gr.trans hg, h.a.gr hg, h.z.gr hg⟩
/-- The result is written. -/
theorem XBox.put {w W0 W : World} {v d : ND} {t' : NT} (h : XBox w W v) (h0 : w.heap.size + 1 < W0.heap.size) (hn : NR (fun b => W0.heap.size ≤ b) W d t') :
    ∃ W', W' = (((((W.setCell ⟨w.heap.size + 1, 0, none⟩ (.int .i64 d.k)).setCell ⟨w.heap.size + 1, 1, none⟩ (.string (bs d.l))).setCell ⟨w.heap.size + 1, 2, none⟩ (.string (bs d.x))).setCell ⟨w.heap.size + 1, 3, none⟩ (.slice d.A d.n d.c)).setCell ⟨w.heap.size + 1, 4, none⟩ (.string (bs d.e))) ∧
      NBox W' (w.heap.size + 1) d ∧ NR (fun b => w.heap.size ≤ b) W' d t' ∧ Gr w W' := by
  refine ⟨_, rfl, h.z.set d, ?_, ((((h.gr.setCell (by simp) _).setCell (by simp) _).setCell (by simp) _).setCell (by simp) _).setCell (by simp) _⟩
  have hof : Off [w.heap.size + 1] W (((((W.setCell ⟨w.heap.size + 1, 0, none⟩ (.int .i64 d.k)).setCell ⟨w.heap.size + 1, 1, none⟩ (.string (bs d.l))).setCell ⟨w.heap.size + 1, 2, none⟩ (.string (bs d.x))).setCell ⟨w.heap.size + 1, 3, none⟩ (.slice d.A d.n d.c)).setCell ⟨w.heap.size + 1, 4, none⟩ (.string (bs d.e))) := (((((Off.refl _ _).set (by simp) _).set (by simp) _).set (by simp) _).set (by simp) _).set (by simp) _
  exact (hn.on (hof.on (fun b hb hm => by
    have h1 : b = w.heap.size + 1 := by simpa using hm
    have h2 : W0.heap.size ≤ b := hb
    omega))).fence (fun b hb _ => by
    have h2 : W0.heap.size ≤ b := hb
    omega)
set_option maxRecDepth 100000 in
set_option maxHeartbeats 4000000 in
theorem expand_anchor (nb Bv Bm : Nat) (L : U5) (cnt : Nat) (g : List UInt8 → Option Nat) (st : AS) (m : Nat) (v : ND) (t t' : NT) (w : World) (HR : Hid (NR anyB w v t)) (HS : Hid (VSt nb Bv Bm L cnt g st w)) (hk : t.k = 9) (y : NT) (hy : t.ks[0]? = some y) (hx : Exp (EM st) m y t') (HI : Hid (∀ (v : ND) (t t' : NT) (w : World), NR anyB w v t → Exp (EM st) m t t' → VSt nb Bv Bm L cnt g st w → Calls Try.prog 38 #[.pointer (some ⟨Bv, 0, none⟩), .agg #[.int .i64 v.k, .string (bs v.l), .string (bs v.x), .slice v.A v.n v.c, .string (bs v.e)]] w (XPost t' w))) : Calls Try.prog 38 #[.pointer (some ⟨Bv, 0, none⟩), .agg #[.int .i64 v.k, .string (bs v.l), .string (bs v.x), .slice v.A v.n v.c, .string (bs v.e)]] w (XPost t' w) := by
  have htx := HR.out.text2
  have hbx := XBox.made w v
  have HBX := Lib.hid hbx
  have HS1 := Lib.hid (HS.out.gr hbx.gr)
  have HR1 := Lib.hid (HR.out.gr hbx.gr)
  obtain ⟨j0, j1, j2, j3, j4⟩ := hbx.a.cells
  have jl := lt_of_block hbx.a
  obtain ⟨bk, ok, d, hA, _, hbk, hce, hre⟩ := HR1.out.kid hy
  have hn : v.n = t.ks.length := htx.2.2.2.1
  have hlt : 0 < v.n := by rw [hn]; exact (List.getElem?_eq_some_iff.1 hy).1
  have hlt1 : (0 : Int) < (v.n : Int) := by omega
  obtain ⟨e0, e1, e2, e3, e4⟩ := hce
  simp only [Nat.zero_mul, Nat.add_zero] at e0 e1 e2 e3 e4
  have hvk : (v.k == 9) = true := by rw [htx.1, hk]; rfl
  have HCALL := Lib.hid (HI.out d y t' ((w.alloc (.cells #[.int .i64 v.k, .string (bs v.l), .string (bs v.x), .slice v.A v.n v.c, .string (bs v.e)] 24)).alloc (.cells #[.int .i64 0, .string ⟨#[]⟩, .string ⟨#[]⟩, .slice none 0 0, .string ⟨#[]⟩] 24)) hre hx HS1.out)
  have h63 := htx.2.2.2.2
  unfold maxLen at h63
  clear hbx hk hy hx hre htx hn
  obtain ⟨vk, vl, vx, vA, vn, vc, ve⟩ := v
  simp only at hA hlt hlt1 hvk j0 j1 j2 j3 j4 h63 e0 e1 e2 e3 e4
  subst hA
  go_enter Try.func38, Try.ntmps38
  go_wp2_with (go_at_call 38; refine HCALL.out.mono ?_; rintro e w2 ⟨d2, rfl, hn2, hg2⟩; (have hbx2 := HBX.out.to hg2); (obtain ⟨z0, z1, z2, z3, z4⟩ := hbx2.z.cells); (have zl := lt_of_block hbx2.z); (have zf0 := free_of_cells hbx2.z 0); (have zf1 := free_of_cells hbx2.z 1); (have zf2 := free_of_cells hbx2.z 2); (have zf3 := free_of_cells hbx2.z 3); (have zf4 := free_of_cells hbx2.z 4); (have HBX2 := Lib.hid hbx2); (have HN2 := Lib.hid hn2); clear hbx2 hn2 hg2)
  obtain ⟨_, rfl, hb', hn', hg'⟩ := HBX2.out.put (by simp) HN2.out
  refine bodyPost_ret (results_cell_row (fn := Try.f38) rfl _ _ _ _ _ _ _ rfl (hb') Try.underlying24 rfl (by kernel_rfl)) rfl ⟨d2, rfl, hn', hg'⟩
set_option maxRecDepth 100000 in
set_option maxHeartbeats 4000000 in
theorem expand_alias (nb Bv Bm : Nat) (L : U5) (cnt : Nat) (g : List UInt8 → Option Nat) (st : AS) (m : Nat) (v : ND) (t t' : NT) (w : World) (HR : Hid (NR anyB w v t)) (HS : Hid (VSt nb Bv Bm L cnt g st w)) (hk : t.k = 10) (y : NT) (h1 : 1 ≤ t.x.length) (hy : EM st (t.x.drop 1) = some y) (hx : Exp (EM st) m y t') (HI : Hid (∀ (v : ND) (t t' : NT) (w : World), NR anyB w v t → Exp (EM st) m t t' → VSt nb Bv Bm L cnt g st w → Calls Try.prog 38 #[.pointer (some ⟨Bv, 0, none⟩), .agg #[.int .i64 v.k, .string (bs v.l), .string (bs v.x), .slice v.A v.n v.c, .string (bs v.e)]] w (XPost t' w))) : Calls Try.prog 38 #[.pointer (some ⟨Bv, 0, none⟩), .agg #[.int .i64 v.k, .string (bs v.l), .string (bs v.x), .slice v.A v.n v.c, .string (bs v.e)]] w (XPost t' w) := by
  have htx := HR.out.text2
  have hbx := XBox.made w v
  have HBX := Lib.hid hbx
  have HS1 := Lib.hid (HS.out.gr hbx.gr)
  have HR1 := Lib.hid (HR.out.gr hbx.gr)
  obtain ⟨j0, j1, j2, j3, j4⟩ := hbx.a.cells
  have jl := lt_of_block hbx.a
  rw [← htx.2.1] at hy h1
  obtain ⟨nm, hnm⟩ : ∃ nm, nm = v.x.drop 1 := ⟨_, rfl⟩
  rw [← hnm] at hy
  obtain ⟨co, hco⟩ := EM.some hy
  obtain ⟨b, hgb⟩ : ∃ b, g nm = some b := by
    cases hg : g nm with
    | some b => exact ⟨b, rfl⟩
    | none => rw [HS.out.no nm hg] at hco; cases hco
  obtain ⟨kt, co', hE, _, d, md, cz, htb, hrd, _⟩ := HS.out.yes nm b hgb
  rw [hco] at hE
  simp only [Option.some.injEq, Prod.mk.injEq] at hE
  obtain ⟨rfl, rfl⟩ := hE
  have HTB : Hid (TBox w b d cz co.isSome) := Lib.hid htb
  have hnl : nm.length ≤ maxLen := by rw [hnm, List.length_drop]; exact Nat.le_trans (Nat.sub_le _ _) htx.2.2.1
  have HLK : Hid (∀ w', Gr w w' → (Instr.lookup 62 (.map (some Bm)) (.string (bs nm)) false).run Try.prog w' = .ok (.pointer (some ⟨b, 0, none⟩)) w') := Lib.hid (fun w' hg => (HS.out.gr hg).mp.look (w := w') Try.underlying62 (zeroT _) hnl |>.trans (by rw [hgb]; rfl))
  have HVB := Lib.hid HS.out.vis
  have HEX : Hid ((bs v.x).extract 1 v.x.length = bs nm) := Lib.hid (by rw [hnm]; exact bs_drop1 v.x)
  have HSZ : Hid ((bs v.x).size = v.x.length) := Lib.hid rfl
  have HBXD : Hid (XBox w ((w.alloc (.cells #[.int .i64 v.k, .string (bs v.l), .string (bs v.x), .slice v.A v.n v.c, .string (bs v.e)] 24)).alloc (.cells #[.int .i64 0, .string ⟨#[]⟩, .string ⟨#[]⟩, .slice none 0 0, .string ⟨#[]⟩] 24)).drew v) := Lib.hid (hbx.to (Gr.refl _).drew)
  have HCALL : Hid (∀ w', Gr w w' → Calls Try.prog 38 #[.pointer (some ⟨Bv, 0, none⟩), .agg #[.int .i64 d.k, .string (bs d.l), .string (bs d.x), .slice d.A d.n d.c, .string (bs d.e)]] w' (XPost t' w')) := Lib.hid (fun w' hg => HI.out d y t' w' ⟨md, (hrd.gr hg).mono (fun _ _ => trivial)⟩ hx (HS.out.gr hg))
  have r9 : (v.k == 9) = false := by rw [htx.1, hk]; rfl
  have r10 : (v.k == 10) = true := by rw [htx.1, hk]; rfl
  clear hbx hk hy hx htx hnm hco hgb htb hrd hnl HS1 HR1
  go_enter Try.func38, Try.ntmps38
  go_wp2_with fail
  clear j0 j1 j2 j3 j4 jl
  obtain ⟨VS, hVS⟩ : ∃ VS : List (Nat × Nat × Value), VS = [(0, 20, .pointer (some ⟨Bv, 0, none⟩)), (1, 21, .pointer (some ⟨Bv, 0, none⟩)), (2, 22, .pointer (some ⟨Bv, 0, none⟩)), (3, 23, .pointer (some ⟨Bv, 10, none⟩)), (4, 24, .map (some Bm)), (5, 25, .pointer (some ⟨w.heap.size, 2, none⟩)), (6, 26, .string (bs v.x)), (7, 27, .string (bs nm)), (8, 28, .pointer (some ⟨b, 0, none⟩)), (9, 29, .pointer (some ⟨b, 0, none⟩)), (10, 30, .pointer (some ⟨b, 0, none⟩)), (11, 31, .agg #[.int .i64 d.k, .string (bs d.l), .string (bs d.x), .slice d.A d.n d.c, .string (bs d.e)])] := ⟨_, rfl⟩
  obtain ⟨US, hUS⟩ : ∃ US : List (Nat × Value), US = [(0, .pointer (some ⟨Bv, 0, none⟩)), (3, .pointer (some ⟨w.heap.size, 0, none⟩)), (4, .pointer (some ⟨w.heap.size + 1, 0, none⟩))] := ⟨_, rfl⟩
  refine wp_region_frame (by kernel_rfl) (by kernel_rfl) [20, 21, 22, 23, 24, 25, 26, 27, 28, 29, 30, 31, 32] (by simp) (Det VS US (fun B u w' => Gr w w' ∧ (((w.alloc (.cells #[.int .i64 v.k, .string (bs v.l), .string (bs v.x), .slice v.A v.n v.c, .string (bs v.e)] 24)).alloc (.cells #[.int .i64 0, .string ⟨#[]⟩, .string ⟨#[]⟩, .slice none 0 0, .string ⟨#[]⟩] 24)).drew).heap.size ≤ w'.heap.size ∧ NBox w' w.heap.size v ∧ (B 13 = true → B 12 = true) ∧ (B 12 = true → B 13 = false → ∃ d2 : ND, u 32 = .agg #[.int .i64 d2.k, .string (bs d2.l), .string (bs d2.x), .slice d2.A d2.n d2.c, .string (bs d2.e)] ∧ NR (fun k => (((w.alloc (.cells #[.int .i64 v.k, .string (bs v.l), .string (bs v.x), .slice v.A v.n v.c, .string (bs v.e)] 24)).alloc (.cells #[.int .i64 0, .string ⟨#[]⟩, .string ⟨#[]⟩, .slice none 0 0, .string ⟨#[]⟩] 24)).drew).heap.size ≤ k) w' d2 t') ∧ (B 13 = false → NBox w' (w.heap.size + 1) ⟨0, [], [], none, 0, 0, []⟩) ∧ (B 13 = true → ∃ d2 : ND, NBox w' (w.heap.size + 1) d2 ∧ NR (fun k => w.heap.size ≤ k) w' d2 t'))) ?_ ?_ ?_
  · exact Det.start (by rw [hUS]; simp [slot]) (⟨HBXD.out.gr, Nat.le_refl _, HBXD.out.a, fun h => (by cases h), fun h => (by cases h), fun _ => HBXD.out.z, fun h => (by cases h)⟩)
  · intro B a' w' i o hfr hF ho hBi hdp
    have hi8 := (Array.getElem?_eq_some_iff.1 ho).1
    simp only [List.size_toArray, List.length_cons, List.length_nil] at hi8
    have hor : i = 0 ∨ i = 1 ∨ i = 2 ∨ i = 3 ∨ i = 4 ∨ i = 5 ∨ i = 6 ∨ i = 7 ∨ i = 8 ∨ i = 9 ∨ i = 10 ∨ i = 11 ∨ i = 12 ∨ i = 13 := by omega
    clear hi8
    rcases hor with rfl | rfl | rfl | rfl | rfl | rfl | rfl | rfl | rfl | rfl | rfl | rfl | rfl | rfl
    all_goals (
      simp only [List.getElem?_toArray, List.getElem?_cons_zero, List.getElem?_cons_succ, Option.some.injEq] at ho
      subst ho
      rw [if_pos (show Region.wanted _ _ = true from rfl)]
      refine wp_hideK ?_
      intro K hK)
    · have hFW := hF.wd
      have o0 := slot_spell (hF.had (d := 0) (v := .pointer (some ⟨Bv, 0, none⟩)) (by rw [hUS]; simp))
      go_simp
      exact hK.out _ _ (close_put hfr (d := 20) (by decide) (by simp) _ (F := fun u => Det VS US (fun B u w' => Gr w w' ∧ (((w.alloc (.cells #[.int .i64 v.k, .string (bs v.l), .string (bs v.x), .slice v.A v.n v.c, .string (bs v.e)] 24)).alloc (.cells #[.int .i64 0, .string ⟨#[]⟩, .string ⟨#[]⟩, .slice none 0 0, .string ⟨#[]⟩] 24)).drew).heap.size ≤ w'.heap.size ∧ NBox w' w.heap.size v ∧ (B 13 = true → B 12 = true) ∧ (B 12 = true → B 13 = false → ∃ d2 : ND, u 32 = .agg #[.int .i64 d2.k, .string (bs d2.l), .string (bs d2.x), .slice d2.A d2.n d2.c, .string (bs d2.e)] ∧ NR (fun k => (((w.alloc (.cells #[.int .i64 v.k, .string (bs v.l), .string (bs v.x), .slice v.A v.n v.c, .string (bs v.e)] 24)).alloc (.cells #[.int .i64 0, .string ⟨#[]⟩, .string ⟨#[]⟩, .slice none 0 0, .string ⟨#[]⟩] 24)).drew).heap.size ≤ k) w' d2 t') ∧ (B 13 = false → NBox w' (w.heap.size + 1) ⟨0, [], [], none, 0, 0, []⟩) ∧ (B 13 = true → ∃ d2 : ND, NBox w' (w.heap.size + 1) d2 ∧ NR (fun k => w.heap.size ≤ k) w' d2 t')) (upB B 0) u _) (hF.step (by rw [hVS]; simp) (by rw [hUS]; simp) (by simpa [upB, upV] using hFW)))
    · have hFW := hF.wd
      have o0 := slot_spell (hF.had (d := 0) (v := .pointer (some ⟨Bv, 0, none⟩)) (by rw [hUS]; simp))
      go_simp
      exact hK.out _ _ (close_put hfr (d := 21) (by decide) (by simp) _ (F := fun u => Det VS US (fun B u w' => Gr w w' ∧ (((w.alloc (.cells #[.int .i64 v.k, .string (bs v.l), .string (bs v.x), .slice v.A v.n v.c, .string (bs v.e)] 24)).alloc (.cells #[.int .i64 0, .string ⟨#[]⟩, .string ⟨#[]⟩, .slice none 0 0, .string ⟨#[]⟩] 24)).drew).heap.size ≤ w'.heap.size ∧ NBox w' w.heap.size v ∧ (B 13 = true → B 12 = true) ∧ (B 12 = true → B 13 = false → ∃ d2 : ND, u 32 = .agg #[.int .i64 d2.k, .string (bs d2.l), .string (bs d2.x), .slice d2.A d2.n d2.c, .string (bs d2.e)] ∧ NR (fun k => (((w.alloc (.cells #[.int .i64 v.k, .string (bs v.l), .string (bs v.x), .slice v.A v.n v.c, .string (bs v.e)] 24)).alloc (.cells #[.int .i64 0, .string ⟨#[]⟩, .string ⟨#[]⟩, .slice none 0 0, .string ⟨#[]⟩] 24)).drew).heap.size ≤ k) w' d2 t') ∧ (B 13 = false → NBox w' (w.heap.size + 1) ⟨0, [], [], none, 0, 0, []⟩) ∧ (B 13 = true → ∃ d2 : ND, NBox w' (w.heap.size + 1) d2 ∧ NR (fun k => w.heap.size ≤ k) w' d2 t')) (upB B 1) u _) (hF.step (by rw [hVS]; simp) (by rw [hUS]; simp) (by simpa [upB, upV] using hFW)))
    · have hFW := hF.wd
      have hB1 : B 1 = true := hdp ⟨1, .data⟩ (by simp) (by rfl)
      have e1 := slot_spell (hF.get (i := 1) (d := 21) (v := .pointer (some ⟨Bv, 0, none⟩)) (by rw [hVS]; simp) hB1)
      go_simp
      exact hK.out _ _ (close_put hfr (d := 22) (by decide) (by simp) _ (F := fun u => Det VS US (fun B u w' => Gr w w' ∧ (((w.alloc (.cells #[.int .i64 v.k, .string (bs v.l), .string (bs v.x), .slice v.A v.n v.c, .string (bs v.e)] 24)).alloc (.cells #[.int .i64 0, .string ⟨#[]⟩, .string ⟨#[]⟩, .slice none 0 0, .string ⟨#[]⟩] 24)).drew).heap.size ≤ w'.heap.size ∧ NBox w' w.heap.size v ∧ (B 13 = true → B 12 = true) ∧ (B 12 = true → B 13 = false → ∃ d2 : ND, u 32 = .agg #[.int .i64 d2.k, .string (bs d2.l), .string (bs d2.x), .slice d2.A d2.n d2.c, .string (bs d2.e)] ∧ NR (fun k => (((w.alloc (.cells #[.int .i64 v.k, .string (bs v.l), .string (bs v.x), .slice v.A v.n v.c, .string (bs v.e)] 24)).alloc (.cells #[.int .i64 0, .string ⟨#[]⟩, .string ⟨#[]⟩, .slice none 0 0, .string ⟨#[]⟩] 24)).drew).heap.size ≤ k) w' d2 t') ∧ (B 13 = false → NBox w' (w.heap.size + 1) ⟨0, [], [], none, 0, 0, []⟩) ∧ (B 13 = true → ∃ d2 : ND, NBox w' (w.heap.size + 1) d2 ∧ NR (fun k => w.heap.size ≤ k) w' d2 t')) (upB B 2) u _) (hF.step (by rw [hVS]; simp) (by rw [hUS]; simp) (by simpa [upB, upV] using hFW)))
    · have hFW := hF.wd
      have hB2 : B 2 = true := hdp ⟨2, .data⟩ (by simp) (by rfl)
      have e2 := slot_spell (hF.get (i := 2) (d := 22) (v := .pointer (some ⟨Bv, 0, none⟩)) (by rw [hVS]; simp) hB2)
      go_simp
      exact hK.out _ _ (close_put hfr (d := 23) (by decide) (by simp) _ (F := fun u => Det VS US (fun B u w' => Gr w w' ∧ (((w.alloc (.cells #[.int .i64 v.k, .string (bs v.l), .string (bs v.x), .slice v.A v.n v.c, .string (bs v.e)] 24)).alloc (.cells #[.int .i64 0, .string ⟨#[]⟩, .string ⟨#[]⟩, .slice none 0 0, .string ⟨#[]⟩] 24)).drew).heap.size ≤ w'.heap.size ∧ NBox w' w.heap.size v ∧ (B 13 = true → B 12 = true) ∧ (B 12 = true → B 13 = false → ∃ d2 : ND, u 32 = .agg #[.int .i64 d2.k, .string (bs d2.l), .string (bs d2.x), .slice d2.A d2.n d2.c, .string (bs d2.e)] ∧ NR (fun k => (((w.alloc (.cells #[.int .i64 v.k, .string (bs v.l), .string (bs v.x), .slice v.A v.n v.c, .string (bs v.e)] 24)).alloc (.cells #[.int .i64 0, .string ⟨#[]⟩, .string ⟨#[]⟩, .slice none 0 0, .string ⟨#[]⟩] 24)).drew).heap.size ≤ k) w' d2 t') ∧ (B 13 = false → NBox w' (w.heap.size + 1) ⟨0, [], [], none, 0, 0, []⟩) ∧ (B 13 = true → ∃ d2 : ND, NBox w' (w.heap.size + 1) d2 ∧ NR (fun k => w.heap.size ≤ k) w' d2 t')) (upB B 3) u _) (hF.step (by rw [hVS]; simp) (by rw [hUS]; simp) (by simpa [upB, upV] using hFW)))
    · have hFW := hF.wd
      have hB3 : B 3 = true := hdp ⟨3, .data⟩ (by simp) (by rfl)
      have e3 := slot_spell (hF.get (i := 3) (d := 23) (v := .pointer (some ⟨Bv, 10, none⟩)) (by rw [hVS]; simp) hB3)
      have hvb := HVB.out.gr hFW.1
      have yv := cell_of_cells hvb 10
      have yl := lt_of_block hvb
      go_simp
      exact hK.out _ _ (close_put hfr (d := 24) (by decide) (by simp) _ (F := fun u => Det VS US (fun B u w' => Gr w w' ∧ (((w.alloc (.cells #[.int .i64 v.k, .string (bs v.l), .string (bs v.x), .slice v.A v.n v.c, .string (bs v.e)] 24)).alloc (.cells #[.int .i64 0, .string ⟨#[]⟩, .string ⟨#[]⟩, .slice none 0 0, .string ⟨#[]⟩] 24)).drew).heap.size ≤ w'.heap.size ∧ NBox w' w.heap.size v ∧ (B 13 = true → B 12 = true) ∧ (B 12 = true → B 13 = false → ∃ d2 : ND, u 32 = .agg #[.int .i64 d2.k, .string (bs d2.l), .string (bs d2.x), .slice d2.A d2.n d2.c, .string (bs d2.e)] ∧ NR (fun k => (((w.alloc (.cells #[.int .i64 v.k, .string (bs v.l), .string (bs v.x), .slice v.A v.n v.c, .string (bs v.e)] 24)).alloc (.cells #[.int .i64 0, .string ⟨#[]⟩, .string ⟨#[]⟩, .slice none 0 0, .string ⟨#[]⟩] 24)).drew).heap.size ≤ k) w' d2 t') ∧ (B 13 = false → NBox w' (w.heap.size + 1) ⟨0, [], [], none, 0, 0, []⟩) ∧ (B 13 = true → ∃ d2 : ND, NBox w' (w.heap.size + 1) d2 ∧ NR (fun k => w.heap.size ≤ k) w' d2 t')) (upB B 4) u _) (hF.step (by rw [hVS]; simp) (by rw [hUS]; simp) (by simpa [upB, upV] using hFW)))
    · have hFW := hF.wd
      have o3 := slot_spell (hF.had (d := 3) (v := .pointer (some ⟨w.heap.size, 0, none⟩)) (by rw [hUS]; simp))
      go_simp
      exact hK.out _ _ (close_put hfr (d := 25) (by decide) (by simp) _ (F := fun u => Det VS US (fun B u w' => Gr w w' ∧ (((w.alloc (.cells #[.int .i64 v.k, .string (bs v.l), .string (bs v.x), .slice v.A v.n v.c, .string (bs v.e)] 24)).alloc (.cells #[.int .i64 0, .string ⟨#[]⟩, .string ⟨#[]⟩, .slice none 0 0, .string ⟨#[]⟩] 24)).drew).heap.size ≤ w'.heap.size ∧ NBox w' w.heap.size v ∧ (B 13 = true → B 12 = true) ∧ (B 12 = true → B 13 = false → ∃ d2 : ND, u 32 = .agg #[.int .i64 d2.k, .string (bs d2.l), .string (bs d2.x), .slice d2.A d2.n d2.c, .string (bs d2.e)] ∧ NR (fun k => (((w.alloc (.cells #[.int .i64 v.k, .string (bs v.l), .string (bs v.x), .slice v.A v.n v.c, .string (bs v.e)] 24)).alloc (.cells #[.int .i64 0, .string ⟨#[]⟩, .string ⟨#[]⟩, .slice none 0 0, .string ⟨#[]⟩] 24)).drew).heap.size ≤ k) w' d2 t') ∧ (B 13 = false → NBox w' (w.heap.size + 1) ⟨0, [], [], none, 0, 0, []⟩) ∧ (B 13 = true → ∃ d2 : ND, NBox w' (w.heap.size + 1) d2 ∧ NR (fun k => w.heap.size ≤ k) w' d2 t')) (upB B 5) u _) (hF.step (by rw [hVS]; simp) (by rw [hUS]; simp) (by simpa [upB, upV] using hFW)))
    · have hFW := hF.wd
      have hB5 : B 5 = true := hdp ⟨5, .data⟩ (by simp) (by rfl)
      have e5 := slot_spell (hF.get (i := 5) (d := 25) (v := .pointer (some ⟨w.heap.size, 2, none⟩)) (by rw [hVS]; simp) hB5)
      have yx := hFW.2.2.1.cells.2.2.1
      have yl := lt_of_block hFW.2.2.1
      go_simp
      exact hK.out _ _ (close_put hfr (d := 26) (by decide) (by simp) _ (F := fun u => Det VS US (fun B u w' => Gr w w' ∧ (((w.alloc (.cells #[.int .i64 v.k, .string (bs v.l), .string (bs v.x), .slice v.A v.n v.c, .string (bs v.e)] 24)).alloc (.cells #[.int .i64 0, .string ⟨#[]⟩, .string ⟨#[]⟩, .slice none 0 0, .string ⟨#[]⟩] 24)).drew).heap.size ≤ w'.heap.size ∧ NBox w' w.heap.size v ∧ (B 13 = true → B 12 = true) ∧ (B 12 = true → B 13 = false → ∃ d2 : ND, u 32 = .agg #[.int .i64 d2.k, .string (bs d2.l), .string (bs d2.x), .slice d2.A d2.n d2.c, .string (bs d2.e)] ∧ NR (fun k => (((w.alloc (.cells #[.int .i64 v.k, .string (bs v.l), .string (bs v.x), .slice v.A v.n v.c, .string (bs v.e)] 24)).alloc (.cells #[.int .i64 0, .string ⟨#[]⟩, .string ⟨#[]⟩, .slice none 0 0, .string ⟨#[]⟩] 24)).drew).heap.size ≤ k) w' d2 t') ∧ (B 13 = false → NBox w' (w.heap.size + 1) ⟨0, [], [], none, 0, 0, []⟩) ∧ (B 13 = true → ∃ d2 : ND, NBox w' (w.heap.size + 1) d2 ∧ NR (fun k => w.heap.size ≤ k) w' d2 t')) (upB B 6) u _) (hF.step (by rw [hVS]; simp) (by rw [hUS]; simp) (by simpa [upB, upV] using hFW)))
    · have hFW := hF.wd
      have hB6 : B 6 = true := hdp ⟨6, .data⟩ (by simp) (by rfl)
      have e6 := slot_spell (hF.get (i := 6) (d := 26) (v := .string (bs v.x)) (by rw [hVS]; simp) hB6)
      have yn := HEX.out
      have ys := HSZ.out
      go_simp
      rw [if_pos (show (1 : Int) ≤ (v.x.length : Int) by omega)]
      go_simp
      exact hK.out _ _ (close_put hfr (d := 27) (by decide) (by simp) _ (F := fun u => Det VS US (fun B u w' => Gr w w' ∧ (((w.alloc (.cells #[.int .i64 v.k, .string (bs v.l), .string (bs v.x), .slice v.A v.n v.c, .string (bs v.e)] 24)).alloc (.cells #[.int .i64 0, .string ⟨#[]⟩, .string ⟨#[]⟩, .slice none 0 0, .string ⟨#[]⟩] 24)).drew).heap.size ≤ w'.heap.size ∧ NBox w' w.heap.size v ∧ (B 13 = true → B 12 = true) ∧ (B 12 = true → B 13 = false → ∃ d2 : ND, u 32 = .agg #[.int .i64 d2.k, .string (bs d2.l), .string (bs d2.x), .slice d2.A d2.n d2.c, .string (bs d2.e)] ∧ NR (fun k => (((w.alloc (.cells #[.int .i64 v.k, .string (bs v.l), .string (bs v.x), .slice v.A v.n v.c, .string (bs v.e)] 24)).alloc (.cells #[.int .i64 0, .string ⟨#[]⟩, .string ⟨#[]⟩, .slice none 0 0, .string ⟨#[]⟩] 24)).drew).heap.size ≤ k) w' d2 t') ∧ (B 13 = false → NBox w' (w.heap.size + 1) ⟨0, [], [], none, 0, 0, []⟩) ∧ (B 13 = true → ∃ d2 : ND, NBox w' (w.heap.size + 1) d2 ∧ NR (fun k => w.heap.size ≤ k) w' d2 t')) (upB B 7) u _) (hF.step (by rw [hVS]; simp) (by rw [hUS]; simp) (by simpa [upB, upV] using hFW)))
    · have hFW := hF.wd
      have hB4 : B 4 = true := hdp ⟨4, .data⟩ (by simp) (by rfl)
      have e4 := slot_spell (hF.get (i := 4) (d := 24) (v := .map (some Bm)) (by rw [hVS]; simp) hB4)
      have hB7 : B 7 = true := hdp ⟨7, .data⟩ (by simp) (by rfl)
      have e7 := slot_spell (hF.get (i := 7) (d := 27) (v := .string (bs nm)) (by rw [hVS]; simp) hB7)
      have yk := HLK.out w' hFW.1
      go_simp
      exact hK.out _ _ (close_put hfr (d := 28) (by decide) (by simp) _ (F := fun u => Det VS US (fun B u w' => Gr w w' ∧ (((w.alloc (.cells #[.int .i64 v.k, .string (bs v.l), .string (bs v.x), .slice v.A v.n v.c, .string (bs v.e)] 24)).alloc (.cells #[.int .i64 0, .string ⟨#[]⟩, .string ⟨#[]⟩, .slice none 0 0, .string ⟨#[]⟩] 24)).drew).heap.size ≤ w'.heap.size ∧ NBox w' w.heap.size v ∧ (B 13 = true → B 12 = true) ∧ (B 12 = true → B 13 = false → ∃ d2 : ND, u 32 = .agg #[.int .i64 d2.k, .string (bs d2.l), .string (bs d2.x), .slice d2.A d2.n d2.c, .string (bs d2.e)] ∧ NR (fun k => (((w.alloc (.cells #[.int .i64 v.k, .string (bs v.l), .string (bs v.x), .slice v.A v.n v.c, .string (bs v.e)] 24)).alloc (.cells #[.int .i64 0, .string ⟨#[]⟩, .string ⟨#[]⟩, .slice none 0 0, .string ⟨#[]⟩] 24)).drew).heap.size ≤ k) w' d2 t') ∧ (B 13 = false → NBox w' (w.heap.size + 1) ⟨0, [], [], none, 0, 0, []⟩) ∧ (B 13 = true → ∃ d2 : ND, NBox w' (w.heap.size + 1) d2 ∧ NR (fun k => w.heap.size ≤ k) w' d2 t')) (upB B 8) u _) (hF.step (by rw [hVS]; simp) (by rw [hUS]; simp) (by simpa [upB, upV] using hFW)))
    · have hFW := hF.wd
      have hB8 : B 8 = true := hdp ⟨8, .data⟩ (by simp) (by rfl)
      have e8 := slot_spell (hF.get (i := 8) (d := 28) (v := .pointer (some ⟨b, 0, none⟩)) (by rw [hVS]; simp) hB8)
      go_simp
      exact hK.out _ _ (close_put hfr (d := 29) (by decide) (by simp) _ (F := fun u => Det VS US (fun B u w' => Gr w w' ∧ (((w.alloc (.cells #[.int .i64 v.k, .string (bs v.l), .string (bs v.x), .slice v.A v.n v.c, .string (bs v.e)] 24)).alloc (.cells #[.int .i64 0, .string ⟨#[]⟩, .string ⟨#[]⟩, .slice none 0 0, .string ⟨#[]⟩] 24)).drew).heap.size ≤ w'.heap.size ∧ NBox w' w.heap.size v ∧ (B 13 = true → B 12 = true) ∧ (B 12 = true → B 13 = false → ∃ d2 : ND, u 32 = .agg #[.int .i64 d2.k, .string (bs d2.l), .string (bs d2.x), .slice d2.A d2.n d2.c, .string (bs d2.e)] ∧ NR (fun k => (((w.alloc (.cells #[.int .i64 v.k, .string (bs v.l), .string (bs v.x), .slice v.A v.n v.c, .string (bs v.e)] 24)).alloc (.cells #[.int .i64 0, .string ⟨#[]⟩, .string ⟨#[]⟩, .slice none 0 0, .string ⟨#[]⟩] 24)).drew).heap.size ≤ k) w' d2 t') ∧ (B 13 = false → NBox w' (w.heap.size + 1) ⟨0, [], [], none, 0, 0, []⟩) ∧ (B 13 = true → ∃ d2 : ND, NBox w' (w.heap.size + 1) d2 ∧ NR (fun k => w.heap.size ≤ k) w' d2 t')) (upB B 9) u _) (hF.step (by rw [hVS]; simp) (by rw [hUS]; simp) (by simpa [upB, upV] using hFW)))
    · have hFW := hF.wd
      have hB9 : B 9 = true := hdp ⟨9, .data⟩ (by simp) (by rfl)
      have e9 := slot_spell (hF.get (i := 9) (d := 29) (v := .pointer (some ⟨b, 0, none⟩)) (by rw [hVS]; simp) hB9)
      go_simp
      exact hK.out _ _ (close_put hfr (d := 30) (by decide) (by simp) _ (F := fun u => Det VS US (fun B u w' => Gr w w' ∧ (((w.alloc (.cells #[.int .i64 v.k, .string (bs v.l), .string (bs v.x), .slice v.A v.n v.c, .string (bs v.e)] 24)).alloc (.cells #[.int .i64 0, .string ⟨#[]⟩, .string ⟨#[]⟩, .slice none 0 0, .string ⟨#[]⟩] 24)).drew).heap.size ≤ w'.heap.size ∧ NBox w' w.heap.size v ∧ (B 13 = true → B 12 = true) ∧ (B 12 = true → B 13 = false → ∃ d2 : ND, u 32 = .agg #[.int .i64 d2.k, .string (bs d2.l), .string (bs d2.x), .slice d2.A d2.n d2.c, .string (bs d2.e)] ∧ NR (fun k => (((w.alloc (.cells #[.int .i64 v.k, .string (bs v.l), .string (bs v.x), .slice v.A v.n v.c, .string (bs v.e)] 24)).alloc (.cells #[.int .i64 0, .string ⟨#[]⟩, .string ⟨#[]⟩, .slice none 0 0, .string ⟨#[]⟩] 24)).drew).heap.size ≤ k) w' d2 t') ∧ (B 13 = false → NBox w' (w.heap.size + 1) ⟨0, [], [], none, 0, 0, []⟩) ∧ (B 13 = true → ∃ d2 : ND, NBox w' (w.heap.size + 1) d2 ∧ NR (fun k => w.heap.size ≤ k) w' d2 t')) (upB B 10) u _) (hF.step (by rw [hVS]; simp) (by rw [hUS]; simp) (by simpa [upB, upV] using hFW)))
    · have hFW := hF.wd
      have hB10 : B 10 = true := hdp ⟨10, .data⟩ (by simp) (by rfl)
      have e10 := slot_spell (hF.get (i := 10) (d := 30) (v := .pointer (some ⟨b, 0, none⟩)) (by rw [hVS]; simp) hB10)
      have ht := HTB.out.gr hFW.1
      have y0 := cell_of_cells ht 0
      have y1 := cell_of_cells ht 1
      have y2 := cell_of_cells ht 2
      have y3 := cell_of_cells ht 3
      have y4 := cell_of_cells ht 4
      have yl := lt_of_block ht
      go_simp
      exact hK.out _ _ (close_put hfr (d := 31) (by decide) (by simp) _ (F := fun u => Det VS US (fun B u w' => Gr w w' ∧ (((w.alloc (.cells #[.int .i64 v.k, .string (bs v.l), .string (bs v.x), .slice v.A v.n v.c, .string (bs v.e)] 24)).alloc (.cells #[.int .i64 0, .string ⟨#[]⟩, .string ⟨#[]⟩, .slice none 0 0, .string ⟨#[]⟩] 24)).drew).heap.size ≤ w'.heap.size ∧ NBox w' w.heap.size v ∧ (B 13 = true → B 12 = true) ∧ (B 12 = true → B 13 = false → ∃ d2 : ND, u 32 = .agg #[.int .i64 d2.k, .string (bs d2.l), .string (bs d2.x), .slice d2.A d2.n d2.c, .string (bs d2.e)] ∧ NR (fun k => (((w.alloc (.cells #[.int .i64 v.k, .string (bs v.l), .string (bs v.x), .slice v.A v.n v.c, .string (bs v.e)] 24)).alloc (.cells #[.int .i64 0, .string ⟨#[]⟩, .string ⟨#[]⟩, .slice none 0 0, .string ⟨#[]⟩] 24)).drew).heap.size ≤ k) w' d2 t') ∧ (B 13 = false → NBox w' (w.heap.size + 1) ⟨0, [], [], none, 0, 0, []⟩) ∧ (B 13 = true → ∃ d2 : ND, NBox w' (w.heap.size + 1) d2 ∧ NR (fun k => w.heap.size ≤ k) w' d2 t')) (upB B 11) u _) (hF.step (by rw [hVS]; simp) (by rw [hUS]; simp) (by simpa [upB, upV] using hFW)))
    · have hFW := hF.wd
      have hB0 : B 0 = true := hdp ⟨0, .data⟩ (by simp) (by rfl)
      have e0 := slot_spell (hF.get (i := 0) (d := 20) (v := .pointer (some ⟨Bv, 0, none⟩)) (by rw [hVS]; simp) hB0)
      have hB11 : B 11 = true := hdp ⟨11, .data⟩ (by simp) (by rfl)
      have e11 := slot_spell (hF.get (i := 11) (d := 31) (v := .agg #[.int .i64 d.k, .string (bs d.l), .string (bs d.x), .slice d.A d.n d.c, .string (bs d.e)]) (by rw [hVS]; simp) hB11)
      have h13 : B 13 = false := by
        cases h13 : B 13 with
        | false => rfl
        | true => exact absurd (hFW.2.2.2.1 h13) (by simp [hBi])
      have hcall := HCALL.out w' hFW.1
      have HCC := Lib.hid hcall
      have HFF := Lib.hid hF
      have HFR := Lib.hid hfr
      have HFG := Lib.hid hFW
      clear hF hfr hFW hdp hcall
      go_simp
      refine HCC.out.mono ?_
      rintro e w2 ⟨d2, rfl, hn2, hg2⟩
      have hF := HFF.out
      have hfr := HFR.out
      have hFW := HFG.out
      exact hK.out _ _ (close_put hfr (d := 32) (by decide) (by simp) _ (F := fun u => Det VS US (fun B u w' => Gr w w' ∧ (((w.alloc (.cells #[.int .i64 v.k, .string (bs v.l), .string (bs v.x), .slice v.A v.n v.c, .string (bs v.e)] 24)).alloc (.cells #[.int .i64 0, .string ⟨#[]⟩, .string ⟨#[]⟩, .slice none 0 0, .string ⟨#[]⟩] 24)).drew).heap.size ≤ w'.heap.size ∧ NBox w' w.heap.size v ∧ (B 13 = true → B 12 = true) ∧ (B 12 = true → B 13 = false → ∃ d2 : ND, u 32 = .agg #[.int .i64 d2.k, .string (bs d2.l), .string (bs d2.x), .slice d2.A d2.n d2.c, .string (bs d2.e)] ∧ NR (fun k => (((w.alloc (.cells #[.int .i64 v.k, .string (bs v.l), .string (bs v.x), .slice v.A v.n v.c, .string (bs v.e)] 24)).alloc (.cells #[.int .i64 0, .string ⟨#[]⟩, .string ⟨#[]⟩, .slice none 0 0, .string ⟨#[]⟩] 24)).drew).heap.size ≤ k) w' d2 t') ∧ (B 13 = false → NBox w' (w.heap.size + 1) ⟨0, [], [], none, 0, 0, []⟩) ∧ (B 13 = true → ∃ d2 : ND, NBox w' (w.heap.size + 1) d2 ∧ NR (fun k => w.heap.size ≤ k) w' d2 t')) (upB B 12) u _) (hF.step (by rw [hVS]; simp) (by rw [hUS]; simp) (⟨hFW.1.trans hg2, Nat.le_trans hFW.2.1 (Below.size hg2), hFW.2.2.1.gr hg2, fun _ => by simp [upB], fun _ _ => ⟨d2, by simp [upV], hn2.fence (fun b hb _ => Nat.le_trans hFW.2.1 hb)⟩, fun _ => (hFW.2.2.2.2.2.1 h13).gr hg2, fun h => absurd h (by simp [upB, h13])⟩)))
    · have hFW := hF.wd
      have hB12 : B 12 = true := hdp ⟨12, .data⟩ (by simp) (by rfl)
      have o4 := slot_spell (hF.had (d := 4) (v := .pointer (some ⟨w.heap.size + 1, 0, none⟩)) (by rw [hUS]; simp))
      obtain ⟨d2, q2, hn2⟩ := hFW.2.2.2.2.1 hB12 hBi
      have hbx2 : XBox w w' v := ⟨hFW.1, hFW.2.2.1, hFW.2.2.2.2.2.1 hBi⟩
      have e32 := slot_spell q2
      obtain ⟨z0, z1, z2, z3, z4⟩ := hbx2.z.cells
      have zl := lt_of_block hbx2.z
      have zf0 := free_of_cells hbx2.z 0
      have zf1 := free_of_cells hbx2.z 1
      have zf2 := free_of_cells hbx2.z 2
      have zf3 := free_of_cells hbx2.z 3
      have zf4 := free_of_cells hbx2.z 4
      obtain ⟨W9, hW9, hb', hn', hg'⟩ := hbx2.put (by simp) hn2
      have hsz9 : (((w.alloc (.cells #[.int .i64 v.k, .string (bs v.l), .string (bs v.x), .slice v.A v.n v.c, .string (bs v.e)] 24)).alloc (.cells #[.int .i64 0, .string ⟨#[]⟩, .string ⟨#[]⟩, .slice none 0 0, .string ⟨#[]⟩] 24)).drew).heap.size ≤ W9.heap.size := by rw [hW9]; simpa using hFW.2.1
      have hva9 : NBox W9 w.heap.size v := by
        have ha := hFW.2.2.1
        rw [hW9]
        unfold NBox at ha ⊢
        repeat (rw [heap_set_other (by simp)])
        exact ha
      have HP9 : Hid ((((w.alloc (.cells #[.int .i64 v.k, .string (bs v.l), .string (bs v.x), .slice v.A v.n v.c, .string (bs v.e)] 24)).alloc (.cells #[.int .i64 0, .string ⟨#[]⟩, .string ⟨#[]⟩, .slice none 0 0, .string ⟨#[]⟩] 24)).drew).heap.size ≤ W9.heap.size ∧ NBox W9 w.heap.size v ∧ NBox W9 (w.heap.size + 1) d2 ∧ NR (fun k => w.heap.size ≤ k) W9 d2 t' ∧ Gr w W9) := Lib.hid ⟨hsz9, hva9, hb', hn', hg'⟩
      clear hb' hn' hg' hsz9 hva9
      subst hW9
      go_simp
      exact hK.out _ _ (close_none hfr undef (F := fun u => Det VS US (fun B u w' => Gr w w' ∧ (((w.alloc (.cells #[.int .i64 v.k, .string (bs v.l), .string (bs v.x), .slice v.A v.n v.c, .string (bs v.e)] 24)).alloc (.cells #[.int .i64 0, .string ⟨#[]⟩, .string ⟨#[]⟩, .slice none 0 0, .string ⟨#[]⟩] 24)).drew).heap.size ≤ w'.heap.size ∧ NBox w' w.heap.size v ∧ (B 13 = true → B 12 = true) ∧ (B 12 = true → B 13 = false → ∃ d2 : ND, u 32 = .agg #[.int .i64 d2.k, .string (bs d2.l), .string (bs d2.x), .slice d2.A d2.n d2.c, .string (bs d2.e)] ∧ NR (fun k => (((w.alloc (.cells #[.int .i64 v.k, .string (bs v.l), .string (bs v.x), .slice v.A v.n v.c, .string (bs v.e)] 24)).alloc (.cells #[.int .i64 0, .string ⟨#[]⟩, .string ⟨#[]⟩, .slice none 0 0, .string ⟨#[]⟩] 24)).drew).heap.size ≤ k) w' d2 t') ∧ (B 13 = false → NBox w' (w.heap.size + 1) ⟨0, [], [], none, 0, 0, []⟩) ∧ (B 13 = true → ∃ d2 : ND, NBox w' (w.heap.size + 1) d2 ∧ NR (fun k => w.heap.size ≤ k) w' d2 t')) (upB B 13) u _) (hF.none (by rw [hVS]; simp) (⟨HP9.out.2.2.2.2, HP9.out.1, HP9.out.2.1, fun _ => by simpa [upB] using hB12, fun _ h => by simp [upB] at h, fun h => by simp [upB] at h, fun _ => ⟨d2, HP9.out.2.2.1, HP9.out.2.2.2.1⟩⟩)))
  · intro B u w' hall hF
    have z0 := hF.get (i := 0) (d := 20) (v := .pointer (some ⟨Bv, 0, none⟩)) (by rw [hVS]; simp) (hall 0 (by simp))
    have z1 := hF.get (i := 1) (d := 21) (v := .pointer (some ⟨Bv, 0, none⟩)) (by rw [hVS]; simp) (hall 1 (by simp))
    have z2 := hF.get (i := 2) (d := 22) (v := .pointer (some ⟨Bv, 0, none⟩)) (by rw [hVS]; simp) (hall 2 (by simp))
    have z3 := hF.get (i := 3) (d := 23) (v := .pointer (some ⟨Bv, 10, none⟩)) (by rw [hVS]; simp) (hall 3 (by simp))
    have z4 := hF.get (i := 4) (d := 24) (v := .map (some Bm)) (by rw [hVS]; simp) (hall 4 (by simp))
    have z5 := hF.get (i := 5) (d := 25) (v := .pointer (some ⟨w.heap.size, 2, none⟩)) (by rw [hVS]; simp) (hall 5 (by simp))
    have z6 := hF.get (i := 6) (d := 26) (v := .string (bs v.x)) (by rw [hVS]; simp) (hall 6 (by simp))
    have z7 := hF.get (i := 7) (d := 27) (v := .string (bs nm)) (by rw [hVS]; simp) (hall 7 (by simp))
    have z8 := hF.get (i := 8) (d := 28) (v := .pointer (some ⟨b, 0, none⟩)) (by rw [hVS]; simp) (hall 8 (by simp))
    have z9 := hF.get (i := 9) (d := 29) (v := .pointer (some ⟨b, 0, none⟩)) (by rw [hVS]; simp) (hall 9 (by simp))
    have z10 := hF.get (i := 10) (d := 30) (v := .pointer (some ⟨b, 0, none⟩)) (by rw [hVS]; simp) (hall 10 (by simp))
    have z11 := hF.get (i := 11) (d := 31) (v := .agg #[.int .i64 d.k, .string (bs d.l), .string (bs d.x), .slice d.A d.n d.c, .string (bs d.e)]) (by rw [hVS]; simp) (hall 11 (by simp))
    have hFW := hF.wd
    clear hF hVS hUS
    simp only [List.foldl_cons, List.foldl_nil, Act.put, List.setIfInBounds_toArray, List.set_cons_zero, List.set_cons_succ, z0, z1, z2, z3, z4, z5, z6, z7, z8, z9, z10, z11]
    clear z0 z1 z2 z3 z4 z5 z6 z7 z8 z9 z10 z11
    have hg' := hFW.1
    obtain ⟨d2, hb', hn'⟩ := hFW.2.2.2.2.2.2 (hall 13 (by simp))
    clear hFW hall
    go_wp2_with fail
    refine bodyPost_ret (results_cell_row (fn := Try.f38) rfl _ _ _ _ _ _ _ rfl (hb') Try.underlying24 rfl (by kernel_rfl)) rfl ⟨d2, rfl, hn', hg'⟩
/-- Ahead of a round. -/
structure XL (w : World) (v : ND) (base : Nat) (ks : List NT) (j : Nat) (kv : Value) (kd : List NT) (ds : List ND) (wr : World) : Prop where
  box : XBox w wr v
  size : base ≤ wr.heap.size
  kid : KidR (fun b => base ≤ b ∧ kv.ownBlock ≠ some b) base wr kv kd ds
  eq : kd = ks.take j
theorem XL.more {w wr w2 w7 : World} {v d2 : ND} {base j : Nat} {ks kd : List NT} {kv v7 : Value} {ds : List ND} {y' : NT} (h : XL w v base ks j kv kd ds wr) (hb : base = w.heap.size + 1 + 1) (hg : Gr wr w2) (hy : ks[j]? = some y')
    (hn2 : NR (fun b => wr.heap.size ≤ b) w2 d2 y') (hown : w7.ownsRow base 24 5 v7 (0 + kd.length + 1) (ds.flatMap ND.cells ++ d2.cells)) (hgr : (w2.alloc (.cells #[.int .i64 d2.k, .string (bs d2.l), .string (bs d2.x), .slice d2.A d2.n d2.c, .string (bs d2.e)] 24)).grownBy w7 kv.ownBlock)
    (hat : v7.ownBlock = kv.ownBlock ∨ v7.ownBlock = some (w2.alloc (.cells #[.int .i64 d2.k, .string (bs d2.l), .string (bs d2.x), .slice d2.A d2.n d2.c, .string (bs d2.e)] 24)).heap.size) : XL w v base ks (j + 1) v7 (kd ++ [y']) (ds ++ [d2]) w7 := by
  generalize hW : w2.alloc (.cells #[.int .i64 d2.k, .string (bs d2.l), .string (bs d2.x), .slice d2.A d2.n d2.c, .string (bs d2.e)] 24) = W8 at *
  have hg8 : Gr w2 W8 := by rw [← hW]; exact (Gr.refl _).alloc _
  have hsz8 : w2.heap.size < W8.heap.size := by rw [← hW]; simp
  have hlt := fun k hk => h.kid.own.lt k hk
  have hb7 : ∀ b, b < w2.heap.size → kv.ownBlock ≠ some b → w7.heap[b]? = w2.heap[b]? := fun b hl hn => by
    rw [hgr.block b (Gr.lt hg8 hl) (fun he => hn he.symm), hg8.block b hl]
  have hsame : SameOn (fun b => base ≤ b ∧ kv.ownBlock ≠ some b) w2 w7 := ⟨Nat.le_trans (Nat.le_of_lt hsz8) hgr.size, fun b o hp hl => by simp only [World.cell?, hb7 b hl hp.2]⟩
  have hfen : ∀ b, (base ≤ b ∧ kv.ownBlock ≠ some b) → b < w2.heap.size → v7.ownBlock ≠ some b := fun b hp hl he => by
    rcases hat with h1 | h1
    · exact hp.2 (h1 ▸ he)
    · rw [h1] at he
      simp at he
      omega
  have hk2 : KidR (fun b => base ≤ b ∧ kv.ownBlock ≠ some b) base w2 kv kd ds := h.kid.off (Off.gr (S := []) hg) (fun b hb => by simp at hb) (fun b hb hm => by simp at hm)
  have hk9 : KidR (fun b => (base ≤ b ∧ kv.ownBlock ≠ some b) ∧ v7.ownBlock ≠ some b) base w2 kv kd ds := ⟨hk2.len, hk2.own, fun i e he => by
    obtain ⟨t', q1, q2⟩ := hk2.rep i e he
    exact ⟨t', q1, q2.fence (fun b hb hl => ⟨hb, hfen b hb hl⟩)⟩⟩
  have hs9 : SameOn (fun b => (base ≤ b ∧ kv.ownBlock ≠ some b) ∧ v7.ownBlock ≠ some b) w2 w7 := ⟨hsame.1, fun b o hp hl => hsame.2 b o hp.1 hl⟩
  have hn9 : NR (fun b => (base ≤ b ∧ kv.ownBlock ≠ some b) ∧ v7.ownBlock ≠ some b) w2 d2 y' := hn2.fence (fun b hb hl => by
    have hp : base ≤ b ∧ kv.ownBlock ≠ some b := ⟨Nat.le_trans h.size hb, fun he => by have h1 := (hlt b he).2; have h2 : wr.heap.size ≤ b := hb; omega⟩
    exact ⟨hp, hfen b hp hl⟩)
  have hk10 := hk9.app hown hs9 hn9
  have hbox := h.box.to hg
  have hother : ∀ b, b < base → b < w2.heap.size → w7.heap[b]? = w2.heap[b]? := fun b h1 h2 => hb7 b h2 (fun he => by have h3 := (hlt b he).1; omega)
  refine ⟨⟨?_, (hother _ (by omega) (lt_of_block hbox.a)).trans hbox.a, (hother _ (by omega) (lt_of_block hbox.z)).trans hbox.z⟩, Nat.le_trans h.size (Nat.le_trans (Below.size hg) hsame.1), ⟨hk10.len, hk10.own, fun i e he => by
    obtain ⟨t', q1, q2⟩ := hk10.rep i e he
    exact ⟨t', q1, q2.fence (fun b hb _ => ⟨hb.1.1, hb.2⟩)⟩⟩, by rw [take_succ_at hy, h.eq]⟩
  exact Gr.grownOwnR (hbox.gr.trans hg8) hgr (fun k hk => by have h3 := (hlt k hk).1; omega)
set_option maxRecDepth 100000 in
set_option maxHeartbeats 4000000 in
theorem expand_node (nb Bv Bm : Nat) (L : U5) (cnt : Nat) (g : List UInt8 → Option Nat) (st : AS) (m : Nat) (v : ND) (t : NT) (w : World) (HR : Hid (NR anyB w v t)) (HS : Hid (VSt nb Bv Bm L cnt g st w)) (hk9 : t.k ≠ 9) (hk10 : t.k ≠ 10) (ks : List NT) (hle : t.ks.length ≤ 1000000) (hl : ks.length = t.ks.length) (hks : ∀ (i : Nat) (y y' : NT), t.ks[i]? = some y → ks[i]? = some y' → Exp (EM st) m y y') (HI : Hid (∀ (v : ND) (t t' : NT) (w : World), NR anyB w v t → Exp (EM st) m t t' → VSt nb Bv Bm L cnt g st w → Calls Try.prog 38 #[.pointer (some ⟨Bv, 0, none⟩), .agg #[.int .i64 v.k, .string (bs v.l), .string (bs v.x), .slice v.A v.n v.c, .string (bs v.e)]] w (XPost t' w))) : Calls Try.prog 38 #[.pointer (some ⟨Bv, 0, none⟩), .agg #[.int .i64 v.k, .string (bs v.l), .string (bs v.x), .slice v.A v.n v.c, .string (bs v.e)]] w (XPost (.mk t.k t.l t.x ks t.e) w) := by
  have htx := HR.out.text2
  have hbx := XBox.made w v
  have HBX := Lib.hid hbx
  have HS1 := Lib.hid (HS.out.gr hbx.gr)
  have HR1 := Lib.hid (HR.out.gr hbx.gr)
  obtain ⟨j0, j1, j2, j3, j4⟩ := hbx.a.cells
  have jl := lt_of_block hbx.a
  have HL := Lib.hid hl
  have HKS := Lib.hid hks
  have HTX := Lib.hid htx
  have hn63 : v.n ≤ 1000000 := by rw [htx.2.2.2.1]; exact hle
  have r9 : (v.k == 9) = false := by rw [htx.1]; simp [hk9]
  have r10 : (v.k == 10) = false := by rw [htx.1]; simp [hk10]
  clear hbx hk9 hk10 hle hl hks htx
  go_enter Try.func38, Try.ntmps38
  go_wp2_with fail
  obtain ⟨W1, hW1⟩ : ∃ W1, W1 = ((w.alloc (.cells #[.int .i64 v.k, .string (bs v.l), .string (bs v.x), .slice v.A v.n v.c, .string (bs v.e)] 24)).alloc (.cells #[.int .i64 0, .string ⟨#[]⟩, .string ⟨#[]⟩, .slice none 0 0, .string ⟨#[]⟩] 24)) := ⟨_, rfl⟩
  obtain ⟨p, hp⟩ : ∃ p, p = w.heap.size := ⟨_, rfl⟩
  rw [← hW1] at HBX HS1 HR1
  rw [← hp]
  rw [← hW1]
  have hbase : W1.heap.size = p + 1 + 1 := by rw [hW1]; simp [hp]
  have HBASE := Lib.hid hbase
  have HP := Lib.hid hp
  clear j0 j1 j2 j3 j4 jl hW1 hp hbase
  go_loopw [5, 36] (fun kv iv wr => ∃ (j : Nat) (kx : Value) (kd : List NT) (ds : List ND), j ≤ v.n ∧ iv = .int .i64 j ∧ kx = kv ∧ XL w v W1.heap.size ks j kx kd ds wr) (fun _ iv _ => v.n - (intOf iv).toNat)
  case atStart => exact ⟨0, _, [], [], Nat.zero_le _, rfl, rfl, ⟨HBX.out, Nat.le_refl _, KidR.nil, rfl⟩⟩
  case round =>
    obtain ⟨j, kv, kd, ds, hj, rfl, rfl, hv⟩ := hrel
    have HV := Lib.hid hv
    clear hv
    by_cases hlt : j < v.n
    · obtain ⟨y, hy⟩ : ∃ y, t.ks[j]? = some y := ⟨t.ks[j]'(by have := HTX.out.2.2.2.1; omega), List.getElem?_eq_getElem _⟩
      obtain ⟨y', hy'⟩ : ∃ y', ks[j]? = some y' := ⟨ks[j]'(by have := HTX.out.2.2.2.1; have := HL.out; omega), List.getElem?_eq_getElem _⟩
      obtain ⟨bk, ok, d, hA, _, hbk, hce, hre⟩ := (HR.out.gr HV.out.box.gr).kid hy
      obtain ⟨e0, e1, e2, e3, e4⟩ := hce
      have hlt1 : (j : Int) < (v.n : Int) := by omega
      have hkl : kd.length ≤ 1000000 := by rw [HV.out.eq, List.length_take]; omega
      have hcall := HI.out d y y' (wr.alloc (.cells #[.int .i64 d.k, .string (bs d.l), .string (bs d.x), .slice d.A d.n d.c, .string (bs d.e)] 24)) (hre.gr ((Gr.refl _).alloc _)) (HKS.out j y y' hy hy') (HS.out.gr (HV.out.box.gr.alloc _))
      have HCALL := Lib.hid hcall
      have HY' := Lib.hid hy'
      obtain ⟨i1, hi, hi0, hi1, hi2⟩ := info_parts infoNodeR
      clear hy hy' hre hcall
      obtain ⟨vk, vl, vx, vA, vn, vc, ve⟩ := v
      simp only at hA hlt hlt1 hj hn63 r9 r10
      subst hA
      go_wp2_with (first
        | (go_at_call 38; refine HCALL.out.mono ?_; rintro e w2 ⟨d2, rfl, hn2, hg2⟩; (have hgw : Gr wr w2 := ((Gr.refl wr).alloc _).trans hg2); (have hnw : NR (fun b => wr.heap.size ≤ b) w2 d2 y' := hn2.fence (fun b hb _ => Nat.le_trans (by simp) hb)); (have hk2 := HV.out.kid.off (Off.gr (S := []) hgw) (fun b hb => by simp at hb) (fun b hb hm => by simp at hm)); (have HOB : Hid ((w2.alloc (.cells #[.int .i64 d2.k, .string (bs d2.l), .string (bs d2.x), .slice d2.A d2.n d2.c, .string (bs d2.e)] 24)).ownsRow W1.heap.size 24 5 kv (0 + kd.length) (ds.flatMap ND.cells)) := Lib.hid (own_same hk2.own (fun k hk => heapOldR (hk2.own.lt k hk).2))); (have HSN : Hid (SrcAt (w2.alloc (.cells #[.int .i64 d2.k, .string (bs d2.l), .string (bs d2.x), .slice d2.A d2.n d2.c, .string (bs d2.e)] 24)) (some ⟨w2.heap.size, 0, none⟩) 1 5 d2.cells) := Lib.hid (src_fresh (cs := d2.cells) (heap_alloc_new w2 _) rfl (by simp [ND.cells, Value.oneCell']))); (have HGW := Lib.hid hgw); (have HNW := Lib.hid hnw); (have hbz : W1.heap.size ≤ (w2.alloc (.cells #[.int .i64 d2.k, .string (bs d2.l), .string (bs d2.x), .slice d2.A d2.n d2.c, .string (bs d2.e)] 24)).heap.size := Nat.le_trans HV.out.size (Nat.le_trans (Below.size hgw) (by simp))); clear hn2 hg2 hgw hnw hk2)
        | (at_builtin; go_must (refine wpList_app2 rfl (.tmp 40) (.tmp 44) 22 rfl W1.heap.size 24 i1 _ 5 80 Try.underlying22 hi hi0 hi1 hi2 rfl (by decide) kv (0 + kd.length) (ds.flatMap ND.cells) rfl HOB.out (some ⟨w2.heap.size, 0, none⟩) 1 1 d2.cells rfl HSN.out (by unfold maxLen; omega) (by omega) hbz ?_); intro v7 w7 hown7 hgrow7 hat7; (have HXL := Lib.hid (HV.out.more (by rw [HBASE.out, HP.out]) HGW.out HY'.out HNW.out hown7 hgrow7 hat7)); clear hown7 hgrow7 hat7))
      go_roundw
      case rel => exact ⟨j + 1, _, _, _, by omega, by go_num, rfl, HXL.out⟩
      case measure => simp [intOf] <;> omega
    · have hje : j = v.n := by omega
      have hkd : kd = ks := by rw [HV.out.eq, List.take_of_length_le (by have := HTX.out.2.2.2.1; have := HL.out; omega)]
      obtain ⟨KA, KC, hkv, _⟩ := RowP.own (P := fun _ => True) HV.out.kid.own (fun _ _ => trivial)
      rw [Nat.zero_add] at hkv
      subst hkv hkd
      have hbx := HV.out.box
      have hp := HP.out
      clear HP
      subst hp
      obtain ⟨j0, j1, j2, j3, j4⟩ := hbx.a.cells
      have jl := lt_of_block hbx.a
      obtain ⟨z0, z1, z2, z3, z4⟩ := hbx.z.cells
      have zl := lt_of_block hbx.z
      have zf0 := free_of_cells hbx.z 0
      have jf0 := free_of_cells hbx.a 0
      have zf1 := free_of_cells hbx.z 1
      have jf1 := free_of_cells hbx.a 1
      have zf2 := free_of_cells hbx.z 2
      have jf2 := free_of_cells hbx.a 2
      have zf3 := free_of_cells hbx.z 3
      have jf3 := free_of_cells hbx.a 3
      have zf4 := free_of_cells hbx.z 4
      have jf4 := free_of_cells hbx.a 4
      clear hbx
      go_wp2_with fail
      obtain ⟨W2, hW2⟩ : ∃ W2, W2 = wr.setCell ⟨w.heap.size, 3, none⟩ (.slice KA kd.length KC) := ⟨_, rfl⟩
      have hof : Off [w.heap.size] wr W2 := by rw [hW2]; exact (Off.refl _ _).set (by simp) _
      have hb2 : XBox w W2 ⟨v.k, v.l, v.x, KA, kd.length, KC, v.e⟩ := by
        have ha := HV.out.box.a
        have hz := HV.out.box.z
        rw [hW2]
        refine ⟨HV.out.box.gr.setCell (by simp) _, ?_, (heap_set_other (by simp)).trans hz⟩
        unfold NBox at ha ⊢
        simp [World.setCell, Array.getElem?_modify, ha]
      have hkp : KidR (fun b => W1.heap.size ≤ b) W1.heap.size wr (.slice KA kd.length KC) kd ds := ⟨HV.out.kid.len, HV.out.kid.own, fun i e he => by
        obtain ⟨t', q1, q2⟩ := HV.out.kid.rep i e he
        exact ⟨t', q1, q2.fence (fun b hb _ => hb.1)⟩⟩
      obtain ⟨A, c, h1, h2⟩ := hkp.node (fun b hb => hb) (HR.out.bare2 (Q := fun b => W1.heap.size ≤ b) (w := w)) (hof.on (fun b hb hm => by
        have h3 : b = w.heap.size := by simpa using hm
        have h4 : W1.heap.size ≤ b := hb
        have h5 := HBASE.out
        omega))
      simp only [Nat.zero_add] at h1 h2
      simp only [Value.slice.injEq] at h1
      obtain ⟨rfl, _, rfl⟩ := h1
      rw [← hW2]
      obtain ⟨_, rfl, hb', hn', hg'⟩ := hb2.put (W0 := W1) (by rw [HBASE.out]; omega) h2
      refine bodyPost_ret (results_cell_row (fn := Try.f38) rfl _ _ _ _ _ _ _ rfl (hb') Try.underlying24 rfl (by kernel_rfl)) rfl ⟨_, rfl, hn', hg'⟩
theorem expandP_any (nb Bv Bm : Nat) (L : U5) (cnt : Nat) (g : List UInt8 → Option Nat) (st : AS) : ∀ (m : Nat), ∀ (v : ND) (t t' : NT) (w : World), NR anyB w v t → Exp (EM st) m t t' → VSt nb Bv Bm L cnt g st w → Calls Try.prog 38 #[.pointer (some ⟨Bv, 0, none⟩), .agg #[.int .i64 v.k, .string (bs v.l), .string (bs v.x), .slice v.A v.n v.c, .string (bs v.e)]] w (XPost t' w) := by
  intro m
  induction m with
  | zero => intro v t t' w _ h; exact h.elim
  | succ m ih =>
    intro v t t' w hr hx hs
    rw [Exp] at hx
    by_cases hk9 : t.k = 9
    · rw [if_pos hk9] at hx
      obtain ⟨y, h1, h2⟩ := hx
      exact expand_anchor nb Bv Bm L cnt g st m v t t' w (Lib.hid hr) (Lib.hid hs) hk9 y h1 h2 (Lib.hid ih)
    · rw [if_neg hk9] at hx
      by_cases hk10 : t.k = 10
      · rw [if_pos hk10] at hx
        obtain ⟨y, h0, h1, h2⟩ := hx
        exact expand_alias nb Bv Bm L cnt g st m v t t' w (Lib.hid hr) (Lib.hid hs) hk10 y h0 h1 h2 (Lib.hid ih)
      · rw [if_neg hk10] at hx
        obtain ⟨h0, ks, rfl, h1, h2⟩ := hx
        exact expand_node nb Bv Bm L cnt g st m v t w (Lib.hid hr) (Lib.hid hs) hk9 hk10 ks h0 h1 h2 (Lib.hid ih)
end Go.Proofs.Ytbfnmgiccbdglaa
