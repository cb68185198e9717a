/- Expand of anchor, walked. -/
import Derived.Test.YtbfnmgiccbdglaaAnXEx
import Derived.Test.YtbfnmgiccbdglaaAnXMs
namespace Go.Proofs.Ytbfnmgiccbdglaa
open Go.ChangeShapes Go.WideShapes Go.ChangeAt Go.RowKit

/-- A node and an error. -/
def RNI (q : NT × Int) (w : World) (e : Ending) (w' : World) : Prop := ∃ d : ND, e = .returned (.tuple #[.agg #[.int .i64 d.k, .string (bs d.l), .string (bs d.x), .slice d.A d.n d.c, .string (bs d.e)], .int .i64 q.2]) ∧ NR anyB w' d q.1 ∧ Gr w w'
theorem results_node {fn : Func} {p u : Tmp} (h : fn.results = #[.cell p 24, .tmp u]) (tmps : Array Value) (w : World) (b : Nat) (d : ND) (ht : tmps.getD p undef = .pointer (some ⟨b, 0, none⟩)) (hb : NBox w b d) : (Go.results fn tmps).run Try.prog w = .ok (.tuple #[.agg #[.int .i64 d.k, .string (bs d.l), .string (bs d.x), .slice d.A d.n d.c, .string (bs d.e)], tmps.getD u undef]) w := by
  have hl := run_loadVar_row w b 24 24 _ _ _ hb Try.underlying24 rfl (by kernel_rfl)
  rw [results_cell_tmp h, ht]
  simp only [asAddr, Sem.run_pure, Result.andThen_ok]
  rw [hl]
  rfl
theorem NR.zero (P : Nat → Prop) (W : World) : NR P W ⟨0, [], [], none, 0, 0, []⟩ zT := ⟨1, rfl, rfl, rfl, rfl, rfl, Nat.le_refl _, Nat.zero_le _, by decide, Nat.zero_le _, Nat.zero_le _, Nat.zero_le _, fun _ => rfl, fun i y hy => by simp at hy⟩
structure XB3 (w W : World) (v : ND) (L : U5) : Prop where
  gr : Gr w W
  a : NBox W w.heap.size v
  l : L5Box W (w.heap.size + 1) L
  z : NBox W (w.heap.size + 1 + 1) ⟨0, [], [], none, 0, 0, []⟩
theorem XB3.made (w : World) (v : ND) (L : U5) : XB3 w (((w.alloc (.cells #[.int .i64 v.k, .string (bs v.l), .string (bs v.x), .slice v.A v.n v.c, .string (bs v.e)] 24)).alloc (.cells #[.int .i64 L.d, .int .i64 L.n, .int .i64 L.b, .int .i64 L.a, .int .i64 L.x] 35)).alloc (.cells #[.int .i64 0, .string ⟨#[]⟩, .string ⟨#[]⟩, .slice none 0 0, .string ⟨#[]⟩] 24)) v L := by
  refine ⟨(((Gr.refl w).alloc _).alloc _).alloc _, NBox.gr (heap_alloc_new w _) (((Gr.refl _).alloc _).alloc _), ?_, ?_⟩
  · have h := heap_alloc_new (w.alloc (.cells #[.int .i64 v.k, .string (bs v.l), .string (bs v.x), .slice v.A v.n v.c, .string (bs v.e)] 24)) (.cells #[.int .i64 L.d, .int .i64 L.n, .int .i64 L.b, .int .i64 L.a, .int .i64 L.x] 35)
    rw [show (w.alloc (.cells #[.int .i64 v.k, .string (bs v.l), .string (bs v.x), .slice v.A v.n v.c, .string (bs v.e)] 24)).heap.size = w.heap.size + 1 by simp] at h
    exact L5Box.gr h ((Gr.refl _).alloc _)
  · have h := heap_alloc_new ((w.alloc (.cells #[.int .i64 v.k, .string (bs v.l), .string (bs v.x), .slice v.A v.n v.c, .string (bs v.e)] 24)).alloc (.cells #[.int .i64 L.d, .int .i64 L.n, .int .i64 L.b, .int .i64 L.a, .int .i64 L.x] 35)) (.cells #[.int .i64 0, .string ⟨#[]⟩, .string ⟨#[]⟩, .slice none 0 0, .string ⟨#[]⟩] 24)
    rw [show ((w.alloc (.cells #[.int .i64 v.k, .string (bs v.l), .string (bs v.x), .slice v.A v.n v.c, .string (bs v.e)] 24)).alloc (.cells #[.int .i64 L.d, .int .i64 L.n, .int .i64 L.b, .int .i64 L.a, .int .i64 L.x] 35)).heap.size = w.heap.size + 1 + 1 by simp] at h
    exact h
theorem XB3.to {w W W' : World} {v : ND} {L : U5} (h : XB3 w W v L) (hg : Gr W W') : XB3 w W' v L := ⟨h.gr.trans hg, h.a.gr hg, h.l.gr hg, h.z.gr hg⟩
theorem XB3.put {w W0 W : World} {v d : ND} {L : U5} {t' : NT} (h : XB3 w W v L) (h0 : w.heap.size + 1 + 1 < W0.heap.size) (hn : NR (fun b => W0.heap.size ≤ b) W d t') :
    ∃ W', W' = (((((W.setCell ⟨w.heap.size + 1 + 1, 0, none⟩ (.int .i64 d.k)).setCell ⟨w.heap.size + 1 + 1, 1, none⟩ (.string (bs d.l))).setCell ⟨w.heap.size + 1 + 1, 2, none⟩ (.string (bs d.x))).setCell ⟨w.heap.size + 1 + 1, 3, none⟩ (.slice d.A d.n d.c)).setCell ⟨w.heap.size + 1 + 1, 4, none⟩ (.string (bs d.e))) ∧ NBox W' (w.heap.size + 1 + 1) d ∧ NR anyB W' d t' ∧ Gr w W' := by
  refine ⟨_, rfl, h.z.set d, ?_, ((((h.gr.setCell (by simp; omega) _).setCell (by simp; omega) _).setCell (by simp; omega) _).setCell (by simp; omega) _).setCell (by simp; omega) _⟩
  have hof : Off [w.heap.size + 1 + 1] W (((((W.setCell ⟨w.heap.size + 1 + 1, 0, none⟩ (.int .i64 d.k)).setCell ⟨w.heap.size + 1 + 1, 1, none⟩ (.string (bs d.l))).setCell ⟨w.heap.size + 1 + 1, 2, none⟩ (.string (bs d.x))).setCell ⟨w.heap.size + 1 + 1, 3, none⟩ (.slice d.A d.n d.c)).setCell ⟨w.heap.size + 1 + 1, 4, none⟩ (.string (bs d.e))) := (((((Off.refl _ _).set (by simp) _).set (by simp) _).set (by simp) _).set (by simp) _).set (by simp) _
  exact (hn.on (hof.on (fun b hb hm => by
    have h1 : b = w.heap.size + 1 + 1 := by simpa using hm
    have h2 : W0.heap.size ≤ b := hb
    omega))).fence (fun b hb _ => trivial)
set_option maxRecDepth 100000 in
set_option maxHeartbeats 4000000 in
theorem ExpandP_any (m : Nat) (v : ND) (t : NT) (L : U5) (w : World) (hr : NRep anyB m w v t) (hx : XOk L t) : Calls Try.prog 22 #[.agg #[.int .i64 v.k, .string (bs v.l), .string (bs v.x), .slice v.A v.n v.c, .string (bs v.e)], .agg #[.int .i64 L.d, .int .i64 L.n, .int .i64 L.b, .int .i64 L.a, .int .i64 L.x]] w (RNI (xpE L t) w) := by
  have hl : lenF t ≤ 1152921504606846976 := Nat.le_trans hx.l (by decide)
  have hcall := fun W (hg : Gr w W) => checkV_any m v t L W (hr.gr hg) hl hx.c
  have HCALL := Lib.hid hcall
  generalize hq : xpE L t = q
  have HQ := Lib.hid hq
  have HR := Lib.hid hr
  have HX := Lib.hid hx
  have hmm := @run_makeMap Try.prog
  clear hr hx hl hcall hq
  go_enter Try.func22, Try.ntmps22
  go_wp2_with fail
  have HB1 := Lib.hid (XB3.made w v L)
  generalize (((w.alloc (.cells #[.int .i64 v.k, .string (bs v.l), .string (bs v.x), .slice v.A v.n v.c, .string (bs v.e)] 24)).alloc (.cells #[.int .i64 L.d, .int .i64 L.n, .int .i64 L.b, .int .i64 L.a, .int .i64 L.x] 35)).alloc (.cells #[.int .i64 0, .string ⟨#[]⟩, .string ⟨#[]⟩, .slice none 0 0, .string ⟨#[]⟩] 24)) = W1 at *
  refine (HCALL.out _ HB1.out.gr).mono ?_
  rintro e w2 (⟨hgood, rfl, hb1⟩ | ⟨hgood, Bv, Bm, g, rfl, hvs, hb1⟩)
  · have hbx := HB1.out.to hb1
    have hq2 : q = (zT, 1) := by
      rw [← HQ.out]
      unfold xpE
      rw [chkF_bad hgood]
      rfl
    have HQ2 := Lib.hid hq2
    have z0 := cell_of_cells hbx.z 0
    have zf0 := free_of_cells hbx.z 0
    have z1 := cell_of_cells hbx.z 1
    have zf1 := free_of_cells hbx.z 1
    have z2 := cell_of_cells hbx.z 2
    have zf2 := free_of_cells hbx.z 2
    have z3 := cell_of_cells hbx.z 3
    have zf3 := free_of_cells hbx.z 3
    have z4 := cell_of_cells hbx.z 4
    have zf4 := free_of_cells hbx.z 4
    have zl := lt_of_block hbx.z
    have HBX := Lib.hid hbx
    clear hgood hb1 hbx hq2
    go_wp2_with fail
    obtain ⟨_, rfl, hb', hn', hg'⟩ := HBX.out.put (W0 := w2) (lt_of_block HBX.out.z) (NR.zero _ _)
    refine bodyPost_ret (results_node rfl _ _ _ _ rfl hb') rfl ⟨_, by rw [HQ2.out]; rfl, by rw [HQ2.out]; exact hn', hg'⟩
  · have hbx := HB1.out.to hb1
    have hck := chkF_good hgood
    have hmk : markedB t = true := by
      unfold goodB at hgood
      rw [Bool.and_eq_true] at hgood
      exact proper_marked hgood.2
    obtain ⟨r, hr⟩ : ∃ r, visF L t st0 = r := ⟨_, rfl⟩
    rw [hr] at hck hvs ⊢
    by_cases hz : r.2.1 = 0
    · rw [if_pos hz] at hck
      obtain ⟨hms, k, hex⟩ := xp_law hmk (by rw [hr]; exact hz) HX.out
      rw [hr] at hex
      have hq2 := HQ.out
      unfold xpE at hq2
      rw [hck, if_pos rfl, xpQ_sz HX.out, ← hms] at hq2
      have hcm := measureP_any Bv w2.heap.size m v t 0 (fun _ => Sz.zero) (w2.alloc (.map #[] 0)) ((HR.out.lt.gr (hbx.gr.alloc _)).mono (fun b hb => by have h1 := Below.size hbx.gr; have h2 : b < w.heap.size := hb; omega)) hmk (MapS.made w2) (by have := HX.out.c; omega)
      obtain ⟨ms, hms2⟩ : ∃ ms, msF t (fun _ => Sz.zero) = ms := ⟨_, rfl⟩
      rw [hms2] at hcm hq2
      have HCM := Lib.hid hcm
      have HQ2 := Lib.hid hq2
      have HEX := Lib.hid hex
      have HVS := Lib.hid hvs
      have HBX := Lib.hid hbx
      have hz2 : (r.2.1 != 0) = false := by simp [hz]
      have k0 := cell_of_cells hbx.a 0
      have k1 := cell_of_cells hbx.a 1
      have k2 := cell_of_cells hbx.a 2
      have k3 := cell_of_cells hbx.a 3
      have k4 := cell_of_cells hbx.a 4
      have kl := lt_of_block hbx.a
      clear hgood hb1 hbx hck hmk hr hz hms hex hq2 hcm hms2 hvs
      have HEXC : Hid (∀ W, Gr w2 W → Calls Try.prog 38 #[.pointer (some ⟨Bv, 0, none⟩), .agg #[.int .i64 v.k, .string (bs v.l), .string (bs v.x), .slice v.A v.n v.c, .string (bs v.e)]] W (XPost (xpT L t) W)) := Lib.hid (fun W hg => expandP_any W1.heap.size Bv Bm L (countF t) g r.2.2 k v t (xpT L t) W ⟨m, (HR.out.gr HBX.out.gr).gr hg⟩ HEX.out (HVS.out.gr hg))
      by_cases hd : 192 < ms.1.d
      · have HQ3 : Hid (q = (zT, 9)) := Lib.hid (by rw [← HQ2.out, if_pos hd])
        go_wp2_with (go_at_call 37; refine HCM.out.mono ?_; rintro e w3 ⟨rfl, _, _, hlo⟩; (have hg3 : Gr w2 w3 := (Below.alloc (Below.refl _ w2) (Nat.le_refl _) _).trans hlo); (have HG3 := Lib.hid hg3); (have hbx3 := HBX.out.to hg3); (have z0 := cell_of_cells hbx3.z 0); (have z1 := cell_of_cells hbx3.z 1); (have z2 := cell_of_cells hbx3.z 2); (have z3 := cell_of_cells hbx3.z 3); (have z4 := cell_of_cells hbx3.z 4); (have zl := lt_of_block hbx3.z); (have zf0 := free_of_cells hbx3.z 0); (have zf1 := free_of_cells hbx3.z 1); (have zf2 := free_of_cells hbx3.z 2); (have zf3 := free_of_cells hbx3.z 3); (have zf4 := free_of_cells hbx3.z 4); (have HBX3 := Lib.hid hbx3); clear hlo hg3 hbx3)
        obtain ⟨_, rfl, hb', hn', hg'⟩ := HBX3.out.put (W0 := w3) (lt_of_block HBX3.out.z) (NR.zero _ _)
        refine bodyPost_ret (results_node rfl _ _ _ _ rfl (hb'.gr ((Gr.refl _).alloc _))) rfl ⟨_, by rw [HQ3.out]; rfl, by rw [HQ3.out]; exact hn'.gr ((Gr.refl _).alloc _), hg'.alloc _⟩
      · by_cases hn : 524288 < ms.1.n
        · have HQ3 : Hid (q = (zT, 10)) := Lib.hid (by rw [← HQ2.out, if_neg hd, if_pos (.inl hn)])
          go_wp2_with (go_at_call 37; refine HCM.out.mono ?_; rintro e w3 ⟨rfl, _, _, hlo⟩; (have hg3 : Gr w2 w3 := (Below.alloc (Below.refl _ w2) (Nat.le_refl _) _).trans hlo); (have HG3 := Lib.hid hg3); (have hbx3 := HBX.out.to hg3); (have z0 := cell_of_cells hbx3.z 0); (have z1 := cell_of_cells hbx3.z 1); (have z2 := cell_of_cells hbx3.z 2); (have z3 := cell_of_cells hbx3.z 3); (have z4 := cell_of_cells hbx3.z 4); (have zl := lt_of_block hbx3.z); (have zf0 := free_of_cells hbx3.z 0); (have zf1 := free_of_cells hbx3.z 1); (have zf2 := free_of_cells hbx3.z 2); (have zf3 := free_of_cells hbx3.z 3); (have zf4 := free_of_cells hbx3.z 4); (have HBX3 := Lib.hid hbx3); clear hlo hg3 hbx3)
          obtain ⟨_, rfl, hb', hn', hg'⟩ := HBX3.out.put (W0 := w3) (lt_of_block HBX3.out.z) (NR.zero _ _)
          refine bodyPost_ret (results_node rfl _ _ _ _ rfl (hb'.gr ((Gr.refl _).alloc _))) rfl ⟨_, by rw [HQ3.out]; rfl, by rw [HQ3.out]; exact hn'.gr ((Gr.refl _).alloc _), hg'.alloc _⟩
        · by_cases hb : 1048576 < ms.1.b
          · have HQ3 : Hid (q = (zT, 10)) := Lib.hid (by rw [← HQ2.out, if_neg hd, if_pos (.inr hb)])
            go_wp2_with (go_at_call 37; refine HCM.out.mono ?_; rintro e w3 ⟨rfl, _, _, hlo⟩; (have hg3 : Gr w2 w3 := (Below.alloc (Below.refl _ w2) (Nat.le_refl _) _).trans hlo); (have HG3 := Lib.hid hg3); (have hbx3 := HBX.out.to hg3); (have z0 := cell_of_cells hbx3.z 0); (have z1 := cell_of_cells hbx3.z 1); (have z2 := cell_of_cells hbx3.z 2); (have z3 := cell_of_cells hbx3.z 3); (have z4 := cell_of_cells hbx3.z 4); (have zl := lt_of_block hbx3.z); (have zf0 := free_of_cells hbx3.z 0); (have zf1 := free_of_cells hbx3.z 1); (have zf2 := free_of_cells hbx3.z 2); (have zf3 := free_of_cells hbx3.z 3); (have zf4 := free_of_cells hbx3.z 4); (have HBX3 := Lib.hid hbx3); clear hlo hg3 hbx3)
            obtain ⟨_, rfl, hb', hn', hg'⟩ := HBX3.out.put (W0 := w3) (lt_of_block HBX3.out.z) (NR.zero _ _)
            refine bodyPost_ret (results_node rfl _ _ _ _ rfl (hb'.gr ((Gr.refl _).alloc _))) rfl ⟨_, by rw [HQ3.out]; rfl, by rw [HQ3.out]; exact hn'.gr ((Gr.refl _).alloc _), hg'.alloc _⟩
          · have HQ3 : Hid (q = (xpT L t, 0)) := Lib.hid (by rw [← HQ2.out, if_neg hd, if_neg (fun h => by rcases h with h | h; exact hn h; exact hb h)])
            go_wp2_with (first | (go_at_call 37; refine HCM.out.mono ?_; rintro e w3 ⟨rfl, _, _, hlo⟩; (have hg3 : Gr w2 w3 := (Below.alloc (Below.refl _ w2) (Nat.le_refl _) _).trans hlo); (have HG3 := Lib.hid hg3); (have hbx3 := HBX.out.to hg3); (have j0 := cell_of_cells hbx3.a 0); (have j1 := cell_of_cells hbx3.a 1); (have j2 := cell_of_cells hbx3.a 2); (have j3 := cell_of_cells hbx3.a 3); (have j4 := cell_of_cells hbx3.a 4); (have jl := lt_of_block hbx3.a); clear hlo hg3 hbx3) | (go_at_call 38; (have hg5 : Gr w2 (w3.alloc (.cells #[.int .i64 ms.1.d, .int .i64 ms.1.n, .int .i64 ms.1.b] 72)) := HG3.out.alloc _); refine (HEXC.out _ hg5).mono ?_; rintro e w5 ⟨d2, rfl, hn2, hg2⟩; (have hbx5 := HBX.out.to (hg5.trans hg2)); (have z0 := cell_of_cells hbx5.z 0); (have z1 := cell_of_cells hbx5.z 1); (have z2 := cell_of_cells hbx5.z 2); (have z3 := cell_of_cells hbx5.z 3); (have z4 := cell_of_cells hbx5.z 4); (have zl := lt_of_block hbx5.z); (have zf0 := free_of_cells hbx5.z 0); (have zf1 := free_of_cells hbx5.z 1); (have zf2 := free_of_cells hbx5.z 2); (have zf3 := free_of_cells hbx5.z 3); (have zf4 := free_of_cells hbx5.z 4); (have HBX5 := Lib.hid hbx5); (have HN5 := Lib.hid hn2); clear hbx5 hn2 hg2 hg5))
            obtain ⟨_, rfl, hb', hn', hg'⟩ := HBX5.out.put (W0 := w3.alloc (.cells #[.int .i64 ms.1.d, .int .i64 ms.1.n, .int .i64 ms.1.b] 72)) (lt_of_block ((HBX.out.to HG3.out).to ((Gr.refl _).alloc _)).z) HN5.out
            refine bodyPost_ret (results_node rfl _ _ _ _ rfl hb') rfl ⟨_, by rw [HQ3.out]; rfl, by rw [HQ3.out]; exact hn', hg'⟩
    · rw [if_neg hz] at hck
      have hq2 : q = (zT, r.2.1) := by
        rw [← HQ.out]
        unfold xpE
        rw [hck, if_neg hz]
      have HQ2 := Lib.hid hq2
      have hz2 : (r.2.1 != 0) = true := by simp [hz]
      have z0 := cell_of_cells hbx.z 0
      have zf0 := free_of_cells hbx.z 0
      have z1 := cell_of_cells hbx.z 1
      have zf1 := free_of_cells hbx.z 1
      have z2 := cell_of_cells hbx.z 2
      have zf2 := free_of_cells hbx.z 2
      have z3 := cell_of_cells hbx.z 3
      have zf3 := free_of_cells hbx.z 3
      have z4 := cell_of_cells hbx.z 4
      have zf4 := free_of_cells hbx.z 4
      have zl := lt_of_block hbx.z
      have HBX := Lib.hid hbx
      clear hgood hb1 hbx hq2 hck hmk hr hz
      go_wp2_with fail
      obtain ⟨_, rfl, hb', hn', hg'⟩ := HBX.out.put (W0 := w2) (lt_of_block HBX.out.z) (NR.zero _ _)
      refine bodyPost_ret (results_node rfl _ _ _ _ rfl hb') rfl ⟨_, by rw [HQ2.out]; rfl, by rw [HQ2.out]; exact hn', hg'⟩
end Go.Proofs.Ytbfnmgiccbdglaa
