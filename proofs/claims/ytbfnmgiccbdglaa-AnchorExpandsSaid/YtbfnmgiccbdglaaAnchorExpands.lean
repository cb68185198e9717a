/- AnchorExpands returns true for every input: Expand answers as the reference's. No condition. -/
import Derived.Test.YtbfnmgiccbdglaaAnAwake
import Derived.Test.YtbfnmgiccbdglaaAnXLight
import Derived.Test.YtbfnmgiccbdglaaAnXPr
import Derived.Test.YtbfnmgiccbdglaaAnSame
namespace Go.Proofs.Ytbfnmgiccbdglaa
open Go.ChangeShapes Go.WideShapes Go.ChangeAt Go.RowKit

set_option maxRecDepth 100000 in
set_option maxHeartbeats 4000000 in
theorem expands_out (v : ND) (L : U5) (w : World) (HS : Hid (∀ W, Gr w W → Calls Try.prog 21 #[.agg #[.int .i64 v.k, .string (bs v.l), .string (bs v.x), .slice v.A v.n v.c, .string (bs v.e)]] W (RB false W))) : Calls Try.prog 7 #[.agg #[.int .i64 v.k, .string (bs v.l), .string (bs v.x), .slice v.A v.n v.c, .string (bs v.e)], .agg #[.int .i64 L.d, .int .i64 L.n, .int .i64 L.b, .int .i64 L.a, .int .i64 L.x]] w (RB true w) := by
  go_enter Try.func7, Try.ntmps7
  go_wp2_with fail
  obtain ⟨nb, hnb⟩ : ∃ nb, nb = w.heap.size := ⟨_, rfl⟩
  obtain ⟨W1, hW1⟩ : ∃ W1, W1 = (w.alloc (.cells #[.int .i64 v.k, .string (bs v.l), .string (bs v.x), .slice v.A v.n v.c, .string (bs v.e)] 24)).alloc (.cells #[.int .i64 L.d, .int .i64 L.n, .int .i64 L.b, .int .i64 L.a, .int .i64 L.x] 35) := ⟨_, rfl⟩
  have hg1 : Gr w W1 := by rw [hW1]; exact ((Gr.refl w).alloc _).alloc _
  have hn1 : NBox W1 nb v := by
    rw [hW1, hnb]
    exact NBox.gr (heap_alloc_new w (.cells #[.int .i64 v.k, .string (bs v.l), .string (bs v.x), .slice v.A v.n v.c, .string (bs v.e)] 24)) ((Gr.refl _).alloc _)
  have hl1 : L5Box W1 (nb + 1) L := by
    have h := heap_alloc_new (w.alloc (.cells #[.int .i64 v.k, .string (bs v.l), .string (bs v.x), .slice v.A v.n v.c, .string (bs v.e)] 24)) (.cells #[.int .i64 L.d, .int .i64 L.n, .int .i64 L.b, .int .i64 L.a, .int .i64 L.x] 35)
    rw [show (w.alloc (.cells #[.int .i64 v.k, .string (bs v.l), .string (bs v.x), .slice v.A v.n v.c, .string (bs v.e)] 24)).heap.size = nb + 1 by simp [hnb]] at h
    rw [hW1]
    exact h
  try rw [← hnb]
  try rw [← hW1]
  have HG1 := Lib.hid hg1
  have HN1 := Lib.hid hn1
  have HL1 := Lib.hid hl1
  clear hW1 hnb hg1 hn1 hl1
  go_wp2_with (first | (go_at_call 21; refine (HS.out _ HG1.out).mono ?_; rintro e w2 ⟨rfl, hb2⟩; (have hn2 := HN1.out.gr hb2); (have hl2 := HL1.out.gr hb2); (have k0 := cell_of_cells hn2 0); (have k1 := cell_of_cells hn2 1); (have k2 := cell_of_cells hn2 2); (have k3 := cell_of_cells hn2 3); (have k4 := cell_of_cells hn2 4); (have kl := lt_of_block hn2); (have l0 := cell_of_cells hl2 0); (have l1 := cell_of_cells hl2 1); (have l2 := cell_of_cells hl2 2); (have l3 := cell_of_cells hl2 3); (have l4 := cell_of_cells hl2 4); (have ll := lt_of_block hl2); (have HG2 := Lib.hid (HG1.out.trans hb2)); (have HN2 := Lib.hid hn2); (have HL2 := Lib.hid hl2); clear hb2 hn2 hl2) | (go_at_call 10; refine (awake_any _).mono ?_; rintro e w6 ⟨rfl, hb6⟩))
  go_ret
  exact ⟨rfl, HG2.out.trans hb6⟩
theorem sameX_any (t : NT) (d d' : ND) (W : World) (h : NR anyB W d t) (h' : NR anyB W d' t) : Calls Try.prog 24 #[.agg #[.int .i64 d.k, .string (bs d.l), .string (bs d.x), .slice d.A d.n d.c, .string (bs d.e)], .agg #[.int .i64 d'.k, .string (bs d'.l), .string (bs d'.x), .slice d'.A d'.n d'.c, .string (bs d'.e)]] W (RB true W) := by
  obtain ⟨m1, h1⟩ := h
  obtain ⟨m2, h2⟩ := h'
  exact sameRP_any (m1 + m2) d t d' t true W (h1.ups _ (by omega)) (h2.ups _ (by omega)) (sameF_refl t)
set_option maxRecDepth 100000 in
set_option maxHeartbeats 4000000 in
theorem expands_in (v : ND) (L : U5) (q : NT × Int) (w : World) (HS : Hid (∀ W, Gr w W → Calls Try.prog 21 #[.agg #[.int .i64 v.k, .string (bs v.l), .string (bs v.x), .slice v.A v.n v.c, .string (bs v.e)]] W (RB true W))) (HX1 : Hid (∀ W, Gr w W → Calls Try.prog 22 #[.agg #[.int .i64 v.k, .string (bs v.l), .string (bs v.x), .slice v.A v.n v.c, .string (bs v.e)], .agg #[.int .i64 L.d, .int .i64 L.n, .int .i64 L.b, .int .i64 L.a, .int .i64 L.x]] W (RNI q W))) (HX2 : Hid (∀ W, Gr w W → Calls Try.prog 23 #[.agg #[.int .i64 v.k, .string (bs v.l), .string (bs v.x), .slice v.A v.n v.c, .string (bs v.e)], .agg #[.int .i64 L.d, .int .i64 L.n, .int .i64 L.b, .int .i64 L.a, .int .i64 L.x]] W (RNI q W))) : Calls Try.prog 7 #[.agg #[.int .i64 v.k, .string (bs v.l), .string (bs v.x), .slice v.A v.n v.c, .string (bs v.e)], .agg #[.int .i64 L.d, .int .i64 L.n, .int .i64 L.b, .int .i64 L.a, .int .i64 L.x]] w (RB true w) := by
  have e6 : (q.2 == q.2) = true := by simp
  have HSA : Hid (∀ (d d' : ND) (W : World), NR anyB W d q.1 → NR anyB W d' q.1 → Calls Try.prog 24 #[.agg #[.int .i64 d.k, .string (bs d.l), .string (bs d.x), .slice d.A d.n d.c, .string (bs d.e)], .agg #[.int .i64 d'.k, .string (bs d'.l), .string (bs d'.x), .slice d'.A d'.n d'.c, .string (bs d'.e)]] W (RB true W)) := Lib.hid (fun d d' W h h' => sameX_any q.1 d d' W h h')
  go_enter Try.func7, Try.ntmps7
  go_wp2_with fail
  obtain ⟨nb, hnb⟩ : ∃ nb, nb = w.heap.size := ⟨_, rfl⟩
  obtain ⟨W1, hW1⟩ : ∃ W1, W1 = (w.alloc (.cells #[.int .i64 v.k, .string (bs v.l), .string (bs v.x), .slice v.A v.n v.c, .string (bs v.e)] 24)).alloc (.cells #[.int .i64 L.d, .int .i64 L.n, .int .i64 L.b, .int .i64 L.a, .int .i64 L.x] 35) := ⟨_, rfl⟩
  have hg1 : Gr w W1 := by rw [hW1]; exact ((Gr.refl w).alloc _).alloc _
  have hn1 : NBox W1 nb v := by
    rw [hW1, hnb]
    exact NBox.gr (heap_alloc_new w (.cells #[.int .i64 v.k, .string (bs v.l), .string (bs v.x), .slice v.A v.n v.c, .string (bs v.e)] 24)) ((Gr.refl _).alloc _)
  have hl1 : L5Box W1 (nb + 1) L := by
    have h := heap_alloc_new (w.alloc (.cells #[.int .i64 v.k, .string (bs v.l), .string (bs v.x), .slice v.A v.n v.c, .string (bs v.e)] 24)) (.cells #[.int .i64 L.d, .int .i64 L.n, .int .i64 L.b, .int .i64 L.a, .int .i64 L.x] 35)
    rw [show (w.alloc (.cells #[.int .i64 v.k, .string (bs v.l), .string (bs v.x), .slice v.A v.n v.c, .string (bs v.e)] 24)).heap.size = nb + 1 by simp [hnb]] at h
    rw [hW1]
    exact h
  try rw [← hnb]
  try rw [← hW1]
  have HG1 := Lib.hid hg1
  have HN1 := Lib.hid hn1
  have HL1 := Lib.hid hl1
  clear hW1 hnb hg1 hn1 hl1
  go_wp2_with (first | (go_at_call 21; refine (HS.out _ HG1.out).mono ?_; rintro e w2 ⟨rfl, hb2⟩; (have hn2 := HN1.out.gr hb2); (have hl2 := HL1.out.gr hb2); (have k0 := cell_of_cells hn2 0); (have k1 := cell_of_cells hn2 1); (have k2 := cell_of_cells hn2 2); (have k3 := cell_of_cells hn2 3); (have k4 := cell_of_cells hn2 4); (have kl := lt_of_block hn2); (have l0 := cell_of_cells hl2 0); (have l1 := cell_of_cells hl2 1); (have l2 := cell_of_cells hl2 2); (have l3 := cell_of_cells hl2 3); (have l4 := cell_of_cells hl2 4); (have ll := lt_of_block hl2); (have HG2 := Lib.hid (HG1.out.trans hb2)); (have HN2 := Lib.hid hn2); (have HL2 := Lib.hid hl2); clear hb2 hn2 hl2) | (go_at_call 22; refine (HX1.out _ HG2.out).mono ?_; rintro e w3 ⟨d1, rfl, hr3, hb3⟩; (have hg3a : Gr w3 (w3.alloc (.cells #[.int .i64 d1.k, .string (bs d1.l), .string (bs d1.x), .slice d1.A d1.n d1.c, .string (bs d1.e)] 24)) := (Gr.refl _).alloc _); (have HR3 := Lib.hid (hr3.gr hg3a)); (have hn3 := (HN2.out.gr hb3).gr hg3a); (have hl3 := (HL2.out.gr hb3).gr hg3a); (have HB3 : Hid (NBox (w3.alloc (.cells #[.int .i64 d1.k, .string (bs d1.l), .string (bs d1.x), .slice d1.A d1.n d1.c, .string (bs d1.e)] 24)) w3.heap.size d1) := Lib.hid (heap_alloc_new w3 _)); (have m0 := cell_of_cells hn3 0); (have m1 := cell_of_cells hn3 1); (have m2 := cell_of_cells hn3 2); (have m3 := cell_of_cells hn3 3); (have m4 := cell_of_cells hn3 4); (have ml := lt_of_block hn3); (have n0 := cell_of_cells hl3 0); (have n1 := cell_of_cells hl3 1); (have n2 := cell_of_cells hl3 2); (have n3 := cell_of_cells hl3 3); (have n4 := cell_of_cells hl3 4); (have nl := lt_of_block hl3); (have HG3 := Lib.hid ((HG2.out.trans hb3).trans hg3a)); (have HN3 := Lib.hid hn3); (have HL3 := Lib.hid hl3); clear hb3 hn3 hl3 hr3 hg3a) | (go_at_call 23; refine (HX2.out _ HG3.out).mono ?_; rintro e w4 ⟨d2, rfl, hr4, hb4⟩; (have hg4a : Gr w4 (w4.alloc (.cells #[.int .i64 d2.k, .string (bs d2.l), .string (bs d2.x), .slice d2.A d2.n d2.c, .string (bs d2.e)] 24)) := (Gr.refl _).alloc _); (have HR4 := Lib.hid (hr4.gr hg4a)); (have HR5 := Lib.hid (HR3.out.gr (hb4.trans hg4a))); (have hb4x := HB3.out.gr (hb4.trans hg4a)); (have x0 := cell_of_cells hb4x 0); (have x1 := cell_of_cells hb4x 1); (have x2 := cell_of_cells hb4x 2); (have x3 := cell_of_cells hb4x 3); (have x4 := cell_of_cells hb4x 4); (have xl := lt_of_block hb4x); (have HG4 := Lib.hid ((HG3.out.trans hb4).trans hg4a)); clear hb4 hr4 hg4a hb4x) | (go_at_call 24; refine (HSA.out _ _ _ HR5.out HR4.out).mono ?_; rintro e w5 ⟨rfl, hb5⟩; (have HG5 := Lib.hid (HG4.out.trans hb5)); clear hb5) | (go_at_call 10; refine (awake_any _).mono ?_; rintro e w6 ⟨rfl, hb6⟩))
  go_ret
  exact ⟨rfl, HG5.out.trans hb6⟩
theorem anchorExpands_any (m : Nat) (v : ND) (t : NT) (L : U5) (w : World) (hr : NRep anyB m w v t) : Calls Try.prog 7 #[.agg #[.int .i64 v.k, .string (bs v.l), .string (bs v.x), .slice v.A v.n v.c, .string (bs v.e)], .agg #[.int .i64 L.d, .int .i64 L.n, .int .i64 L.b, .int .i64 L.a, .int .i64 L.x]] w (RB true w) := by
  have hs := fun W (hg : Gr w W) => light_any m v t W (hr.gr hg)
  cases hlt : lightB t with
  | false =>
    rw [hlt] at hs
    exact expands_out v L w (Lib.hid hs)
  | true =>
    rw [hlt] at hs
    obtain ⟨f1, _, f3⟩ := smallX_facts (light_small hlt)
    have hx : XOk L t := XOk.small f1 (Nat.le_trans f3 (by decide))
    exact expands_in v L (xpE L t) w (Lib.hid hs) (Lib.hid (fun W hg => ExpandP_any m v t L W (hr.gr hg) hx)) (Lib.hid (fun W hg => ExpandRP_any m v t L W (hr.gr hg) hx))
namespace AnchorExpands
set_option maxRecDepth 100000 in
theorem lifted (os : Os) (started : os.Started) (H : Type) (enc : TypeId × Value → H) :
    ReturnsInHanded {} Try.checked os 7 .any (Rows.anchorExpandsSpec.pre6 enc Try.prog Try.f7 Rows.anchorExpandsRow.domain false) (Rows.anchorExpandsSpec.post enc Try.prog Try.f7 false true false false) := by
  refine law_lifted (C := Try.checked) (tb := 4) own started (by kernel_rfl) Try.func7 laidOut rfl rfl Try.underlying4 (by kernel_rfl) ?_
    (ChangeSpec.witness6 (enc := enc) (C := Try.checked) false ⟨#[], #[.agg #[.int .i64 0, .string ⟨#[]⟩, .string ⟨#[]⟩, .slice none 0 0, .string ⟨#[]⟩], .agg #[.int .i64 0, .int .i64 0, .int .i64 0, .int .i64 0, .int .i64 0]], []⟩ 8 (by kernel_rfl) (by kernel_rfl) (by kernel_rfl) (by kernel_rfl)) ?_
  · intro ds hl
    match ds, hl with
    | [_, _], _ => rfl
  · intro W base args ds ps hval0 hA0 hlt
    have hval : ∀ (j : Nat) t v, Try.f7.params[j]? = some t → args[j]? = some v → Value.okWide Try.prog W .any base t v := hval0
    have hA : DataW.TrodAll enc Try.prog W 0 (fun _ => true) true Try.f7.params.toList args.toList ds ps := hA0
    rw [Try.params7] at hA hval
    obtain ⟨v0, v1, d0, d1, p0, p1, rfl, rfl, rfl, h0, h1⟩ := trodAll_two hA
    obtain ⟨ev0, tv0, mv0, rfl, hrv0⟩ := open_node (hval 0 24 v0 rfl rfl) h0
    obtain ⟨d, n, b, a, x, rfl, wL⟩ := open_int5 Try.underlying35 Try.underlying3 (by kernel_rfl) (hval 1 35 v1 rfl rfl) h1
    exact anchorExpands_any mv0 ev0 tv0 ⟨d, n, b, a, x⟩ W hrv0

theorem proved : Rows.AnchorExpandsSaid :=
  OpenClaim.holds_of_wide 7 Try.f7 rfl rfl rfl rfl rfl rfl rfl ⟨rfl, rfl, rfl, rfl, rfl⟩ rfl rfl rfl rfl rfl (by kernel_rfl) Try.func7 (by kernel_rfl)
    (of_decide_eq_true (by kernel_rfl)) (by unfold Func.isWrapper; first | (rw [if_pos (by decide +kernel)]; kernel_rfl) | (rw [if_neg (by decide +kernel)]; exact ⟨rfl, rfl⟩))
    (fun os started H enc _ => lifted os started H enc)
end AnchorExpands
end Go.Proofs.Ytbfnmgiccbdglaa
