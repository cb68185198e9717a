/- SpanSingles returns true for every input: the single edit is the reference's and makes the second text. No condition. -/
import Derived.Test.YtapginodpikijaaSpanSglW
import Derived.Deep.QuietTactic
import Derived.BigQuiet
namespace Go.Proofs.Ytapginodpikijaa
open Go.ChangeShapes Go.WideShapes Go.ChangeAt Go.RowKit
open Go.Lib hiding intOf

theorem check_one (e : EN) (size : Nat) (h : Ok size 0 [e]) : checkF ([e].map EN.ed) size = 0 := by
  obtain ⟨h1, h2, h3, _⟩ := h
  have hv : validS e.ed.f e.ed.t size = true := by
    unfold validS EN.ed
    rw [decide_eq_true_eq]
    dsimp only
    omega
  unfold checkF
  rw [if_neg (by simp)]
  simp only [List.map_cons, List.map_nil, checkL]
  rw [if_neg (by rw [hv]; decide), if_neg]
  unfold EN.ed
  dsimp only
  omega
set_option maxRecDepth 100000 in
set_option maxHeartbeats 4000000 in
theorem singles_far (a b : List UInt8) (w : World) (h : 2000 < a.length ∨ 2000 < b.length) : Calls Try.prog 6 #[.string (bs a), .string (bs b)] w (RB true w) := by
  have hsa : ((bs a).size : Int) = a.length := rfl
  have hsb : ((bs b).size : Int) = b.length := rfl
  go_enter Try.func6, Try.ntmps6
  go_wp2_with fail
  all_goals (refine (livesP_any _).mono ?_; rintro e w9 ⟨rfl, hb9⟩)
  all_goals go_wp2_with fail
  all_goals go_ret
  all_goals exact ⟨rfl, (by with_reducible (repeat (first | exact Gr.refl _ | assumption | apply Gr.alloc | apply Gr.drew | apply Gr.drewN | refine Gr.setCell ?_ (by first | (simp; done) | (simp; omega)) _ | refine Gr.trans ?_ (by assumption))))⟩
set_option maxRecDepth 100000 in
set_option maxHeartbeats 4000000 in
theorem singles_near (a b : List UInt8) (w : World) (ha : a.length ≤ 2000) (hb : b.length ≤ 2000) : Calls Try.prog 6 #[.string (bs a), .string (bs b)] w (RB true w) := by
  have hsa : ((bs a).size : Int) = a.length := rfl
  have hsb : ((bs b).size : Int) = b.length := rfl
  have hok := sgl_ok a b
  have hap := sgl_apply a b
  have hsz := sgl_size a b
  have h1 := singleP_any a b w ha hb
  have h2 := fun w' => singleRP_any a b w' ha hb
  have hcheck : checkF ([sglE a b].map EN.ed) a.length = 0 := check_one _ _ hok
  unfold SglOut EdV at h1 h2
  generalize sglE a b = e at *
  obtain ⟨F, T, S⟩ := e
  have H1 := Lib.hid h1
  have H2 := Lib.hid h2
  have HOK := Lib.hid hok
  have HAP := Lib.hid hap
  have HCH := Lib.hid hcheck
  have hsz' : S.length ≤ b.length := hsz
  have hft : F ≤ T ∧ T ≤ a.length := ⟨hok.2.1, hok.2.2.1⟩
  clear h1 h2 hok hap hcheck hsz
  obtain ⟨hft1, hft2⟩ := hft
  go_enter Try.func6, Try.ntmps6
  go_wp2_with fail
  refine (H1.out).mono ?_
  rintro e w1 ⟨rfl, hb1⟩
  go_wp2_with fail
  have hE : EditsAt ((w1.alloc (.cells #[.int .i64 F, .int .i64 T, .string (bs S)] 44)).alloc (.cells #[.int .i64 F, .int .i64 T, .string (bs S)] 44)) (some ⟨w1.heap.size + 1, 0, none⟩) 1 ([EN.mk F T S].map EN.ed) := by
    have hb := heap_alloc_new (w1.alloc (.cells #[.int .i64 F, .int .i64 T, .string (bs S)] 44)) (.cells #[.int .i64 F, .int .i64 T, .string (bs S)] 44)
    have hz : (w1.alloc (.cells #[.int .i64 F, .int .i64 T, .string (bs S)] 44)).heap.size = w1.heap.size + 1 := by simp
    rw [hz] at hb
    exact edits_one hb (wf_nat (show F ≤ 4194304 by omega)) (wf_nat (show T ≤ 4194304 by omega)) (by show S.length ≤ maxLen; unfold maxLen; omega)
  have HE := Lib.hid hE
  clear hE
  refine (applyP_ok a _ 1 1 [EN.mk F T S] _ HE.out (by omega) HCH.out HOK.out (by simp [texts]; omega)).mono ?_
  rw [HAP.out]
  rintro e w2 ⟨rfl, hb2⟩
  have hs2 := Below.size hb2
  have hc2 := (Gr.cells hb2).1
  have c0 := hc2 w1.heap.size 0 (by simp; omega)
  have c1 := hc2 w1.heap.size 1 (by simp; omega)
  have c2 := hc2 w1.heap.size 2 (by simp; omega)
  simp at c0 c1 c2 hs2
  clear hc2 HE
  have hS : ∀ w', Calls Try.prog 24 #[.string (bs a), .string (bs b)] w' fun e w'' => e = .returned (.agg #[.int .i64 F, .int .i64 T, .string (bs S)]) ∧ Below w'.heap.size w' w'' := H2.out
  have HS := Lib.hid hS
  clear hS H1 H2 HOK HAP HCH
  go_wp2_with fail
  have kq9_0 := cell_regrown c0
  have kq9_1 := cell_regrown c1
  have kq9_2 := cell_regrown c2
  refine wp_region_quiet_below (by kernel_rfl) (by kernel_rfl) ?_
  repeat (go_big_quiet_step (first | (go_at_call 11; exact Calls.regrown_of (livesP_any _)) | (go_at_call 24; exact Calls.regrown_of (HS.out _))))
  refine wpQuiet_nil ?_
  intro wq9 hwq9
  have hbq9 := gr_regrown hwq9
  clear hwq9
  replace kq9_0 := hbq9.cell c0
  replace kq9_1 := hbq9.cell c1
  replace kq9_2 := hbq9.cell c2
  go_wp2_with fail
  go_ret
  exact ⟨rfl, (by with_reducible (repeat (first | exact Gr.refl _ | assumption | apply Gr.alloc | apply Gr.drew | apply Gr.drewN | refine Gr.setCell ?_ (by first | (simp; done) | (simp; omega)) _ | refine Gr.trans ?_ (by assumption))))⟩
theorem spanSingles_any (a b : List UInt8) (w : World) : Calls Try.prog 6 #[.string (bs a), .string (bs b)] w (RB true w) := by
  by_cases h : a.length ≤ 2000 ∧ b.length ≤ 2000
  · exact singles_near a b w h.1 h.2
  · exact singles_far a b w (by omega)
namespace SpanSingles
set_option maxRecDepth 100000 in
theorem lifted (os : Os) (started : os.Started) (H : Type) (enc : TypeId × Value → H) :
    ReturnsInHanded {} Try.checked os 6 .any (Rows.spanSinglesSpec.pre6 enc Try.prog Try.f6 Rows.spanSinglesRow.domain false) (Rows.spanSinglesSpec.post enc Try.prog Try.f6 false true false false) := by
  refine law_lifted (C := Try.checked) (tb := 4) own started (by kernel_rfl) Try.func6 laidOut rfl rfl Try.underlying4 (by kernel_rfl) ?_
    (ChangeSpec.witness6 (enc := enc) (C := Try.checked) false ⟨#[], #[.string ⟨#[]⟩, .string ⟨#[]⟩], []⟩ 8 (by kernel_rfl) (by kernel_rfl) (by kernel_rfl) (by kernel_rfl)) ?_
  · intro ds hl
    match ds, hl with
    | [_, _], _ => rfl
  · intro W base args ds ps hval0 hA0 hlt
    have hval : ∀ (j : Nat) t v, Try.f6.params[j]? = some t → args[j]? = some v → Value.okWide Try.prog W .any base t v := hval0
    have hA : DataW.TrodAll enc Try.prog W 0 (fun _ => true) true Try.f6.params.toList args.toList ds ps := hA0
    rw [Try.params6] at hA hval
    obtain ⟨v0, v1, d0, d1, p0, p1, rfl, rfl, rfl, h0, h1⟩ := trodAll_two hA
    obtain ⟨v0', rfl⟩ := okWide_string Try.underlying9 (hval 0 9 v0 rfl rfl)
    obtain ⟨mv0, hrv0⟩ := Rd.of_trod h0
    obtain ⟨v0q, hcs, hzv0⟩ := Rd.string Try.underlying9 hrv0
    simp only [Value.cells, List.cons.injEq, Value.string.injEq, and_true] at hcs
    subst hcs
    obtain ⟨sv0, rfl⟩ : ∃ l, v0' = bs l := ⟨v0'.data.toList, rfl⟩
    obtain ⟨v1', rfl⟩ := okWide_string Try.underlying9 (hval 1 9 v1 rfl rfl)
    obtain ⟨mv1, hrv1⟩ := Rd.of_trod h1
    obtain ⟨v1q, hcs, hzv1⟩ := Rd.string Try.underlying9 hrv1
    simp only [Value.cells, List.cons.injEq, Value.string.injEq, and_true] at hcs
    subst hcs
    obtain ⟨sv1, rfl⟩ : ∃ l, v1' = bs l := ⟨v1'.data.toList, rfl⟩
    exact spanSingles_any sv0 sv1 W

theorem proved : Rows.SpanSinglesSaid :=
  OpenClaim.holds_of_wide 6 Try.f6 rfl rfl rfl rfl rfl rfl rfl ⟨rfl, rfl, rfl, rfl, rfl⟩ rfl rfl rfl rfl rfl (by kernel_rfl) Try.func6 (by kernel_rfl)
    (of_decide_eq_true (by kernel_rfl)) (by unfold Func.isWrapper; first | (rw [if_pos (by decide +kernel)]; kernel_rfl) | (rw [if_neg (by decide +kernel)]; exact ⟨rfl, rfl⟩))
    (fun os started H enc _ => lifted os started H enc)
end SpanSingles
end Go.Proofs.Ytapginodpikijaa
