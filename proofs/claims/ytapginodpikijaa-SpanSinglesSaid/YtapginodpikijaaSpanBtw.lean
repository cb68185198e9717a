/- Package span's 'between', walked. -/
import Derived.Test.YtapginodpikijaaSpanEdited
import Derived.ArgAppend
import Derived.Deep.RegionHeld3
import Derived.Deep.AppendLies
import Derived.Deep.DrawnRows
namespace Go.Proofs.Ytapginodpikijaa
open Go.ChangeShapes Go.WideShapes Go.ChangeAt Go.RowKit
open Go.Lib hiding intOf

attribute [local go_sem ↓] Go.wp_at_zero Go.wp_at_succ

/- ## Plain -/
def stepsB (b : List UInt8) : Nat → Nat → List Run → List EN
  | _, _, [] => []
  | f, t, r :: rs => (if f < r.i ∨ t < r.k then [⟨f, r.i, cut b t r.k⟩] else []) ++ stepsB b (r.i + r.n) (r.k + r.n) rs
theorem stepsB_btwR (la lb : Nat) (b : List UInt8) : ∀ (rs : List Run) (f t : Nat), stepsB b f t (rs ++ [⟨la, lb, 0⟩]) = btwR la lb b f t rs
  | [], f, t => by simp [stepsB, btwR]
  | r :: rs, f, t => by rw [List.cons_append, stepsB, btwR, stepsB_btwR la lb b rs]
/-- The runs in order within both texts. -/
def ChainR (la lb : Nat) : Nat → Nat → List Run → Prop
  | _, _, [] => True
  | f, t, r :: rs => f ≤ r.i ∧ t ≤ r.k ∧ r.i + r.n ≤ la ∧ r.k + r.n ≤ lb ∧ ChainR la lb (r.i + r.n) (r.k + r.n) rs
theorem chain_app (la lb : Nat) : ∀ (rs : List Run) (f t : Nat), ChainR la lb f t rs → f ≤ la → t ≤ lb → ChainR la lb f t (rs ++ [⟨la, lb, 0⟩])
  | [], _, _, _, h1, h2 => ⟨h1, h2, Nat.le_refl _, Nat.le_refl _, trivial⟩
  | _ :: rs, _, _, ⟨h1, h2, h3, h4, h5⟩, _, _ => ⟨h1, h2, h3, h4, chain_app la lb rs _ _ h5 h3 h4⟩
def EN.cells (e : EN) : List Value := [.int .i64 e.f, .int .i64 e.t, .string (bs e.s)]
theorem EN.one (e : EN) : ∀ u ∈ e.cells, u.oneCell' = true := by
  intro u hu
  simp only [EN.cells, List.mem_cons, List.not_mem_nil, or_false] at hu
  rcases hu with rfl | rfl | rfl <;> rfl
theorem edits_flat : ∀ (es : List EN) (i j : Nat) (e : EN), es[i]? = some e → j < 3 → (es.flatMap EN.cells)[i * 3 + j]? = e.cells[j]?
  | [], _, _, _, h, _ => by simp at h
  | x :: q, 0, j, r, h, hj => by
    simp only [List.getElem?_cons_zero, Option.some.injEq] at h
    subst h
    rw [List.flatMap_cons, List.getElem?_append_left (by show 0 * 3 + j < 3; omega)]
    simp
  | x :: q, i + 1, j, r, h, hj => by
    have hx : x.cells.length = 3 := rfl
    rw [List.flatMap_cons, List.getElem?_append_right (by rw [hx]; omega), hx]
    have h1 : (i + 1) * 3 + j - 3 = i * 3 + j := by omega
    rw [h1]
    exact edits_flat q i j r (by simpa using h) hj
theorem runs_flat_inv : ∀ (rs : List Run) (j : Nat) (u : Value), (rs.flatMap Run.cells)[j]? = some u → ∃ i r k, k < 3 ∧ j = i * 3 + k ∧ rs[i]? = some r ∧ r.cells[k]? = some u
  | [], j, u, h => by simp at h
  | x :: q, j, u, h => by
    have hx : x.cells.length = 3 := rfl
    rw [List.flatMap_cons] at h
    by_cases hj : j < 3
    · rw [List.getElem?_append_left (by rw [hx]; exact hj)] at h
      exact ⟨0, x, j, hj, by omega, rfl, h⟩
    · rw [List.getElem?_append_right (by rw [hx]; omega), hx] at h
      obtain ⟨i, r, k, h1, h2, h3, h4⟩ := runs_flat_inv q (j - 3) u h
      exact ⟨i + 1, r, k, h1, by omega, by simpa using h3, h4⟩
theorem flat3 : ∀ rs : List Run, (rs.flatMap Run.cells).length = rs.length * 3
  | [] => rfl
  | x :: q => by
    have hx : x.cells.length = 3 := rfl
    rw [List.flatMap_cons, List.length_append, hx, flat3 q, List.length_cons]
    omega
/-- An edit of small numbers and a short text. -/
def EN.small (e : EN) : Prop := e.f ≤ 4194304 ∧ e.t ≤ 4194304 ∧ e.s.length ≤ 4194304
theorem wf_nat {n : Nat} (h : n ≤ 4194304) : (Lit.int .i64 (n : Int)).wf = true := by
  have h2 : IntKind.i64.min = -9223372036854775808 := by rfl
  have h3 : IntKind.i64.max = 9223372036854775807 := by rfl
  simp only [Lit.wf, h2, h3, Bool.and_eq_true, decide_eq_true_eq]
  omega
theorem EditsAt.of_own {W : World} {B : Nat} {t : TypeId} {v : Value} {n : Nat} {es : List EN} (hown : W.ownsRow B t 3 v n (es.flatMap EN.cells)) (hl : es.length = n) (hs : ∀ e ∈ es, e.small) : ∃ A c, v = .slice A n c ∧ n ≤ c ∧ c ≤ maxLen ∧ EditsAt W A n (es.map EN.ed) := by
  have hown' := hown
  have hs' : ∀ e ∈ es.map EN.ed, (Lit.int .i64 e.f).wf = true ∧ (Lit.int .i64 e.t).wf = true ∧ e.s.length ≤ maxLen := by
    intro e he
    obtain ⟨x, hx, rfl⟩ := List.mem_map.1 he
    obtain ⟨h1, h2, h3⟩ := hs x hx
    exact ⟨wf_nat h1, wf_nat h2, by show x.s.length ≤ maxLen; unfold maxLen; omega⟩
  rcases hown.2 with ⟨rfl, h0⟩ | ⟨g, cap, cur, rfl, _, hh, hc, hm, _⟩
  · exact ⟨none, 0, by rw [h0], by omega, Nat.zero_le _, by simp [hl], hs', fun h => absurd h (by omega)⟩
  · refine ⟨_, _, rfl, hc, hm, by simp [hl], hs', fun _ => ⟨g, 0, rfl, lt_of_block hh, fun i hi => ?_⟩⟩
    have hi' : i < es.length := by simpa using hi
    have key : ∀ j u, j < 3 → (es[i]).cells[j]? = some u → W.cell? ⟨g, 0 + i * 3 + j, none⟩ = some u := fun j u hj hu => by
      have h1 := edits_flat es i j _ (List.getElem?_eq_getElem hi') hj
      rw [hu] at h1
      have h2 := (hown'.cellAt (i * 3 + j) (by omega)).trans h1
      simpa [Nat.add_assoc] using h2
    rw [List.getElem_map]
    exact ⟨key 0 _ (by omega) rfl, key 1 _ (by omega) rfl, key 2 _ (by omega) rfl⟩
theorem own_formN {w : World} {base : Nat} {e : TypeId} {size : Nat} {v : Value} {n : Nat} {xs : List Value} (h : w.ownsRow base e size v n xs) : ∃ A N cap, v = .slice A N cap ∧ N = n := by
  obtain ⟨A, c, h⟩ := own_form h
  exact ⟨A, _, c, h, rfl⟩
theorem edit_step {w : World} {B n : Nat} {T : TypeId} {v : Value} {es : List EN} {f i t k : Nat} {b : List UInt8} (h : w.ownsRow B T 3 v (n + 1) (es.flatMap EN.cells ++ [.int .i64 f, .int .i64 i, .string ((bs b).extract t k)])) (hn : es.length = n) :
    w.ownsRow B T 3 v (es ++ [EN.mk f i (cut b t k)]).length ((es ++ [EN.mk f i (cut b t k)]).flatMap EN.cells) := by
  rw [List.length_append, hn, List.flatMap_append]
  rw [bs_extract] at h
  exact h
theorem own_mono {w : World} {base base' : Nat} {e : TypeId} {size : Nat} {v : Value} {n : Nat} {xs : List Value} (h : w.ownsRow base e size v n xs) (hb : base' ≤ base) : w.ownsRow base' e size v n xs := by
  obtain ⟨h1, h2⟩ := h
  refine ⟨h1, ?_⟩
  rcases h2 with h2 | ⟨g, cap, cur, hv, hg, hr⟩
  · exact .inl h2
  · exact .inr ⟨g, cap, cur, hv, Nat.le_trans hb hg, hr⟩
theorem own_grown {w w' : World} {B B' : Nat} {e e' : TypeId} {s s' : Nat} {v v' : Value} {n n' : Nat} {xs xs' : List Value} (h : w.ownsRow B e s v n xs) (k : w.ownsRow B' e' s' v' n' xs') (ht : e ≠ e') (hg : w.grownBy w' v'.ownBlock) : w'.ownsRow B e s v n xs :=
  own_same h (fun b hb => hg.block b (h.lt b hb).2 (fun he => by
    obtain ⟨_, h2⟩ := h
    rcases h2 with ⟨rfl, _⟩ | ⟨g, cap, cur, rfl, _, hh, _⟩
    · cases hb
    · simp only [Value.ownBlock, Option.some.injEq] at hb
      subst hb
      exact own_type k hh ht he.symm))
theorem infoEd : (Try.prog.info? 44).map (fun i => (i.zero, i.size, i.bytes)) = some (some (.agg #[.int .i64 0, .int .i64 0, .string ⟨#[]⟩]), 3, 32) := by kernel_rfl

/- ## The walk -/
def BtwRel (w : World) (b : List UInt8) (la : Nat) (all : List Run) (va vo fv tv iv : Value) (wr : World) : Prop :=
  ∃ (j f t : Nat) (es : List EN), j ≤ all.length ∧ iv = .int .i64 j ∧ fv = .int .i64 f ∧ tv = .int .i64 t ∧ wr.ownsRow w.heap.size 44 3 vo es.length (es.flatMap EN.cells) ∧ wr.ownsRow w.heap.size 57 3 va all.length (all.flatMap Run.cells) ∧
    es ++ stepsB b f t (all.drop j) = stepsB b 0 0 all ∧ ChainR la b.length f t (all.drop j) ∧ Gr w wr ∧ es.length ≤ j ∧ f ≤ la ∧ t ≤ b.length ∧ ∀ e ∈ es, e.small
def BtwPost (es : List EN) (w : World) (e : Ending) (w' : World) : Prop := ∃ A n c, e = .returned (.slice A n c) ∧ n ≤ c ∧ c ≤ maxLen ∧ EditsAt w' A n (es.map EN.ed) ∧ Gr w w'


set_option maxRecDepth 100000 in
set_option maxHeartbeats 8000000 in
theorem betweenP_none (a b : List UInt8) (rs : List Run) (w : World) (cap : Nat) (hn : rs = []) (_hcap : 0 ≤ cap) (hc : ChainR a.length b.length 0 0 rs) (ha : a.length ≤ 2097152) (hb : b.length ≤ 2097152) (hrs : rs.length ≤ 2097152) :
    Calls Try.prog 30 #[.string (bs a), .string (bs b), .slice none 0 0] w (BtwPost (btwR a.length b.length b 0 0 rs) w) := by
  have hall := chain_app a.length b.length rs 0 0 hc (Nat.zero_le _) (Nat.zero_le _)
  rw [← stepsB_btwR]
  have hsa : ((bs a).size : Int) = a.length := rfl
  have hsb : ((bs b).size : Int) = b.length := rfl
  obtain ⟨i0, hi, hz0, hz1, hz2⟩ := info_parts infoRun
  obtain ⟨i1, hy, hy0, hy1, hy2⟩ := info_parts infoEd
  obtain ⟨all, hae⟩ : ∃ l, l = rs ++ [Run.mk a.length b.length 0] := ⟨_, rfl⟩
  rw [← hae] at hall ⊢
  have hal : all.length = rs.length + 1 := by rw [hae, List.length_append]; rfl
  have HAE := Lib.hid hae
  have HAL := Lib.hid hal
  have HALL := Lib.hid hall
  clear hall hc hae hal
  have hn0 : rs.length = 0 := by rw [hn]; rfl
  subst hn
  go_enter Try.func30, Try.ntmps30
  go_wp2_with (at_builtin; go_must (refine wpList_append_own _ rfl (.tmp 17) (.tmp 23) 53 rfl w.heap.size 57 i0 _ 3 24 Try.underlying53 hi hz0 hz1 hz2 rfl (by decide) _ 0 [] rfl (World.ownsRow_nil _ _ _ _) ⟨w.heap.size, 0, none⟩ 1 1 (Run.mk a.length b.length 0).cells rfl rfl (news_new (by simp)) (Run.one _) (by unfold maxLen; omega) (by omega) (by simp) ?_); intro v' w2 hown2 hgrow2 _; obtain ⟨A2, N, c2, rfl, hN⟩ := own_formN hown2; have HN1 := Lib.hid hN; clear hN)
  have hG2 : Gr w w2 := ((Gr.refl w).alloc _).trans (Gr.grown hgrow2)
  have hown3 : w2.ownsRow w.heap.size 57 3 (.slice A2 N c2) all.length (all.flatMap Run.cells) := by
    rw [HAE.out]
    exact hown2
  have hNl : N = all.length := by rw [HN1.out, HAL.out]; rfl
  have hNb : N ≤ 2097153 := by rw [hNl, HAL.out]; omega
  have HOWN3 := Lib.hid hown3
  have HNL := Lib.hid hNl
  clear hown2 hown3 hgrow2 hNl
  have hl2 : w.heap.size ≤ w2.heap.size := Below.size hG2
  go_loopw [7, 8, 9, 26] (fun vo fv tv iv wr => BtwRel w b a.length all (.slice A2 N c2) vo fv tv iv wr) (fun _ _ _ iv _ => N - (intOf iv).toNat)
  case atStart => exact ⟨0, 0, 0, [], Nat.zero_le _, rfl, rfl, rfl, World.ownsRow_nil _ _ _ _, HOWN3.out, rfl, HALL.out, hG2, Nat.le_refl _, Nat.zero_le _, Nat.zero_le _, fun _ h => by cases h⟩
  case round =>
    obtain ⟨j, f, t, es, hj, rfl, rfl, rfl, hoE, hoR, hst, hch, hG, hel, hf, ht, hsm⟩ := hrel
    obtain ⟨A3, c3, rfl⟩ := own_form hoE
    have HOE := Lib.hid hoE
    have HOR := Lib.hid hoR
    have HST := Lib.hid hst
    have HSM := Lib.hid hsm
    have hj2 : j ≤ N := by rw [HNL.out]; exact hj
    clear hoE hst hsm hj
    have hwr : w.heap.size ≤ wr.heap.size := Below.size hG
    by_cases hlt : j < N
    · obtain ⟨r, hr⟩ : ∃ r, all[j]? = some r := ⟨all[j]'(by rw [← HNL.out]; exact hlt), List.getElem?_eq_getElem _⟩
      obtain ⟨A4, c4, hv4, _, _, hr4⟩ := RunsAt.of_own hoR rfl
      rw [← HNL.out] at hv4 hr4
      simp only [Value.slice.injEq] at hv4
      obtain ⟨rfl, _, rfl⟩ := hv4
      rcases hr4.2 with ⟨_, h0⟩ | ⟨g, o, rfl, hg, hcl⟩
      · omega
      have hgl := hg (by omega)
      obtain ⟨d0, d1, d2⟩ := hcl j r hr
      have hdr := drop_at hr
      rw [hdr] at hch
      obtain ⟨k1, k2, k3, k4, k5⟩ := hch
      have HK5 := Lib.hid k5
      have HDR := Lib.hid hdr
      clear hr hdr k5 hr4 hcl hg hoR
      have hbk : r.k ≤ (bs b).size := by show r.k ≤ b.length; omega
      have hi1 : (t : Int) ≤ (r.k : Int) := by omega
      have hi2 : (r.k : Int) ≤ (b.length : Int) := by omega
      have hi3 : (0 : Int) ≤ (t : Int) := by omega
      have hi4 : (r.k : Int) ≤ ((bs b).size : Int) := by omega
      have hx : (wr.alloc (.cells #[.int .i64 r.i, .int .i64 r.k, .int .i64 r.n] 57)).heap[wr.heap.size]? = some (.cells #[.int .i64 r.i, .int .i64 r.k, .int .i64 r.n] 57 (0, 0)) := heap_alloc_new _ _
      have hx0 : (wr.alloc (.cells #[.int .i64 r.i, .int .i64 r.k, .int .i64 r.n] 57)).cell? ⟨wr.heap.size, 0, none⟩ = some (.int .i64 r.i) := cell_of_cells hx 0
      have hx1 : (wr.alloc (.cells #[.int .i64 r.i, .int .i64 r.k, .int .i64 r.n] 57)).cell? ⟨wr.heap.size, 1, none⟩ = some (.int .i64 r.k) := cell_of_cells hx 1
      have hx2 : (wr.alloc (.cells #[.int .i64 r.i, .int .i64 r.k, .int .i64 r.n] 57)).cell? ⟨wr.heap.size, 2, none⟩ = some (.int .i64 r.n) := cell_of_cells hx 2
      have HE1 := Lib.hid (HOE.out.alloc (.cells #[.int .i64 r.i, .int .i64 r.k, .int .i64 r.n] 57))
      have HR1 := Lib.hid (HOR.out.alloc (.cells #[.int .i64 r.i, .int .i64 r.k, .int .i64 r.n] 57))
      have HG1 := hG.alloc (.cells #[.int .i64 r.i, .int .i64 r.k, .int .i64 r.n] 57)
      have hb0 : wr.heap.size < (wr.alloc (.cells #[.int .i64 r.i, .int .i64 r.k, .int .i64 r.n] 57)).heap.size := by simp
      have hnb : some wr.heap.size ≠ (Value.slice A3 es.length c3).ownBlock := fun he => own_type HE1.out hx (by decide) he.symm
      clear hx
      by_cases hcond : f < r.i ∨ t < r.k
      · go_wp2_with fail
        all_goals (
          generalize wr.alloc (.cells #[.int .i64 r.i, .int .i64 r.k, .int .i64 r.n] 57) = wb at *
          generalize wr.heap.size = b0 at *)
        all_goals go_region_held3 (fun w' => w'.cell? ⟨b0, 0, none⟩ = some (.int .i64 r.i) ∧ w'.cell? ⟨b0, 1, none⟩ = some (.int .i64 r.k) ∧ w'.cell? ⟨b0, 2, none⟩ = some (.int .i64 r.n))
          (first
            | go_keep
            | (go_split_ands
               refine ⟨?_, ?_, ?_⟩
               · (rw [hgrow.cell_far _ (by simp; omega) hnb]; assumption)
               · (rw [hgrow.cell_far _ (by simp; omega) hnb]; assumption)
               · (rw [hgrow.cell_far _ (by simp; omega) hnb]; assumption)))
          ((refine step_append_lies _ (by rfl) (.tmp 40) (.tmp 51) 22 (by rfl) w.heap.size 44 i1 _ 3 32 Try.underlying22 hy hy0 hy1 hy2 rfl (by omega) _ es.length (es.flatMap EN.cells) (by rfl) ((HE1.out.alloc _).drew)
                ⟨wb.heap.size, 0, none⟩ 1 1 [.int .i64 f, .int .i64 r.i, .string ((bs b).extract t r.k)] (by rfl) (by rfl) (World.news_of_block (cs := #[.int .i64 f, .int .i64 r.i, .string ((bs b).extract t r.k)]) (t := 44) (fr := (0, 0)) (heap_alloc_new wb _)) (by simp [Value.oneCell'])
                (by omega) (by unfold maxLen; omega) (by omega) (by simp; omega) (wb.heap.size + 1) (by simp) ?_; intro gg cap5 w5 hown5 hgrow hat5 hlt5))
        all_goals have y0 := (hgrow.cell_far ⟨b0, 0, none⟩ (by simp; omega) hnb)
        all_goals have y1 := (hgrow.cell_far ⟨b0, 1, none⟩ (by simp; omega) hnb)
        all_goals have y2 := (hgrow.cell_far ⟨b0, 2, none⟩ (by simp; omega) hnb)
        all_goals simp at y0 y1 y2
        all_goals go_wp2_with fail
        all_goals go_quiet (fail)
        all_goals go_wp2_with fail
        all_goals (
          have hE5 := edit_step hown5 rfl
          have hR5 : w5.ownsRow w.heap.size 57 3 (.slice (some ⟨g, o, none⟩) N c2) all.length (all.flatMap Run.cells) :=
            own_grown (w := (wb.alloc _).drew) (own_same (HR1.out.alloc _) (fun _ _ => rfl)) (own_same (HE1.out.alloc _) (fun _ _ => rfl)) (by decide) hgrow
          have hG5 : Gr w w5 := Gr.grownOwn (HG1.alloc _).drew hgrow (fun k hk => (HE1.out.lt k hk).1)
          have hcl := cut_length b t r.k (by omega)
          refine ⟨⟨j + 1, r.i + r.n, r.k + r.n, es ++ [EN.mk f r.i (cut b t r.k)], by rw [← HNL.out]; omega, by go_num, by go_num, by go_num, ?_, own_same hR5 (fun _ _ => rfl), by rw [← HST.out, HDR.out, stepsB, if_pos hcond, List.append_assoc], HK5.out, hG5.drewN _, by simp; omega, k3, k4, ?_⟩, by simp [intOf]; omega⟩
          · rw [List.length_append] at hE5 ⊢
            exact own_same hE5 (fun _ _ => rfl)
          · intro e he
            rcases List.mem_append.1 he with he | he
            · exact HSM.out e he
            · simp only [List.mem_singleton] at he
              subst he
              exact ⟨by show f ≤ _; omega, by show r.i ≤ _; omega, by show (cut b t r.k).length ≤ _; omega⟩)
      · have h1 : r.i ≤ f := by omega
        have h2 : r.k ≤ t := by omega
        go_wp2_with fail
        go_quiet (fail)
        go_wp2_with fail
        go_roundw
        case rel => exact ⟨j + 1, r.i + r.n, r.k + r.n, es, by rw [← HNL.out]; omega, by go_num, by go_num, by go_num, own_same HE1.out (fun _ _ => rfl), own_same HR1.out (fun _ _ => rfl), by rw [← HST.out, HDR.out, stepsB, if_neg hcond, List.nil_append], HK5.out, HG1.drewN _, by omega, k3, k4, HSM.out⟩
        case measure => simp [intOf]; omega
    · have hjn : j = all.length := by rw [← HNL.out]; omega
      have hst := HST.out
      rw [hjn, List.drop_length, stepsB, List.append_nil] at hst
      have HS2 := Lib.hid hst
      clear hst hj2 hch hjn
      go_wp2_with fail
      go_ret
      obtain ⟨A5, c5, hv5, h5, h6, h7⟩ := EditsAt.of_own HOE.out rfl HSM.out
      have hv6 : (Value.slice A3 es.length c3) = .slice A5 es.length c5 := hv5
      simp only [Value.slice.injEq] at hv6
      obtain ⟨rfl, _, rfl⟩ := hv6
      rw [← HS2.out]
      exact ⟨A3, _, c3, rfl, h5, h6, h7, hG⟩

set_option maxRecDepth 100000 in
set_option maxHeartbeats 8000000 in
theorem betweenP_some (a b : List UInt8) (rs : List Run) (w : World) (cap : Nat) (n bl off : Nat) (hr : RunsAt w (some ⟨bl, off, none⟩) n rs) (hn : rs.length = n) (hcap : n ≤ cap) (hc : ChainR a.length b.length 0 0 rs) (ha : a.length ≤ 2097152) (hb : b.length ≤ 2097152) (hrs : rs.length ≤ 2097152) :
    Calls Try.prog 30 #[.string (bs a), .string (bs b), .slice (some ⟨bl, off, none⟩) n cap] w (BtwPost (btwR a.length b.length b 0 0 rs) w) := by
  have hall := chain_app a.length b.length rs 0 0 hc (Nat.zero_le _) (Nat.zero_le _)
  rw [← stepsB_btwR]
  have hsa : ((bs a).size : Int) = a.length := rfl
  have hsb : ((bs b).size : Int) = b.length := rfl
  obtain ⟨i0, hi, hz0, hz1, hz2⟩ := info_parts infoRun
  obtain ⟨i1, hy, hy0, hy1, hy2⟩ := info_parts infoEd
  obtain ⟨all, hae⟩ : ∃ l, l = rs ++ [Run.mk a.length b.length 0] := ⟨_, rfl⟩
  rw [← hae] at hall ⊢
  have hal : all.length = rs.length + 1 := by rw [hae, List.length_append]; rfl
  have HAE := Lib.hid hae
  have HAL := Lib.hid hal
  have HALL := Lib.hid hall
  clear hall hc hae hal
  have hlf := flat3 rs
  have hlt : 0 < n → bl < w.heap.size := by
    rcases hr.2 with ⟨h1, _⟩ | ⟨b', o', h1, h2, _⟩
    · cases h1
    · cases h1; exact h2
  have hcells : ∀ (j : Nat) (u : Value), (rs.flatMap Run.cells)[j]? = some u → (w.alloc (.cells #[.int .i64 a.length, .int .i64 b.length, .int .i64 0] 57)).cell? ⟨bl, off + j, none⟩ = some u := by
    intro j u hu
    obtain ⟨i, r, k, h1, rfl, h3, h4⟩ := runs_flat_inv rs j u hu
    have hi : i < n := by rw [← hn]; exact (List.getElem?_eq_some_iff.1 h3).1
    rw [World.cell?_alloc_lt _ _ _ (hlt (by omega))]
    rcases hr.2 with ⟨h5, _⟩ | ⟨b', o', h5, _, h6⟩
    · cases h5
    · cases h5
      obtain ⟨c0, c1, c2⟩ := h6 i r h3
      rw [← Nat.add_assoc]
      match k, h1, h4 with
      | 0, _, h4 => cases h4; exact c0
      | 1, _, h4 => cases h4; exact c1
      | 2, _, h4 => cases h4; exact c2
  have HCELLS := Lib.hid hcells
  have HLF := Lib.hid hlf
  have HN := Lib.hid hn
  have hnb : n ≤ 2097152 := by omega
  clear hcells hlf hr hlt hn
  go_enter Try.func30, Try.ntmps30
  go_wp2_with (at_builtin; go_must (refine wpList_append_arg _ rfl (.tmp 17) (.tmp 23) 53 rfl 57 i0 _ 3 24 Try.underlying53 hi hz0 hz1 hz2 rfl (by decide) bl off n n (rs.flatMap Run.cells) rfl (by rw [HLF.out, HN.out]) HCELLS.out ⟨w.heap.size, 0, none⟩ 1 1 (Run.mk a.length b.length 0).cells rfl rfl (news_new (by simp)) (Run.one _) (fun h => absurd h (by omega)) (by unfold maxLen; omega) (by omega) (fun h => absurd h (by omega)) ?_); intro _ v' w2 hown2 hgrow2; obtain ⟨A2, N, c2, rfl, hN⟩ := own_formN hown2; have HN1 := Lib.hid hN; clear hN)
  have hG2 : Gr w w2 := ((Gr.refl w).alloc _).trans (Gr.grown hgrow2)
  have hown3 : w2.ownsRow w.heap.size 57 3 (.slice A2 N c2) all.length (all.flatMap Run.cells) := by
    have h1 := own_mono hown2 (base' := w.heap.size) (by simp)
    rw [HAE.out, List.length_append, HN.out, List.flatMap_append]
    exact h1
  have hNl : N = all.length := by rw [HN1.out, HAL.out, HN.out]
  have hNb : N ≤ 2097153 := by rw [hNl, HAL.out]; omega
  clear HCELLS
  have HOWN3 := Lib.hid hown3
  have HNL := Lib.hid hNl
  clear hown2 hown3 hgrow2 hNl
  have hl2 : w.heap.size ≤ w2.heap.size := Below.size hG2
  go_loopw [7, 8, 9, 26] (fun vo fv tv iv wr => BtwRel w b a.length all (.slice A2 N c2) vo fv tv iv wr) (fun _ _ _ iv _ => N - (intOf iv).toNat)
  case atStart => exact ⟨0, 0, 0, [], Nat.zero_le _, rfl, rfl, rfl, World.ownsRow_nil _ _ _ _, HOWN3.out, rfl, HALL.out, hG2, Nat.le_refl _, Nat.zero_le _, Nat.zero_le _, fun _ h => by cases h⟩
  case round =>
    obtain ⟨j, f, t, es, hj, rfl, rfl, rfl, hoE, hoR, hst, hch, hG, hel, hf, ht, hsm⟩ := hrel
    obtain ⟨A3, c3, rfl⟩ := own_form hoE
    have HOE := Lib.hid hoE
    have HOR := Lib.hid hoR
    have HST := Lib.hid hst
    have HSM := Lib.hid hsm
    have hj2 : j ≤ N := by rw [HNL.out]; exact hj
    clear hoE hst hsm hj
    have hwr : w.heap.size ≤ wr.heap.size := Below.size hG
    by_cases hlt : j < N
    · obtain ⟨r, hr⟩ : ∃ r, all[j]? = some r := ⟨all[j]'(by rw [← HNL.out]; exact hlt), List.getElem?_eq_getElem _⟩
      obtain ⟨A4, c4, hv4, _, _, hr4⟩ := RunsAt.of_own hoR rfl
      rw [← HNL.out] at hv4 hr4
      simp only [Value.slice.injEq] at hv4
      obtain ⟨rfl, _, rfl⟩ := hv4
      rcases hr4.2 with ⟨_, h0⟩ | ⟨g, o, rfl, hg, hcl⟩
      · omega
      have hgl := hg (by omega)
      obtain ⟨d0, d1, d2⟩ := hcl j r hr
      have hdr := drop_at hr
      rw [hdr] at hch
      obtain ⟨k1, k2, k3, k4, k5⟩ := hch
      have HK5 := Lib.hid k5
      have HDR := Lib.hid hdr
      clear hr hdr k5 hr4 hcl hg hoR
      have hbk : r.k ≤ (bs b).size := by show r.k ≤ b.length; omega
      have hi1 : (t : Int) ≤ (r.k : Int) := by omega
      have hi2 : (r.k : Int) ≤ (b.length : Int) := by omega
      have hi3 : (0 : Int) ≤ (t : Int) := by omega
      have hi4 : (r.k : Int) ≤ ((bs b).size : Int) := by omega
      have hx : (wr.alloc (.cells #[.int .i64 r.i, .int .i64 r.k, .int .i64 r.n] 57)).heap[wr.heap.size]? = some (.cells #[.int .i64 r.i, .int .i64 r.k, .int .i64 r.n] 57 (0, 0)) := heap_alloc_new _ _
      have hx0 : (wr.alloc (.cells #[.int .i64 r.i, .int .i64 r.k, .int .i64 r.n] 57)).cell? ⟨wr.heap.size, 0, none⟩ = some (.int .i64 r.i) := cell_of_cells hx 0
      have hx1 : (wr.alloc (.cells #[.int .i64 r.i, .int .i64 r.k, .int .i64 r.n] 57)).cell? ⟨wr.heap.size, 1, none⟩ = some (.int .i64 r.k) := cell_of_cells hx 1
      have hx2 : (wr.alloc (.cells #[.int .i64 r.i, .int .i64 r.k, .int .i64 r.n] 57)).cell? ⟨wr.heap.size, 2, none⟩ = some (.int .i64 r.n) := cell_of_cells hx 2
      have HE1 := Lib.hid (HOE.out.alloc (.cells #[.int .i64 r.i, .int .i64 r.k, .int .i64 r.n] 57))
      have HR1 := Lib.hid (HOR.out.alloc (.cells #[.int .i64 r.i, .int .i64 r.k, .int .i64 r.n] 57))
      have HG1 := hG.alloc (.cells #[.int .i64 r.i, .int .i64 r.k, .int .i64 r.n] 57)
      have hb0 : wr.heap.size < (wr.alloc (.cells #[.int .i64 r.i, .int .i64 r.k, .int .i64 r.n] 57)).heap.size := by simp
      have hnb : some wr.heap.size ≠ (Value.slice A3 es.length c3).ownBlock := fun he => own_type HE1.out hx (by decide) he.symm
      clear hx
      by_cases hcond : f < r.i ∨ t < r.k
      · go_wp2_with fail
        all_goals (
          generalize wr.alloc (.cells #[.int .i64 r.i, .int .i64 r.k, .int .i64 r.n] 57) = wb at *
          generalize wr.heap.size = b0 at *)
        all_goals go_region_held3 (fun w' => w'.cell? ⟨b0, 0, none⟩ = some (.int .i64 r.i) ∧ w'.cell? ⟨b0, 1, none⟩ = some (.int .i64 r.k) ∧ w'.cell? ⟨b0, 2, none⟩ = some (.int .i64 r.n))
          (first
            | go_keep
            | (go_split_ands
               refine ⟨?_, ?_, ?_⟩
               · (rw [hgrow.cell_far _ (by simp; omega) hnb]; assumption)
               · (rw [hgrow.cell_far _ (by simp; omega) hnb]; assumption)
               · (rw [hgrow.cell_far _ (by simp; omega) hnb]; assumption)))
          ((refine step_append_lies _ (by rfl) (.tmp 40) (.tmp 51) 22 (by rfl) w.heap.size 44 i1 _ 3 32 Try.underlying22 hy hy0 hy1 hy2 rfl (by omega) _ es.length (es.flatMap EN.cells) (by rfl) ((HE1.out.alloc _).drew)
                ⟨wb.heap.size, 0, none⟩ 1 1 [.int .i64 f, .int .i64 r.i, .string ((bs b).extract t r.k)] (by rfl) (by rfl) (World.news_of_block (cs := #[.int .i64 f, .int .i64 r.i, .string ((bs b).extract t r.k)]) (t := 44) (fr := (0, 0)) (heap_alloc_new wb _)) (by simp [Value.oneCell'])
                (by omega) (by unfold maxLen; omega) (by omega) (by simp; omega) (wb.heap.size + 1) (by simp) ?_; intro gg cap5 w5 hown5 hgrow hat5 hlt5))
        all_goals have y0 := (hgrow.cell_far ⟨b0, 0, none⟩ (by simp; omega) hnb)
        all_goals have y1 := (hgrow.cell_far ⟨b0, 1, none⟩ (by simp; omega) hnb)
        all_goals have y2 := (hgrow.cell_far ⟨b0, 2, none⟩ (by simp; omega) hnb)
        all_goals simp at y0 y1 y2
        all_goals go_wp2_with fail
        all_goals go_quiet (fail)
        all_goals go_wp2_with fail
        all_goals (
          have hE5 := edit_step hown5 rfl
          have hR5 : w5.ownsRow w.heap.size 57 3 (.slice (some ⟨g, o, none⟩) N c2) all.length (all.flatMap Run.cells) :=
            own_grown (w := (wb.alloc _).drew) (own_same (HR1.out.alloc _) (fun _ _ => rfl)) (own_same (HE1.out.alloc _) (fun _ _ => rfl)) (by decide) hgrow
          have hG5 : Gr w w5 := Gr.grownOwn (HG1.alloc _).drew hgrow (fun k hk => (HE1.out.lt k hk).1)
          have hcl := cut_length b t r.k (by omega)
          refine ⟨⟨j + 1, r.i + r.n, r.k + r.n, es ++ [EN.mk f r.i (cut b t r.k)], by rw [← HNL.out]; omega, by go_num, by go_num, by go_num, ?_, own_same hR5 (fun _ _ => rfl), by rw [← HST.out, HDR.out, stepsB, if_pos hcond, List.append_assoc], HK5.out, hG5.drewN _, by simp; omega, k3, k4, ?_⟩, by simp [intOf]; omega⟩
          · rw [List.length_append] at hE5 ⊢
            exact own_same hE5 (fun _ _ => rfl)
          · intro e he
            rcases List.mem_append.1 he with he | he
            · exact HSM.out e he
            · simp only [List.mem_singleton] at he
              subst he
              exact ⟨by show f ≤ _; omega, by show r.i ≤ _; omega, by show (cut b t r.k).length ≤ _; omega⟩)
      · have h1 : r.i ≤ f := by omega
        have h2 : r.k ≤ t := by omega
        go_wp2_with fail
        go_quiet (fail)
        go_wp2_with fail
        go_roundw
        case rel => exact ⟨j + 1, r.i + r.n, r.k + r.n, es, by rw [← HNL.out]; omega, by go_num, by go_num, by go_num, own_same HE1.out (fun _ _ => rfl), own_same HR1.out (fun _ _ => rfl), by rw [← HST.out, HDR.out, stepsB, if_neg hcond, List.nil_append], HK5.out, HG1.drewN _, by omega, k3, k4, HSM.out⟩
        case measure => simp [intOf]; omega
    · have hjn : j = all.length := by rw [← HNL.out]; omega
      have hst := HST.out
      rw [hjn, List.drop_length, stepsB, List.append_nil] at hst
      have HS2 := Lib.hid hst
      clear hst hj2 hch hjn
      go_wp2_with fail
      go_ret
      obtain ⟨A5, c5, hv5, h5, h6, h7⟩ := EditsAt.of_own HOE.out rfl HSM.out
      have hv6 : (Value.slice A3 es.length c3) = .slice A5 es.length c5 := hv5
      simp only [Value.slice.injEq] at hv6
      obtain ⟨rfl, _, rfl⟩ := hv6
      rw [← HS2.out]
      exact ⟨A3, _, c3, rfl, h5, h6, h7, hG⟩

end Go.Proofs.Ytapginodpikijaa
