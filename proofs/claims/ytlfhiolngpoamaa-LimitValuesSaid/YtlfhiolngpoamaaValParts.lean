/- limit.parts and its reference return the elements of a list, or the values of the fields of a map. -/
import Derived.Test.YtlfhiolngpoamaaVal
namespace Go.Proofs.Ytlfhiolngpoamaa
open Go.ChangeShapes Go.WideShapes Go.ChangeAt Go.RowKit

mutual
def sizeF : VT → Nat
  | .mk _ l f => 1 + sizeL l + sizeL f
def sizeL : List VT → Nat
  | [] => 0
  | x :: r => sizeF x + sizeL r
end
theorem sizeL_length : ∀ l : List VT, l.length ≤ sizeL l
  | [] => Nat.zero_le _
  | .mk k l f :: r => by
    have := sizeL_length r
    simp only [List.length_cons, sizeL, sizeF]
    omega
def partsF : VT → List VT
  | .mk k l f => if k = 6 then l else if k = 7 then f else []
theorem partsF_mk (k : Int) (l f : List VT) : partsF (.mk k l f) = if k = 6 then l else if k = 7 then f else [] := rfl
/-- The slice holds values of these shapes. -/
def PVals (m : Nat) (W : World) (A : Option Addr) (n : Nat) (ts : List VT) : Prop :=
  n = ts.length ∧ ∀ (i : Nat) (x : VT), ts[i]? = some x → ∃ (b o : Nat) (e : VD), A = some ⟨b, o, none⟩ ∧ b < W.heap.size ∧ VCells W b (o + i * 13) e ∧ VRep m W e x
theorem PVals.keep {m : Nat} {W w : World} {A : Option Addr} {n : Nat} {ts : List VT} (h : PVals m W A n ts) (hg : Gr W w) : PVals m w A n ts :=
  ⟨h.1, fun i x hx => by
    obtain ⟨b, o, e, ha, hb, hc, hr⟩ := h.2 i x hx
    exact ⟨b, o, e, ha, Nat.lt_of_lt_of_le hb (Below.size hg), hc.keep hg hb, hr.keep hg⟩⟩
/-- The call returns such a slice. -/
def RP (m : Nat) (ts : List VT) (w : World) (e : Ending) (w' : World) : Prop := ∃ (A : Option Addr) (n c : Nat), e = .returned (.slice A n c) ∧ PVals m w' A n ts ∧ Gr w w'
theorem Gr.grown {W w1 : World} (h : W.grownBy w1 none) : Gr W w1 := Below.grown (Below.refl _ _) h (Nat.le_refl _) (fun _ hk => by cases hk)
theorem Gr.grownOwn {w W w1 : World} {row : Option Nat} (h : Gr w W) (hg : W.grownBy w1 row) (hr : ∀ k, row = some k → w.heap.size ≤ k) : Gr w w1 := Below.grown h hg h.size hr
theorem VD.cells_length (v : VD) : v.cells.length = 13 := rfl
theorem VD.one (v : VD) : ∀ u ∈ v.cells, u.oneCell' = true := by
  intro u hu
  simp only [VD.cells, List.mem_cons, List.not_mem_nil, or_false] at hu
  rcases hu with rfl | rfl | rfl | rfl | rfl | rfl | rfl | rfl | rfl | rfl | rfl | rfl | rfl <;> rfl
theorem flat_length : ∀ es : List VD, (es.flatMap VD.cells).length = es.length * 13
  | [] => rfl
  | e :: r => by simp only [List.flatMap_cons, List.length_append, VD.cells_length, flat_length r, List.length_cons]; omega
theorem flat_get : ∀ (es : List VD) (i j : Nat) (e : VD), es[i]? = some e → j < 13 → (es.flatMap VD.cells)[i * 13 + j]? = e.cells[j]?
  | [], i, j, e, h, _ => by simp at h
  | x :: r, 0, j, e, h, hj => by
    simp only [List.getElem?_cons_zero, Option.some.injEq] at h
    subst h
    rw [List.flatMap_cons, List.getElem?_append_left (by rw [VD.cells_length]; omega)]
    simp
  | x :: r, i + 1, j, e, h, hj => by
    rw [List.flatMap_cons, List.getElem?_append_right (by rw [VD.cells_length]; omega), VD.cells_length]
    have h1 : (i + 1) * 13 + j - 13 = i * 13 + j := by omega
    rw [h1]
    exact flat_get r i j e (by simpa using h) hj
/-- What is owned reads as values. -/
theorem PVals.of_own {m : Nat} {w W : World} {B : Nat} {t : TypeId} {v : Value} {es : List VD} {ts : List VT} (hown : W.ownsRow B t 13 v es.length (es.flatMap VD.cells)) (hw : Gr w W) (hl : es.length = ts.length)
    (h : ∀ (i : Nat) (x : VT), ts[i]? = some x → ∃ e, es[i]? = some e ∧ VRep m w e x) : ∃ (A : Option Addr) (c : Nat), v = .slice A es.length c ∧ PVals m W A es.length ts := by
  have hown' := hown
  rcases hown.2 with ⟨rfl, h0⟩ | ⟨g, cap, cur, rfl, _, hh, _⟩
  · refine ⟨none, 0, by rw [h0], hl, fun i x hx => ?_⟩
    have := (List.getElem?_eq_some_iff.1 hx).1
    omega
  · have hg : g < W.heap.size := by
      rcases Nat.lt_or_ge g W.heap.size with hlt | hge
      · exact hlt
      · rw [Array.getElem?_eq_none hge] at hh; cases hh
    refine ⟨_, cap, rfl, hl, fun i x hx => ?_⟩
    obtain ⟨e, he, hr⟩ := h i x hx
    refine ⟨g, 0, e, rfl, hg, VCells.of fun j hj => ?_, hr.keep hw⟩
    have hi : i < es.length := (List.getElem?_eq_some_iff.1 he).1
    rw [show 0 + i * 13 + j = i * 13 + j from by omega, hown'.cellAt (i * 13 + j) (by omega)]
    exact flat_get es i j e he hj
theorem news_new {W : World} {t : TypeId} {cs : List Value} {B : Nat} (hB : B = W.heap.size) : ∀ (j : Nat) (u : Value), cs[j]? = some u → (W.alloc (.cells cs.toArray t)).cell? ((⟨B, 0, none⟩ : Addr).add j) = some u := by
  intro j u hu
  subst hB
  rw [show (⟨W.heap.size, 0, none⟩ : Addr).add j = ⟨W.heap.size, j, none⟩ from by unfold Addr.add; split <;> simp_all, World.cell?_alloc_new]
  simpa using hu
theorem infoV : (Try.prog.info? 50).map (fun i => (i.zero, i.size, i.bytes)) = some (some (.agg #[.int .i64 0, .bool false, .bool false, .string ⟨#[]⟩, .int .i64 0, .int .i64 0, .int .i64 0, .int .i64 0, .int .i64 0, .string ⟨#[]⟩, .slice none 0 0, .slice none 0 0, .slice none 0 0]), 13, 168) := by kernel_rfl

/-- The loop over the fields: out, i. -/
def PartsRel (m : Nat) (w : World) (f : List VT) (out i : Value) (wr : World) : Prop :=
  ∃ (j : Nat) (v : Value) (es : List VD), j ≤ f.length ∧ i = .int .i64 j ∧ v = out ∧ es.length = j ∧ wr.ownsRow (w.heap.size + 1) 50 13 v j (es.flatMap VD.cells) ∧
    (∀ (i : Nat) (x : VT), f[i]? = some x → i < j → ∃ e, es[i]? = some e ∧ VRep m w e x) ∧ Gr w wr ∧ w.heap.size < wr.heap.size
theorem parts_step {m : Nat} {w : World} {f : List VT} {es : List VD} {j : Nat} {x : VT} {e : VD} (hl : es.length = j) (hx : f[j]? = some x) (hr : VRep m w e x)
    (h : ∀ (i : Nat) (x : VT), f[i]? = some x → i < j → ∃ e, es[i]? = some e ∧ VRep m w e x) :
    (es ++ [e]).length = j + 1 ∧ (es ++ [e]).flatMap VD.cells = es.flatMap VD.cells ++ e.cells ∧ ∀ (i : Nat) (x : VT), f[i]? = some x → i < j + 1 → ∃ e', (es ++ [e])[i]? = some e' ∧ VRep m w e' x := by
  refine ⟨by simp [hl], by simp, fun i y hy hi => ?_⟩
  by_cases hij : i < j
  · obtain ⟨e', he', hr'⟩ := h i y hy hij
    exact ⟨e', by rw [List.getElem?_append_left (by omega)]; exact he', hr'⟩
  · have : i = j := by omega
    subst this
    rw [hx] at hy
    cases hy
    exact ⟨e, by rw [List.getElem?_append_right (by omega)]; simp [hl], hr⟩

set_option maxRecDepth 100000 in
set_option maxHeartbeats 4000000 in
theorem partsP_any (m : Nat) (v : VD) (t : VT) (w : World) (hr : VRep (m + 1) w v t) (hs : sizeF t ≤ 500) :
    Calls Try.prog 37 #[.agg #[.int .i64 v.k, .bool v.b1, .bool v.b2, .string v.s1, .int .i64 v.i1, .int .i64 v.i2, .int .i64 v.i3, .int .i64 v.i4, .int .i64 v.i5, .string v.s2, .slice v.bA v.bn v.bc, .slice v.lA v.ln v.lc, .slice v.fA v.fn v.fc]] w (RP m (partsF t) w) := by
  obtain ⟨k, l, f⟩ := t
  obtain ⟨k', b1, b2, s1, i1, i2, i3, i4, i5, s2, bA, bn, bc, lA, ln, lc, fA, fn, fc⟩ := v
  obtain ⟨hk, hln, hfn, hl1, hl2, hf1, hf2, hL, hF⟩ := hr
  dsimp only at hk hln hfn hl1 hl2 hf1 hf2 hL hF ⊢
  subst hk
  have hsl : f.length ≤ 499 := by
    have h1 := sizeL_length f
    simp only [sizeF] at hs
    omega
  have Hln := Lib.hid hln
  have Hfn := Lib.hid hfn
  have HL := Lib.hid hL
  have HF := Lib.hid hF
  have hfn2 : fn ≤ 499 := by omega
  clear hln hfn hL hF hs
  by_cases c6 : k' = 6
  · have hres : partsF (.mk k' l f) = l := by rw [partsF_mk, if_pos c6]
    rw [hres]; clear hres
    have hB : (k' == 6) = true := by simpa using c6
    clear c6
    go_enter Try.func37, Try.ntmps37
    go_wp2_with fail
    go_ret
    have hg : Gr w (w.alloc (.cells #[.int .i64 k', .bool b1, .bool b2, .string s1, .int .i64 i1, .int .i64 i2, .int .i64 i3, .int .i64 i4, .int .i64 i5, .string s2, .slice bA bn bc, .slice lA ln lc, .slice fA fn fc] 50)) := (Gr.refl _).alloc _
    exact ⟨lA, ln, lc, rfl, ⟨Hln.out, fun i x hx => by
      obtain ⟨b, o, e, h1, h2, h3, h4⟩ := HL.out i x hx
      exact ⟨b, o, e, h1, Nat.lt_of_lt_of_le h2 (Below.size hg), h3.keep hg h2, h4.keep hg⟩⟩, hg⟩
  have hB6 : (k' == 6) = false := by simpa using c6
  by_cases c7 : k' = 7
  · have hres : partsF (.mk k' l f) = f := by rw [partsF_mk, if_neg c6, if_pos c7]
    rw [hres]; clear hres
    have hB7 : (k' == 7) = true := by simpa using c7
    clear c6 c7
    obtain ⟨i0, hi, hz0, hz1, hz2⟩ := info_parts infoV
    go_enter Try.func37, Try.ntmps37
    go_wp2_with (at_make; (refine wpList_make_own _ rfl _ _ 47 rfl (w.heap.size + 1) 50 i0 _ 13 Try.underlying47 hi hz0 hz1 .i64 .i64 _ fn rfl rfl rfl (by rw [hz2]; omega) (by unfold maxLen at hf2 ⊢; omega) (by simp) ?_); intro w1 hown1 hgrow1; obtain ⟨hc1, hf1', hs1⟩ := Gr.cells (Gr.grown hgrow1); simp at hs1; have l1 : w.heap.size < w1.heap.size := by omega)
    have HG1 : Gr w w1 := Gr.trans ((Gr.refl _).alloc _) (Gr.grown hgrow1)
    go_loopw [3, 21] (fun out i wr => PartsRel m w f out i wr) (fun _ i _ => fn - (intOf i).toNat)
    case atStart => exact ⟨0, _, [], Nat.zero_le _, rfl, rfl, rfl, by simpa using hown1, fun _ _ _ h => absurd h (by omega), HG1, l1⟩
    case round =>
      obtain ⟨j, v, es, hj, rfl, rfl, hes, hown, hall, hG, hB⟩ := hrel
      have HES := Lib.hid hes
      have HALL := Lib.hid hall
      have HOWN := Lib.hid hown
      clear hes hall hown
      by_cases hlt : j < fn
      · obtain ⟨x, hx⟩ : ∃ x, f[j]? = some x := ⟨f[j]'(by have := Hfn.out; omega), List.getElem?_eq_getElem _⟩
        have Hx := Lib.hid hx
        obtain ⟨bb, o, e, sk, rfl, hbb, hck, hce, hre⟩ := HF.out j x hx
        clear hx
        have hck' := (hG.cells.1 _ _ hbb).trans hck
        obtain ⟨e0, e1, e2, e3, e4, e5, e6, e7, e8, e9, e10, e11, e12⟩ := hce.keep hG hbb
        have g0 : wr.cell? ⟨bb, o + j * 14 + 1, none⟩ = _ := e0
        have g1 : wr.cell? ⟨bb, o + j * 14 + 2, none⟩ = _ := e1
        have g2 : wr.cell? ⟨bb, o + j * 14 + 3, none⟩ = _ := e2
        have g3 : wr.cell? ⟨bb, o + j * 14 + 4, none⟩ = _ := e3
        have g4 : wr.cell? ⟨bb, o + j * 14 + 5, none⟩ = _ := e4
        have g5 : wr.cell? ⟨bb, o + j * 14 + 6, none⟩ = _ := e5
        have g6 : wr.cell? ⟨bb, o + j * 14 + 7, none⟩ = _ := e6
        have g7 : wr.cell? ⟨bb, o + j * 14 + 8, none⟩ = _ := e7
        have g8 : wr.cell? ⟨bb, o + j * 14 + 9, none⟩ = _ := e8
        have g9 : wr.cell? ⟨bb, o + j * 14 + 10, none⟩ = _ := e9
        have g10 : wr.cell? ⟨bb, o + j * 14 + 11, none⟩ = _ := e10
        have g11 : wr.cell? ⟨bb, o + j * 14 + 12, none⟩ = _ := e11
        have g12 : wr.cell? ⟨bb, o + j * 14 + 13, none⟩ = _ := e12
        clear e0 e1 e2 e3 e4 e5 e6 e7 e8 e9 e10 e11 e12
        go_wp2_with (at_builtin; refine wpList_append_own _ rfl (.tmp 25) (.tmp 28) 47 rfl (w.heap.size + 1) 50 i0 _ 13 168 Try.underlying47 hi hz0 hz1 hz2 rfl (by decide) v j (es.flatMap VD.cells) rfl ((HOWN.out.alloc _).alloc _) ⟨wr.heap.size + 1, 0, none⟩ 1 1 e.cells rfl rfl (news_new (by simp)) e.one (by unfold maxLen; omega) (by omega) (by simp; omega) ?_; intro v' w2 hown2 hgrow2 _)
        have HG2 : Gr w w2 := Gr.grownOwn ((hG.alloc _).alloc _) hgrow2 (fun k hk => by have := (HOWN.out.lt k hk).1; omega)
        have hst := parts_step HES.out Hx.out hre HALL.out
        go_roundw
        case rel => exact ⟨j + 1, v', es ++ [e], by have := Hfn.out; omega, by go_num, rfl, hst.1, by rw [hst.2.1]; exact hown2, hst.2.2, HG2, by have := hgrow2.size; simp at this; omega⟩
        case measure => simp [intOf]; omega
      · have hjf : j = fn := by have := Hfn.out; omega
        have hjl : j = f.length := hjf.trans Hfn.out
        have HJ := Lib.hid hjl
        clear hjf hjl
        go_wp2_with fail
        go_ret
        have hown' := HOWN.out
        rw [← HES.out] at hown'
        obtain ⟨A, c, hv, hp⟩ := PVals.of_own hown' hG (HES.out.trans HJ.out) (fun i x hx => HALL.out i x hx (by rw [HJ.out]; exact (List.getElem?_eq_some_iff.1 hx).1))
        exact ⟨A, _, c, congrArg Ending.returned hv, hp, hG⟩
  · have hres : partsF (.mk k' l f) = [] := by rw [partsF_mk, if_neg c6, if_neg c7]
    rw [hres]; clear hres
    have hB7 : (k' == 7) = false := by simpa using c7
    clear c6 c7
    go_enter Try.func37, Try.ntmps37
    go_wp2_with fail
    go_ret
    exact ⟨none, 0, 0, rfl, ⟨rfl, fun i x hx => by simp at hx⟩, (by with_reducible (repeat (first | exact Gr.refl _ | assumption | apply Gr.alloc | apply Gr.drew | apply Gr.drewN | refine Gr.setCell ?_ (by first | (simp; done) | (simp; omega)) _ | refine Gr.trans ?_ (by assumption))))⟩
set_option maxRecDepth 100000 in
set_option maxHeartbeats 4000000 in
theorem partsR_any (m : Nat) (v : VD) (t : VT) (w : World) (hr : VRep (m + 1) w v t) (hs : sizeF t ≤ 500) :
    Calls Try.prog 38 #[.agg #[.int .i64 v.k, .bool v.b1, .bool v.b2, .string v.s1, .int .i64 v.i1, .int .i64 v.i2, .int .i64 v.i3, .int .i64 v.i4, .int .i64 v.i5, .string v.s2, .slice v.bA v.bn v.bc, .slice v.lA v.ln v.lc, .slice v.fA v.fn v.fc]] w (RP m (partsF t) w) := by
  obtain ⟨k, l, f⟩ := t
  obtain ⟨k', b1, b2, s1, i1, i2, i3, i4, i5, s2, bA, bn, bc, lA, ln, lc, fA, fn, fc⟩ := v
  obtain ⟨hk, hln, hfn, hl1, hl2, hf1, hf2, hL, hF⟩ := hr
  dsimp only at hk hln hfn hl1 hl2 hf1 hf2 hL hF ⊢
  subst hk
  have hsl : f.length ≤ 499 := by
    have h1 := sizeL_length f
    simp only [sizeF] at hs
    omega
  have Hln := Lib.hid hln
  have Hfn := Lib.hid hfn
  have HL := Lib.hid hL
  have HF := Lib.hid hF
  have hfn2 : fn ≤ 499 := by omega
  clear hln hfn hL hF hs
  by_cases c6 : k' = 6
  · have hres : partsF (.mk k' l f) = l := by rw [partsF_mk, if_pos c6]
    rw [hres]; clear hres
    have hB : (k' == 6) = true := by simpa using c6
    clear c6
    go_enter Try.func38, Try.ntmps38
    go_wp2_with fail
    go_ret
    have hg : Gr w (w.alloc (.cells #[.int .i64 k', .bool b1, .bool b2, .string s1, .int .i64 i1, .int .i64 i2, .int .i64 i3, .int .i64 i4, .int .i64 i5, .string s2, .slice bA bn bc, .slice lA ln lc, .slice fA fn fc] 50)) := (Gr.refl _).alloc _
    exact ⟨lA, ln, lc, rfl, ⟨Hln.out, fun i x hx => by
      obtain ⟨b, o, e, h1, h2, h3, h4⟩ := HL.out i x hx
      exact ⟨b, o, e, h1, Nat.lt_of_lt_of_le h2 (Below.size hg), h3.keep hg h2, h4.keep hg⟩⟩, hg⟩
  have hB6 : (k' == 6) = false := by simpa using c6
  by_cases c7 : k' = 7
  · have hres : partsF (.mk k' l f) = f := by rw [partsF_mk, if_neg c6, if_pos c7]
    rw [hres]; clear hres
    have hB7 : (k' == 7) = true := by simpa using c7
    clear c6 c7
    obtain ⟨i0, hi, hz0, hz1, hz2⟩ := info_parts infoV
    go_enter Try.func38, Try.ntmps38
    go_wp2_with fail
    go_loopw [3, 4] (fun out i wr => PartsRel m w f out i wr ∧ wr.cell? ⟨w.heap.size, 12, none⟩ = some (.slice fA fn fc)) (fun _ i _ => fn - (intOf i).toNat)
    case atStart => exact ⟨⟨0, _, [], Nat.zero_le _, rfl, rfl, rfl, World.ownsRow_nil _ _ _ _, fun _ _ _ h => absurd h (by omega), (by with_reducible (repeat (first | exact Gr.refl _ | assumption | apply Gr.alloc | apply Gr.drew | apply Gr.drewN | refine Gr.setCell ?_ (by first | (simp; done) | (simp; omega)) _ | refine Gr.trans ?_ (by assumption)))), by simp⟩, by simp⟩
    case round =>
      obtain ⟨⟨j, v, es, hj, rfl, rfl, hes, hown, hall, hG, hB⟩, hcf⟩ := hrel
      have HES := Lib.hid hes
      have HALL := Lib.hid hall
      have HOWN := Lib.hid hown
      clear hes hall hown
      by_cases hlt : j < fn
      · obtain ⟨x, hx⟩ : ∃ x, f[j]? = some x := ⟨f[j]'(by have := Hfn.out; omega), List.getElem?_eq_getElem _⟩
        have Hx := Lib.hid hx
        obtain ⟨bb, o, e, sk, rfl, hbb, hck, hce, hre⟩ := HF.out j x hx
        clear hx hck
        obtain ⟨e0, e1, e2, e3, e4, e5, e6, e7, e8, e9, e10, e11, e12⟩ := hce.keep hG hbb
        go_wp2_with (at_builtin; go_must (refine wpList_append_own _ rfl (.tmp 20) (.tmp 27) 47 rfl (w.heap.size + 1) 50 i0 _ 13 168 Try.underlying47 hi hz0 hz1 hz2 rfl (by decide) v j (es.flatMap VD.cells) rfl (HOWN.out.alloc _) ⟨wr.heap.size, 0, none⟩ 1 1 e.cells rfl rfl (news_new (by simp)) e.one (by unfold maxLen; omega) (by omega) (by simp; omega) ?_); intro v' w2 hown2 hgrow2 _)
        have hnb : v.ownBlock ≠ some w.heap.size := fun hk => by have := (HOWN.out.lt _ hk).1; omega
        have hcf2 : w2.cell? ⟨w.heap.size, 12, none⟩ = some (.slice (some ⟨bb, o, none⟩) fn fc) := by
          rw [World.cell?_of_block (w := wr.alloc _) (hgrow2.block w.heap.size (by simp; omega) (fun h => hnb h.symm)), World.cell?_alloc_lt _ _ _ hB]
          exact hcf
        have HG2 : Gr w w2 := Gr.grownOwn (hG.alloc _) hgrow2 (fun k hk => by have := (HOWN.out.lt k hk).1; omega)
        have hst := parts_step HES.out Hx.out hre HALL.out
        have HST := Lib.hid hst
        have HCF := Lib.hid hcf2
        clear hst
        go_roundw
        case rel => exact ⟨⟨j + 1, v', es ++ [e], by have := Hfn.out; omega, by go_num, rfl, HST.out.1, by rw [HST.out.2.1]; exact hown2, HST.out.2.2, HG2, by have := hgrow2.size; simp at this; omega⟩, HCF.out⟩
        case measure => simp [intOf]; omega
      · have hjf : j = fn := by have := Hfn.out; omega
        have hjl : j = f.length := hjf.trans Hfn.out
        have HJ := Lib.hid hjl
        clear hjf hjl
        go_wp2_with fail
        go_ret
        have hown' := HOWN.out
        rw [← HES.out] at hown'
        obtain ⟨A, c, hv, hp⟩ := PVals.of_own hown' hG (HES.out.trans HJ.out) (fun i x hx => HALL.out i x hx (by rw [HJ.out]; exact (List.getElem?_eq_some_iff.1 hx).1))
        exact ⟨A, _, c, congrArg Ending.returned hv, hp, hG⟩
  · have hres : partsF (.mk k' l f) = [] := by rw [partsF_mk, if_neg c6, if_neg c7]
    rw [hres]; clear hres
    have hB7 : (k' == 7) = false := by simpa using c7
    clear c6 c7
    go_enter Try.func38, Try.ntmps38
    go_wp2_with fail
    go_ret
    exact ⟨none, 0, 0, rfl, ⟨rfl, fun i x hx => by simp at hx⟩, (by with_reducible (repeat (first | exact Gr.refl _ | assumption | apply Gr.alloc | apply Gr.drew | apply Gr.drewN | refine Gr.setCell ?_ (by first | (simp; done) | (simp; omega)) _ | refine Gr.trans ?_ (by assumption))))⟩
end Go.Proofs.Ytlfhiolngpoamaa
