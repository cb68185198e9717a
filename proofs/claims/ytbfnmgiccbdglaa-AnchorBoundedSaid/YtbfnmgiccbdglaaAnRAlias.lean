/- alias of the reference, walked. -/
import Derived.Test.YtbfnmgiccbdglaaAnRCp
namespace Go.Proofs.Ytbfnmgiccbdglaa
open Go.ChangeShapes Go.WideShapes Go.ChangeAt Go.RowKit

def VRes (P : Nat → Prop) (L : U5) (q : RSt × NT × Int) (w : World) (e : Ending) (w' : World) : Prop := ∃ a' v', e = .returned (.tuple #[.agg (SV.cells L q.1 a'), .agg #[.int .i64 v'.k, .string (bs v'.l), .string (bs v'.x), .slice v'.A v'.n v'.c, .string (bs v'.e)], .int .i64 q.2.2]) ∧ SRep P w' q.1 a' ∧ NR P w' v' q.2.1 ∧ Gr w w'
theorem NR.text {P : Nat → Prop} {W : World} {v : ND} {t : NT} (h : NR P W v t) : v.k = t.k ∧ v.l = t.l ∧ v.x = t.x ∧ v.e = t.e ∧ v.n = t.ks.length := by
  obtain ⟨m, h⟩ := h
  cases m with
  | zero => exact h.elim
  | succ m =>
    obtain ⟨k, l, x, ks, e⟩ := t
    exact ⟨h.1, h.2.1, h.2.2.1, h.2.2.2.1, h.2.2.2.2.1⟩
theorem cells_set {W : World} {p i : Nat} {cs : Array Value} {T : TypeId} (h : W.heap[p]? = some (.cells cs T (0, 0))) (u : Value) : (W.setCell ⟨p, i, none⟩ u).heap[p]? = some (.cells (cs.setIfInBounds i u) T (0, 0)) := by
  simp [World.setCell, Array.getElem?_modify, h]
theorem find_rel {P : Nat → Prop} {W : World} (s : List UInt8) : ∀ (es : List (List UInt8 × ND × Int)) (ds : List (List UInt8 × NT × Int)), es.length = ds.length → (∀ (i : Nat) (e : List UInt8 × ND × Int), es[i]? = some e → ∃ t, ds[i]? = some (e.1, t, e.2.2) ∧ NR P W e.2.1 t) →
    (findD es s = none ∧ findD ds s = none) ∨ ∃ e t, findD es s = some e ∧ findD ds s = some (e.1, t, e.2.2) ∧ NR P W e.2.1 t
  | [], [], _, _ => .inl ⟨rfl, rfl⟩
  | [], _ :: _, h, _ => by cases h
  | _ :: _, [], h, _ => by cases h
  | e :: es, d :: ds, hl, h => by
    obtain ⟨t, h1, h2⟩ := h 0 e rfl
    simp only [List.getElem?_cons_zero, Option.some.injEq] at h1
    subst h1
    have d1 := findD_drop (l := e :: es) (i := 0) (e := e) rfl s
    have d2 := findD_drop (l := (e.1, t, e.2.2) :: ds) (i := 0) (e := (e.1, t, e.2.2)) rfl s
    simp only [List.drop_zero, Nat.zero_add, List.drop_succ_cons] at d1 d2
    rw [d1, d2]
    by_cases hs : e.1 = s
    · rw [if_pos hs, if_pos hs]
      exact .inr ⟨e, t, rfl, rfl, h2⟩
    · rw [if_neg hs, if_neg hs]
      exact find_rel s es ds (by simpa using hl) (fun i e' he => h (i + 1) e' (by simpa using he))
set_option maxRecDepth 100000 in
set_option maxHeartbeats 4000000 in
theorem aliasRP_any {P : Nat → Prop} (L : U5) (st : RSt) (a : SV) (t : NT) (v : ND) (w : World) (hs : SRep P w st a) (hr : NR P w v t) (h2 : 2 ≤ v.x.length) (hcnt : st.done.length ≤ 1000000) : Calls Try.prog 49 #[.agg #[.int .i64 L.d, .int .i64 L.n, .int .i64 L.b, .int .i64 L.a, .int .i64 L.x, .slice a.A1 a.n1 a.c1, .slice a.A2 a.n2 a.c2, .int .i64 st.u.d, .int .i64 st.u.n, .int .i64 st.u.b, .int .i64 st.u.a, .int .i64 st.u.x, .int .i64 st.err], .agg #[.int .i64 v.k, .string (bs v.l), .string (bs v.x), .slice v.A v.n v.c, .string (bs v.e)]] w (VRes P L (aliR L t st) w) := by
  obtain ⟨es, hel, hrow, hes⟩ := hs.ds
  obtain ⟨nm, hnm⟩ : ∃ nm, nm = v.x.drop 1 := ⟨_, rfl⟩
  have HEX : Hid ((bs v.x).extract 1 v.x.length = bs nm) := Lib.hid (by rw [hnm]; exact bs_drop1R v.x)
  have HSZ : Hid ((bs v.x).size = v.x.length) := Lib.hid rfl
  have hfr := find_rel nm es st.done hel hes
  have hn2 := hs.n2
  have hfk : ∀ W', Gr w W' → Calls Try.prog 56 #[.slice a.A2 a.n2 a.c2, .string (bs nm)] W' (KRes (findD es nm) W') := fun W' hg => findK_any a.A2 a.n2 a.c2 es nm W' (by rw [hn2, hel]) (by omega) (hrow.on (hg.on P))
  have hxt : t.x.drop 1 = nm := by rw [← hr.text.2.2.1, hnm]
  generalize hq : aliR L t st = q
  unfold aliR at hq
  rw [hxt] at hq
  have HS := Lib.hid hs
  have HR := Lib.hid hr
  clear hel hrow hes hs hr hnm hxt hn2
  go_enter Try.func49, Try.ntmps49
  go_wp2_with fail
  obtain ⟨p, hp⟩ : ∃ p, p = w.heap.size := ⟨_, rfl⟩
  obtain ⟨W1, hW1⟩ : ∃ W1, W1 = ((((w.alloc (.cells #[.int .i64 L.d, .int .i64 L.n, .int .i64 L.b, .int .i64 L.a, .int .i64 L.x, .slice a.A1 a.n1 a.c1, .slice a.A2 a.n2 a.c2, .int .i64 st.u.d, .int .i64 st.u.n, .int .i64 st.u.b, .int .i64 st.u.a, .int .i64 st.u.x, .int .i64 st.err] 68)).alloc (.cells #[.int .i64 v.k, .string (bs v.l), .string (bs v.x), .slice v.A v.n v.c, .string (bs v.e)] 24)).alloc (.cells #[.int .i64 0, .int .i64 0, .int .i64 0, .int .i64 0, .int .i64 0, .slice none 0 0, .slice none 0 0, .int .i64 0, .int .i64 0, .int .i64 0, .int .i64 0, .int .i64 0, .int .i64 0] 68)).alloc (.cells #[.int .i64 0, .string ⟨#[]⟩, .string ⟨#[]⟩, .slice none 0 0, .string ⟨#[]⟩] 24)) := ⟨_, rfl⟩
  rw [← hp, ← hW1]
  have hg1 : Gr w W1 := by rw [hW1]; exact ((((Gr.refl w).alloc _).alloc _).alloc _).alloc _
  have hb2 : W1.heap[p]? = some (.cells #[.int .i64 L.d, .int .i64 L.n, .int .i64 L.b, .int .i64 L.a, .int .i64 L.x, .slice a.A1 a.n1 a.c1, .slice a.A2 a.n2 a.c2, .int .i64 st.u.d, .int .i64 st.u.n, .int .i64 st.u.b, .int .i64 st.u.a, .int .i64 st.u.x, .int .i64 st.err] 68 (0, 0)) := by
    rw [hW1, hp, heapOldR (by simp; omega), heapOldR (by simp; omega), heapOldR (by simp)]
    exact heap_alloc_new w _
  have hb3 : W1.heap[p + 1]? = some (.cells #[.int .i64 v.k, .string (bs v.l), .string (bs v.x), .slice v.A v.n v.c, .string (bs v.e)] 24 (0, 0)) := by
    have h := heap_alloc_new (w.alloc (.cells #[.int .i64 L.d, .int .i64 L.n, .int .i64 L.b, .int .i64 L.a, .int .i64 L.x, .slice a.A1 a.n1 a.c1, .slice a.A2 a.n2 a.c2, .int .i64 st.u.d, .int .i64 st.u.n, .int .i64 st.u.b, .int .i64 st.u.a, .int .i64 st.u.x, .int .i64 st.err] 68)) (.cells #[.int .i64 v.k, .string (bs v.l), .string (bs v.x), .slice v.A v.n v.c, .string (bs v.e)] 24)
    rw [show (w.alloc (.cells #[.int .i64 L.d, .int .i64 L.n, .int .i64 L.b, .int .i64 L.a, .int .i64 L.x, .slice a.A1 a.n1 a.c1, .slice a.A2 a.n2 a.c2, .int .i64 st.u.d, .int .i64 st.u.n, .int .i64 st.u.b, .int .i64 st.u.a, .int .i64 st.u.x, .int .i64 st.err] 68)).heap.size = p + 1 by simp [hp]] at h
    rw [hW1, heapOldR (by simp [hp]), heapOldR (by simp [hp])]
    exact h
  have hb4 : W1.heap[p + 1 + 1]? = some (.cells #[.int .i64 0, .int .i64 0, .int .i64 0, .int .i64 0, .int .i64 0, .slice none 0 0, .slice none 0 0, .int .i64 0, .int .i64 0, .int .i64 0, .int .i64 0, .int .i64 0, .int .i64 0] 68 (0, 0)) := by
    have h := heap_alloc_new ((w.alloc (.cells #[.int .i64 L.d, .int .i64 L.n, .int .i64 L.b, .int .i64 L.a, .int .i64 L.x, .slice a.A1 a.n1 a.c1, .slice a.A2 a.n2 a.c2, .int .i64 st.u.d, .int .i64 st.u.n, .int .i64 st.u.b, .int .i64 st.u.a, .int .i64 st.u.x, .int .i64 st.err] 68)).alloc (.cells #[.int .i64 v.k, .string (bs v.l), .string (bs v.x), .slice v.A v.n v.c, .string (bs v.e)] 24)) (.cells #[.int .i64 0, .int .i64 0, .int .i64 0, .int .i64 0, .int .i64 0, .slice none 0 0, .slice none 0 0, .int .i64 0, .int .i64 0, .int .i64 0, .int .i64 0, .int .i64 0, .int .i64 0] 68)
    rw [show ((w.alloc (.cells #[.int .i64 L.d, .int .i64 L.n, .int .i64 L.b, .int .i64 L.a, .int .i64 L.x, .slice a.A1 a.n1 a.c1, .slice a.A2 a.n2 a.c2, .int .i64 st.u.d, .int .i64 st.u.n, .int .i64 st.u.b, .int .i64 st.u.a, .int .i64 st.u.x, .int .i64 st.err] 68)).alloc (.cells #[.int .i64 v.k, .string (bs v.l), .string (bs v.x), .slice v.A v.n v.c, .string (bs v.e)] 24)).heap.size = p + 1 + 1 by simp [hp]] at h
    rw [hW1, heapOldR (by simp [hp])]
    exact h
  have hb5 : W1.heap[p + 1 + 1 + 1]? = some (.cells #[.int .i64 0, .string ⟨#[]⟩, .string ⟨#[]⟩, .slice none 0 0, .string ⟨#[]⟩] 24 (0, 0)) := by
    have h := heap_alloc_new (((w.alloc (.cells #[.int .i64 L.d, .int .i64 L.n, .int .i64 L.b, .int .i64 L.a, .int .i64 L.x, .slice a.A1 a.n1 a.c1, .slice a.A2 a.n2 a.c2, .int .i64 st.u.d, .int .i64 st.u.n, .int .i64 st.u.b, .int .i64 st.u.a, .int .i64 st.u.x, .int .i64 st.err] 68)).alloc (.cells #[.int .i64 v.k, .string (bs v.l), .string (bs v.x), .slice v.A v.n v.c, .string (bs v.e)] 24)).alloc (.cells #[.int .i64 0, .int .i64 0, .int .i64 0, .int .i64 0, .int .i64 0, .slice none 0 0, .slice none 0 0, .int .i64 0, .int .i64 0, .int .i64 0, .int .i64 0, .int .i64 0, .int .i64 0] 68)) (.cells #[.int .i64 0, .string ⟨#[]⟩, .string ⟨#[]⟩, .slice none 0 0, .string ⟨#[]⟩] 24)
    rw [show (((w.alloc (.cells #[.int .i64 L.d, .int .i64 L.n, .int .i64 L.b, .int .i64 L.a, .int .i64 L.x, .slice a.A1 a.n1 a.c1, .slice a.A2 a.n2 a.c2, .int .i64 st.u.d, .int .i64 st.u.n, .int .i64 st.u.b, .int .i64 st.u.a, .int .i64 st.u.x, .int .i64 st.err] 68)).alloc (.cells #[.int .i64 v.k, .string (bs v.l), .string (bs v.x), .slice v.A v.n v.c, .string (bs v.e)] 24)).alloc (.cells #[.int .i64 0, .int .i64 0, .int .i64 0, .int .i64 0, .int .i64 0, .slice none 0 0, .slice none 0 0, .int .i64 0, .int .i64 0, .int .i64 0, .int .i64 0, .int .i64 0, .int .i64 0] 68)).heap.size = p + 1 + 1 + 1 by simp [hp]] at h
    rw [hW1]
    exact h
  have HG1 := Lib.hid hg1
  have HB2 := Lib.hid hb2
  have HB3 := Lib.hid hb3
  have HB4 := Lib.hid hb4
  have HB5 := Lib.hid hb5
  have HP := Lib.hid hp
  clear hW1 hg1 hb2 hb3 hb4 hb5 hp
  rcases hfr with ⟨hf1, hf2⟩ | ⟨e, t', hf1, hf2, hnr⟩
  · rw [hf1] at hfk
    rw [hf2] at hq
    have HFK : Hid (∀ W', Gr W1 W' → Calls Try.prog 56 #[.slice a.A2 a.n2 a.c2, .string (bs nm)] W' (KRes none W')) := Lib.hid (fun W' hg => hfk W' (HG1.out.trans hg))
    have HQ := Lib.hid hq
    clear hfk hf1 hf2 hq hcnt
    obtain ⟨VS, hVS⟩ : ∃ VS : List (Nat × Nat × Value), VS = [(0, 12, .pointer (some ⟨p, 6, none⟩)), (1, 13, .slice a.A2 a.n2 a.c2), (2, 14, .pointer (some ⟨p + 1, 2, none⟩)), (3, 15, .string (bs v.x)), (4, 16, .string (bs nm)), (5, 17, .tuple #[.agg #[.string ⟨#[]⟩, .int .i64 0, .string ⟨#[]⟩, .string ⟨#[]⟩, .slice none 0 0, .string ⟨#[]⟩, .int .i64 0], .bool false]), (6, 11, .tuple #[.agg #[.string ⟨#[]⟩, .int .i64 0, .string ⟨#[]⟩, .string ⟨#[]⟩, .slice none 0 0, .string ⟨#[]⟩, .int .i64 0], .bool false]), (7, 18, .agg #[.string ⟨#[]⟩, .int .i64 0, .string ⟨#[]⟩, .string ⟨#[]⟩, .slice none 0 0, .string ⟨#[]⟩, .int .i64 0]), (8, 19, .bool false), (11, 8, .bool false)] := ⟨_, rfl⟩
    obtain ⟨US, hUS⟩ : ∃ US : List (Nat × Value), US = [(2, .pointer (some ⟨p, 0, none⟩)), (3, .pointer (some ⟨p + 1, 0, none⟩))] := ⟨_, rfl⟩
    refine wp_region_frame (by kernel_rfl) (by kernel_rfl) [12, 13, 14, 15, 16, 17, 11, 18, 19, 7, 8] (by simp) (Det VS US (fun B u w' => Gr W1 w' ∧ (B 10 = true → B 9 = true) ∧ (B 9 = true → ∃ pk cs, W1.heap.size ≤ pk ∧ u 7 = .pointer (some ⟨pk, 0, none⟩) ∧ w'.heap[pk]? = some (.cells cs 79 (0, 0)) ∧ cs = if B 10 = true then #[.string ⟨#[]⟩, .int .i64 0, .string ⟨#[]⟩, .string ⟨#[]⟩, .slice none 0 0, .string ⟨#[]⟩, .int .i64 0] else #[.string ⟨#[]⟩, .int .i64 0, .string ⟨#[]⟩, .string ⟨#[]⟩, .slice none 0 0, .string ⟨#[]⟩, .int .i64 0]))) ?_ ?_ ?_
    · exact Det.start (by rw [hUS]; simp [slot]) (⟨(Gr.refl _).drew, (fun h => by cases h), (fun h => by cases h)⟩)
    · intro B a' w' i o hfr hF ho hBi hdp
      have hi8 := (Array.getElem?_eq_some_iff.1 ho).1
      simp only [List.size_toArray, List.length_cons, List.length_nil] at hi8
      have hor : i = 0 ∨ i = 1 ∨ i = 2 ∨ i = 3 ∨ i = 4 ∨ i = 5 ∨ i = 6 ∨ i = 7 ∨ i = 8 ∨ i = 9 ∨ i = 10 ∨ i = 11 := by omega
      clear hi8
      rcases hor with rfl | rfl | rfl | rfl | rfl | rfl | rfl | rfl | rfl | rfl | rfl | rfl
      all_goals (
        simp only [List.getElem?_toArray, List.getElem?_cons_zero, List.getElem?_cons_succ, Option.some.injEq] at ho
        subst ho
        rw [if_pos (show Region.wanted _ _ = true from rfl)]
        refine wp_hideK ?_
        intro K hK)
      · have hFW := hF.wd
        have o2 := slot_spell (hF.had (d := 2) (v := .pointer (some ⟨p, 0, none⟩)) (by rw [hUS]; simp))
        go_simp
        exact hK.out _ _ (close_put hfr (d := 12) (by decide) (by simp) _ (F := fun u => Det VS US (fun B u w' => Gr W1 w' ∧ (B 10 = true → B 9 = true) ∧ (B 9 = true → ∃ pk cs, W1.heap.size ≤ pk ∧ u 7 = .pointer (some ⟨pk, 0, none⟩) ∧ w'.heap[pk]? = some (.cells cs 79 (0, 0)) ∧ cs = if B 10 = true then #[.string ⟨#[]⟩, .int .i64 0, .string ⟨#[]⟩, .string ⟨#[]⟩, .slice none 0 0, .string ⟨#[]⟩, .int .i64 0] else #[.string ⟨#[]⟩, .int .i64 0, .string ⟨#[]⟩, .string ⟨#[]⟩, .slice none 0 0, .string ⟨#[]⟩, .int .i64 0])) (upB B 0) u _) (hF.step (by rw [hVS]; simp) (by rw [hUS]; simp) (by simpa [upB, upV] using hFW)))
      · have hFW := hF.wd
        have hB0 : B 0 = true := hdp ⟨0, .data⟩ (by simp) (by rfl)
        have e0 := slot_spell (hF.get (i := 0) (d := 12) (v := .pointer (some ⟨p, 6, none⟩)) (by rw [hVS]; simp) hB0)
        have hb := (hFW.1.block p (lt_of_block HB2.out)).trans HB2.out
        have k6 := cell_of_cells hb 6
        have kl := lt_of_block hb
        go_simp
        exact hK.out _ _ (close_put hfr (d := 13) (by decide) (by simp) _ (F := fun u => Det VS US (fun B u w' => Gr W1 w' ∧ (B 10 = true → B 9 = true) ∧ (B 9 = true → ∃ pk cs, W1.heap.size ≤ pk ∧ u 7 = .pointer (some ⟨pk, 0, none⟩) ∧ w'.heap[pk]? = some (.cells cs 79 (0, 0)) ∧ cs = if B 10 = true then #[.string ⟨#[]⟩, .int .i64 0, .string ⟨#[]⟩, .string ⟨#[]⟩, .slice none 0 0, .string ⟨#[]⟩, .int .i64 0] else #[.string ⟨#[]⟩, .int .i64 0, .string ⟨#[]⟩, .string ⟨#[]⟩, .slice none 0 0, .string ⟨#[]⟩, .int .i64 0])) (upB B 1) u _) (hF.step (by rw [hVS]; simp) (by rw [hUS]; simp) (by simpa [upB, upV] using hFW)))
      · have hFW := hF.wd
        have o3 := slot_spell (hF.had (d := 3) (v := .pointer (some ⟨p + 1, 0, none⟩)) (by rw [hUS]; simp))
        go_simp
        exact hK.out _ _ (close_put hfr (d := 14) (by decide) (by simp) _ (F := fun u => Det VS US (fun B u w' => Gr W1 w' ∧ (B 10 = true → B 9 = true) ∧ (B 9 = true → ∃ pk cs, W1.heap.size ≤ pk ∧ u 7 = .pointer (some ⟨pk, 0, none⟩) ∧ w'.heap[pk]? = some (.cells cs 79 (0, 0)) ∧ cs = if B 10 = true then #[.string ⟨#[]⟩, .int .i64 0, .string ⟨#[]⟩, .string ⟨#[]⟩, .slice none 0 0, .string ⟨#[]⟩, .int .i64 0] else #[.string ⟨#[]⟩, .int .i64 0, .string ⟨#[]⟩, .string ⟨#[]⟩, .slice none 0 0, .string ⟨#[]⟩, .int .i64 0])) (upB B 2) u _) (hF.step (by rw [hVS]; simp) (by rw [hUS]; simp) (by simpa [upB, upV] using hFW)))
      · have hFW := hF.wd
        have hB2 : B 2 = true := hdp ⟨2, .data⟩ (by simp) (by rfl)
        have e2 := slot_spell (hF.get (i := 2) (d := 14) (v := .pointer (some ⟨p + 1, 2, none⟩)) (by rw [hVS]; simp) hB2)
        have hb := (hFW.1.block (p + 1) (lt_of_block HB3.out)).trans HB3.out
        have k6 := cell_of_cells hb 2
        have kl := lt_of_block hb
        go_simp
        exact hK.out _ _ (close_put hfr (d := 15) (by decide) (by simp) _ (F := fun u => Det VS US (fun B u w' => Gr W1 w' ∧ (B 10 = true → B 9 = true) ∧ (B 9 = true → ∃ pk cs, W1.heap.size ≤ pk ∧ u 7 = .pointer (some ⟨pk, 0, none⟩) ∧ w'.heap[pk]? = some (.cells cs 79 (0, 0)) ∧ cs = if B 10 = true then #[.string ⟨#[]⟩, .int .i64 0, .string ⟨#[]⟩, .string ⟨#[]⟩, .slice none 0 0, .string ⟨#[]⟩, .int .i64 0] else #[.string ⟨#[]⟩, .int .i64 0, .string ⟨#[]⟩, .string ⟨#[]⟩, .slice none 0 0, .string ⟨#[]⟩, .int .i64 0])) (upB B 3) u _) (hF.step (by rw [hVS]; simp) (by rw [hUS]; simp) (by simpa [upB, upV] using hFW)))
      · have hFW := hF.wd
        have hB3 : B 3 = true := hdp ⟨3, .data⟩ (by simp) (by rfl)
        have e3 := slot_spell (hF.get (i := 3) (d := 15) (v := .string (bs v.x)) (by rw [hVS]; simp) hB3)
        have yn := HEX.out
        have ys := HSZ.out
        go_simp
        rw [if_pos (show (1 : Int) ≤ (v.x.length : Int) by omega)]
        go_simp
        exact hK.out _ _ (close_put hfr (d := 16) (by decide) (by simp) _ (F := fun u => Det VS US (fun B u w' => Gr W1 w' ∧ (B 10 = true → B 9 = true) ∧ (B 9 = true → ∃ pk cs, W1.heap.size ≤ pk ∧ u 7 = .pointer (some ⟨pk, 0, none⟩) ∧ w'.heap[pk]? = some (.cells cs 79 (0, 0)) ∧ cs = if B 10 = true then #[.string ⟨#[]⟩, .int .i64 0, .string ⟨#[]⟩, .string ⟨#[]⟩, .slice none 0 0, .string ⟨#[]⟩, .int .i64 0] else #[.string ⟨#[]⟩, .int .i64 0, .string ⟨#[]⟩, .string ⟨#[]⟩, .slice none 0 0, .string ⟨#[]⟩, .int .i64 0])) (upB B 4) u _) (hF.step (by rw [hVS]; simp) (by rw [hUS]; simp) (by simpa [upB, upV] using hFW)))
      · have hFW := hF.wd
        have hB1 : B 1 = true := hdp ⟨1, .data⟩ (by simp) (by rfl)
        have e1 := slot_spell (hF.get (i := 1) (d := 13) (v := .slice a.A2 a.n2 a.c2) (by rw [hVS]; simp) hB1)
        have hB4 : B 4 = true := hdp ⟨4, .data⟩ (by simp) (by rfl)
        have e4 := slot_spell (hF.get (i := 4) (d := 16) (v := .string (bs nm)) (by rw [hVS]; simp) hB4)
        have HFF := Lib.hid hF
        have HFR := Lib.hid hfr
        have HFG := Lib.hid hFW
        clear hF hfr hFW hdp
        go_simp
        refine (HFK.out _ HFG.out.1).mono ?_
        rintro e' w2 ⟨rfl, hb2⟩
        have hF := HFF.out
        have hfr := HFR.out
        have hFW := HFG.out
        exact hK.out _ _ (close_put hfr (d := 17) (by decide) (by simp) _ (F := fun u => Det VS US (fun B u w' => Gr W1 w' ∧ (B 10 = true → B 9 = true) ∧ (B 9 = true → ∃ pk cs, W1.heap.size ≤ pk ∧ u 7 = .pointer (some ⟨pk, 0, none⟩) ∧ w'.heap[pk]? = some (.cells cs 79 (0, 0)) ∧ cs = if B 10 = true then #[.string ⟨#[]⟩, .int .i64 0, .string ⟨#[]⟩, .string ⟨#[]⟩, .slice none 0 0, .string ⟨#[]⟩, .int .i64 0] else #[.string ⟨#[]⟩, .int .i64 0, .string ⟨#[]⟩, .string ⟨#[]⟩, .slice none 0 0, .string ⟨#[]⟩, .int .i64 0])) (upB B 5) u _) (hF.step (by rw [hVS]; simp) (by rw [hUS]; simp) (⟨hFW.1.trans hb2, by simpa [upB] using hFW.2.1, fun h16 => (by
              obtain ⟨pk, cs, q1, q2, q3, q4⟩ := hFW.2.2 (by simpa [upB] using h16)
              exact ⟨pk, cs, q1, by simpa [upV] using q2, (hb2.block pk (lt_of_block q3)).trans q3, by simpa [upB] using q4⟩)⟩)))
      · have hFW := hF.wd
        have hB5 : B 5 = true := hdp ⟨5, .data⟩ (by simp) (by rfl)
        have e5 := slot_spell (hF.get (i := 5) (d := 17) (v := .tuple #[.agg #[.string ⟨#[]⟩, .int .i64 0, .string ⟨#[]⟩, .string ⟨#[]⟩, .slice none 0 0, .string ⟨#[]⟩, .int .i64 0], .bool false]) (by rw [hVS]; simp) hB5)
        go_simp
        exact hK.out _ _ (close_put hfr (d := 11) (by decide) (by simp) _ (F := fun u => Det VS US (fun B u w' => Gr W1 w' ∧ (B 10 = true → B 9 = true) ∧ (B 9 = true → ∃ pk cs, W1.heap.size ≤ pk ∧ u 7 = .pointer (some ⟨pk, 0, none⟩) ∧ w'.heap[pk]? = some (.cells cs 79 (0, 0)) ∧ cs = if B 10 = true then #[.string ⟨#[]⟩, .int .i64 0, .string ⟨#[]⟩, .string ⟨#[]⟩, .slice none 0 0, .string ⟨#[]⟩, .int .i64 0] else #[.string ⟨#[]⟩, .int .i64 0, .string ⟨#[]⟩, .string ⟨#[]⟩, .slice none 0 0, .string ⟨#[]⟩, .int .i64 0])) (upB B 6) u _) (hF.step (by rw [hVS]; simp) (by rw [hUS]; simp) (by simpa [upB, upV] using hFW)))
      · have hFW := hF.wd
        have hB6 : B 6 = true := hdp ⟨6, .data⟩ (by simp) (by rfl)
        have e6 := slot_spell (hF.get (i := 6) (d := 11) (v := .tuple #[.agg #[.string ⟨#[]⟩, .int .i64 0, .string ⟨#[]⟩, .string ⟨#[]⟩, .slice none 0 0, .string ⟨#[]⟩, .int .i64 0], .bool false]) (by rw [hVS]; simp) hB6)
        go_simp
        exact hK.out _ _ (close_put hfr (d := 18) (by decide) (by simp) _ (F := fun u => Det VS US (fun B u w' => Gr W1 w' ∧ (B 10 = true → B 9 = true) ∧ (B 9 = true → ∃ pk cs, W1.heap.size ≤ pk ∧ u 7 = .pointer (some ⟨pk, 0, none⟩) ∧ w'.heap[pk]? = some (.cells cs 79 (0, 0)) ∧ cs = if B 10 = true then #[.string ⟨#[]⟩, .int .i64 0, .string ⟨#[]⟩, .string ⟨#[]⟩, .slice none 0 0, .string ⟨#[]⟩, .int .i64 0] else #[.string ⟨#[]⟩, .int .i64 0, .string ⟨#[]⟩, .string ⟨#[]⟩, .slice none 0 0, .string ⟨#[]⟩, .int .i64 0])) (upB B 7) u _) (hF.step (by rw [hVS]; simp) (by rw [hUS]; simp) (by simpa [upB, upV] using hFW)))
      · have hFW := hF.wd
        have hB6 : B 6 = true := hdp ⟨6, .data⟩ (by simp) (by rfl)
        have e6 := slot_spell (hF.get (i := 6) (d := 11) (v := .tuple #[.agg #[.string ⟨#[]⟩, .int .i64 0, .string ⟨#[]⟩, .string ⟨#[]⟩, .slice none 0 0, .string ⟨#[]⟩, .int .i64 0], .bool false]) (by rw [hVS]; simp) hB6)
        go_simp
        exact hK.out _ _ (close_put hfr (d := 19) (by decide) (by simp) _ (F := fun u => Det VS US (fun B u w' => Gr W1 w' ∧ (B 10 = true → B 9 = true) ∧ (B 9 = true → ∃ pk cs, W1.heap.size ≤ pk ∧ u 7 = .pointer (some ⟨pk, 0, none⟩) ∧ w'.heap[pk]? = some (.cells cs 79 (0, 0)) ∧ cs = if B 10 = true then #[.string ⟨#[]⟩, .int .i64 0, .string ⟨#[]⟩, .string ⟨#[]⟩, .slice none 0 0, .string ⟨#[]⟩, .int .i64 0] else #[.string ⟨#[]⟩, .int .i64 0, .string ⟨#[]⟩, .string ⟨#[]⟩, .slice none 0 0, .string ⟨#[]⟩, .int .i64 0])) (upB B 8) u _) (hF.step (by rw [hVS]; simp) (by rw [hUS]; simp) (by simpa [upB, upV] using hFW)))
      · have hFW := hF.wd
        have h17n : ¬ B 10 = true := fun h => by rw [hFW.2.1 h] at hBi; cases hBi
        go_simp
        exact hK.out _ _ (close_put hfr (d := 7) (by decide) (by simp) _ (F := fun u => Det VS US (fun B u w' => Gr W1 w' ∧ (B 10 = true → B 9 = true) ∧ (B 9 = true → ∃ pk cs, W1.heap.size ≤ pk ∧ u 7 = .pointer (some ⟨pk, 0, none⟩) ∧ w'.heap[pk]? = some (.cells cs 79 (0, 0)) ∧ cs = if B 10 = true then #[.string ⟨#[]⟩, .int .i64 0, .string ⟨#[]⟩, .string ⟨#[]⟩, .slice none 0 0, .string ⟨#[]⟩, .int .i64 0] else #[.string ⟨#[]⟩, .int .i64 0, .string ⟨#[]⟩, .string ⟨#[]⟩, .slice none 0 0, .string ⟨#[]⟩, .int .i64 0])) (upB B 9) u _) (hF.step (by rw [hVS]; simp) (by rw [hUS]; simp) (⟨hFW.1.alloc _, fun h17 => by simp [upB], fun _ => ⟨_, _, Below.size hFW.1, by simp [upV], heap_alloc_new _ _, by rw [if_neg (by simpa [upB] using h17n)]⟩⟩)))
      · have hFW := hF.wd
        have hB7 : B 7 = true := hdp ⟨7, .data⟩ (by simp) (by rfl)
        have e7 := slot_spell (hF.get (i := 7) (d := 18) (v := .agg #[.string ⟨#[]⟩, .int .i64 0, .string ⟨#[]⟩, .string ⟨#[]⟩, .slice none 0 0, .string ⟨#[]⟩, .int .i64 0]) (by rw [hVS]; simp) hB7)
        have hB9 : B 9 = true := hdp ⟨9, .data⟩ (by simp) (by rfl)
        obtain ⟨pk, cs, q1, q2, q3, q4⟩ := hFW.2.2 hB9
        rw [if_neg (by rw [hBi]; decide)] at q4
        subst q4
        have e7 := slot_spell q2
        have y0 := cell_of_cells q3 0
        have f0 := free_of_cells q3 0
        have y1 := cell_of_cells q3 1
        have f1 := free_of_cells q3 1
        have y2 := cell_of_cells q3 2
        have f2 := free_of_cells q3 2
        have y3 := cell_of_cells q3 3
        have f3 := free_of_cells q3 3
        have y4 := cell_of_cells q3 4
        have f4 := free_of_cells q3 4
        have y5 := cell_of_cells q3 5
        have f5 := free_of_cells q3 5
        have y6 := cell_of_cells q3 6
        have f6 := free_of_cells q3 6
        have pl := lt_of_block q3
        go_simp
        exact hK.out _ _ (close_none hfr undef (F := fun u => Det VS US (fun B u w' => Gr W1 w' ∧ (B 10 = true → B 9 = true) ∧ (B 9 = true → ∃ pk cs, W1.heap.size ≤ pk ∧ u 7 = .pointer (some ⟨pk, 0, none⟩) ∧ w'.heap[pk]? = some (.cells cs 79 (0, 0)) ∧ cs = if B 10 = true then #[.string ⟨#[]⟩, .int .i64 0, .string ⟨#[]⟩, .string ⟨#[]⟩, .slice none 0 0, .string ⟨#[]⟩, .int .i64 0] else #[.string ⟨#[]⟩, .int .i64 0, .string ⟨#[]⟩, .string ⟨#[]⟩, .slice none 0 0, .string ⟨#[]⟩, .int .i64 0])) (upB B 10) u _) (hF.none (by rw [hVS]; simp) (⟨((((((hFW.1.setCell q1 _).setCell q1 _).setCell q1 _).setCell q1 _).setCell q1 _).setCell q1 _).setCell q1 _, fun _ => by simpa [upB] using hB9, fun _ => ⟨pk, _, q1, q2, seven_set q3 _ _ _ _ _ _ _, by simp [upB]⟩⟩)))
      · have hFW := hF.wd
        have hB8 : B 8 = true := hdp ⟨8, .data⟩ (by simp) (by rfl)
        have e8 := slot_spell (hF.get (i := 8) (d := 19) (v := .bool false) (by rw [hVS]; simp) hB8)
        go_simp
        exact hK.out _ _ (close_put hfr (d := 8) (by decide) (by simp) _ (F := fun u => Det VS US (fun B u w' => Gr W1 w' ∧ (B 10 = true → B 9 = true) ∧ (B 9 = true → ∃ pk cs, W1.heap.size ≤ pk ∧ u 7 = .pointer (some ⟨pk, 0, none⟩) ∧ w'.heap[pk]? = some (.cells cs 79 (0, 0)) ∧ cs = if B 10 = true then #[.string ⟨#[]⟩, .int .i64 0, .string ⟨#[]⟩, .string ⟨#[]⟩, .slice none 0 0, .string ⟨#[]⟩, .int .i64 0] else #[.string ⟨#[]⟩, .int .i64 0, .string ⟨#[]⟩, .string ⟨#[]⟩, .slice none 0 0, .string ⟨#[]⟩, .int .i64 0])) (upB B 11) u _) (hF.step (by rw [hVS]; simp) (by rw [hUS]; simp) (by simpa [upB, upV] using hFW)))
    · intro B u w' hall hF
      have z0 := hF.get (i := 0) (d := 12) (v := .pointer (some ⟨p, 6, none⟩)) (by rw [hVS]; simp) (hall 0 (by simp))
      have z1 := hF.get (i := 1) (d := 13) (v := .slice a.A2 a.n2 a.c2) (by rw [hVS]; simp) (hall 1 (by simp))
      have z2 := hF.get (i := 2) (d := 14) (v := .pointer (some ⟨p + 1, 2, none⟩)) (by rw [hVS]; simp) (hall 2 (by simp))
      have z3 := hF.get (i := 3) (d := 15) (v := .string (bs v.x)) (by rw [hVS]; simp) (hall 3 (by simp))
      have z4 := hF.get (i := 4) (d := 16) (v := .string (bs nm)) (by rw [hVS]; simp) (hall 4 (by simp))
      have z5 := hF.get (i := 5) (d := 17) (v := .tuple #[.agg #[.string ⟨#[]⟩, .int .i64 0, .string ⟨#[]⟩, .string ⟨#[]⟩, .slice none 0 0, .string ⟨#[]⟩, .int .i64 0], .bool false]) (by rw [hVS]; simp) (hall 5 (by simp))
      have z6 := hF.get (i := 6) (d := 11) (v := .tuple #[.agg #[.string ⟨#[]⟩, .int .i64 0, .string ⟨#[]⟩, .string ⟨#[]⟩, .slice none 0 0, .string ⟨#[]⟩, .int .i64 0], .bool false]) (by rw [hVS]; simp) (hall 6 (by simp))
      have z7 := hF.get (i := 7) (d := 18) (v := .agg #[.string ⟨#[]⟩, .int .i64 0, .string ⟨#[]⟩, .string ⟨#[]⟩, .slice none 0 0, .string ⟨#[]⟩, .int .i64 0]) (by rw [hVS]; simp) (hall 7 (by simp))
      have z8 := hF.get (i := 8) (d := 19) (v := .bool false) (by rw [hVS]; simp) (hall 8 (by simp))
      have z11 := hF.get (i := 11) (d := 8) (v := .bool false) (by rw [hVS]; simp) (hall 11 (by simp))
      have hFW := hF.wd
      clear hF hVS hUS
      simp only [List.foldl_cons, List.foldl_nil, Act.put, List.setIfInBounds_toArray, List.set_cons_zero, List.set_cons_succ, z0, z1, z2, z3, z4, z5, z6, z7, z8, z11]
      clear z0 z1 z2 z3 z4 z5 z6 z7 z8 z11
      obtain ⟨hg, _, hp7⟩ := hFW
      obtain ⟨pk, cs, q1, q2, q3, _⟩ := hp7 (hall 9 (by simp))
      rw [q2]
      have HGW := Lib.hid hg
      have hb2 := (hg.block p (lt_of_block HB2.out)).trans HB2.out
      have k12 := cell_of_cells hb2 12
      have kf12 := free_of_cells hb2 12
      have kl := lt_of_block hb2
      have HX1 := Lib.hid hb2
      clear hall hp7 q1 q2 q3 hg hb2
      go_wp2_with fail
      have hgw := HGW.out
      have hp := HP.out
      obtain ⟨W0, hW0⟩ : ∃ W0, W0 = w'.setCell ⟨p, 12, none⟩ (.int .i64 11) := ⟨_, rfl⟩
      try rw [← hW0]
      have HX2 : Hid (W0.heap[p]? = some (.cells #[.int .i64 L.d, .int .i64 L.n, .int .i64 L.b, .int .i64 L.a, .int .i64 L.x, .slice a.A1 a.n1 a.c1, .slice a.A2 a.n2 a.c2, .int .i64 st.u.d, .int .i64 st.u.n, .int .i64 st.u.b, .int .i64 st.u.a, .int .i64 st.u.x, .int .i64 11] 68 (0, 0))) := Lib.hid (by rw [hW0]; exact cells_set HX1.out _)
      have HX3 : Hid (W0.heap[p + 1]? = some (.cells #[.int .i64 v.k, .string (bs v.l), .string (bs v.x), .slice v.A v.n v.c, .string (bs v.e)] 24 (0, 0))) := Lib.hid (by rw [hW0]; (repeat (rw [heap_set_other (by simp)])); exact ((hgw.block (p + 1) (lt_of_block HB3.out)).trans HB3.out))
      have HZ6 : Hid (W0.heap[p + 1 + 1]? = some (.cells #[.int .i64 0, .int .i64 0, .int .i64 0, .int .i64 0, .int .i64 0, .slice none 0 0, .slice none 0 0, .int .i64 0, .int .i64 0, .int .i64 0, .int .i64 0, .int .i64 0, .int .i64 0] 68 (0, 0))) := Lib.hid (by rw [hW0]; (repeat (rw [heap_set_other (by simp; omega)])); exact ((hgw.block (p + 1 + 1) (lt_of_block HB4.out)).trans HB4.out))
      have HZ7 : Hid (W0.heap[p + 1 + 1 + 1]? = some (.cells #[.int .i64 0, .string ⟨#[]⟩, .string ⟨#[]⟩, .slice none 0 0, .string ⟨#[]⟩] 24 (0, 0))) := Lib.hid (by rw [hW0]; (repeat (rw [heap_set_other (by simp; omega)])); exact ((hgw.block (p + 1 + 1 + 1) (lt_of_block HB5.out)).trans HB5.out))
      have HGR0 : Hid (Gr w W0) := Lib.hid (by rw [hW0]; exact (HG1.out.trans hgw).setCell (by simp; omega) _)
      clear hW0 k12 kf12 kl HX1 HGW hgw hp
      obtain ⟨VS, hVS⟩ : ∃ VS : List (Nat × Nat × Value), VS = [(0, 23, .agg #[.int .i64 L.d, .int .i64 L.n, .int .i64 L.b, .int .i64 L.a, .int .i64 L.x, .slice a.A1 a.n1 a.c1, .slice a.A2 a.n2 a.c2, .int .i64 st.u.d, .int .i64 st.u.n, .int .i64 st.u.b, .int .i64 st.u.a, .int .i64 st.u.x, .int .i64 11]), (1, 24, .agg #[.int .i64 v.k, .string (bs v.l), .string (bs v.x), .slice v.A v.n v.c, .string (bs v.e)]), (4, 6, .int .i64 0)] := ⟨_, rfl⟩
      obtain ⟨US, hUS⟩ : ∃ US : List (Nat × Value), US = [(2, .pointer (some ⟨p, 0, none⟩)), (3, .pointer (some ⟨p + 1, 0, none⟩)), (4, .pointer (some ⟨p + 1 + 1, 0, none⟩)), (5, .pointer (some ⟨p + 1 + 1 + 1, 0, none⟩))] := ⟨_, rfl⟩
      refine wp_region_frame (by kernel_rfl) (by kernel_rfl) [23, 24, 6] (by simp) (Det VS US (fun B _ w' => CP w W0 (p + 1 + 1) (p + 1 + 1 + 1) #[.int .i64 L.d, .int .i64 L.n, .int .i64 L.b, .int .i64 L.a, .int .i64 L.x, .slice a.A1 a.n1 a.c1, .slice a.A2 a.n2 a.c2, .int .i64 st.u.d, .int .i64 st.u.n, .int .i64 st.u.b, .int .i64 st.u.a, .int .i64 st.u.x, .int .i64 11] #[.int .i64 0, .int .i64 0, .int .i64 0, .int .i64 0, .int .i64 0, .slice none 0 0, .slice none 0 0, .int .i64 0, .int .i64 0, .int .i64 0, .int .i64 0, .int .i64 0, .int .i64 0] #[.int .i64 v.k, .string (bs v.l), .string (bs v.x), .slice v.A v.n v.c, .string (bs v.e)] #[.int .i64 0, .string ⟨#[]⟩, .string ⟨#[]⟩, .slice none 0 0, .string ⟨#[]⟩] 2 3 B w')) ?_ ?_ ?_
      · exact Det.start (by rw [hUS]; simp [slot]) (CP.start HGR0.out.drew (Off.gr ((Gr.refl _).drew)) HZ6.out HZ7.out)
      · intro B a' w' i o hfr hF ho hBi hdp
        have hi8 := (Array.getElem?_eq_some_iff.1 ho).1
        simp only [List.size_toArray, List.length_cons, List.length_nil] at hi8
        have hor : i = 0 ∨ i = 1 ∨ i = 2 ∨ i = 3 ∨ i = 4 := by omega
        clear hi8
        rcases hor with rfl | rfl | rfl | rfl | rfl
        all_goals (
          simp only [List.getElem?_toArray, List.getElem?_cons_zero, List.getElem?_cons_succ, Option.some.injEq] at ho
          subst ho
          rw [if_pos (show Region.wanted _ _ = true from rfl)]
          refine wp_hideK ?_
          intro K hK)
        · have hFW := hF.wd
          have o2 := slot_spell (hF.had (d := 2) (v := .pointer (some ⟨p, 0, none⟩)) (by rw [hUS]; simp))
          have hb := hFW.off.block HX2.out (by simp; try omega)
          have k0 := cell_of_cells hb 0
          have k1 := cell_of_cells hb 1
          have k2 := cell_of_cells hb 2
          have k3 := cell_of_cells hb 3
          have k4 := cell_of_cells hb 4
          have k5 := cell_of_cells hb 5
          have k6 := cell_of_cells hb 6
          have k7 := cell_of_cells hb 7
          have k8 := cell_of_cells hb 8
          have k9 := cell_of_cells hb 9
          have k10 := cell_of_cells hb 10
          have k11 := cell_of_cells hb 11
          have k12 := cell_of_cells hb 12
          have kl := lt_of_block hb
          go_simp
          exact hK.out _ _ (close_put hfr (d := 23) (by decide) (by simp) _ (F := fun u => Det VS US (fun B _ w' => CP w W0 (p + 1 + 1) (p + 1 + 1 + 1) #[.int .i64 L.d, .int .i64 L.n, .int .i64 L.b, .int .i64 L.a, .int .i64 L.x, .slice a.A1 a.n1 a.c1, .slice a.A2 a.n2 a.c2, .int .i64 st.u.d, .int .i64 st.u.n, .int .i64 st.u.b, .int .i64 st.u.a, .int .i64 st.u.x, .int .i64 11] #[.int .i64 0, .int .i64 0, .int .i64 0, .int .i64 0, .int .i64 0, .slice none 0 0, .slice none 0 0, .int .i64 0, .int .i64 0, .int .i64 0, .int .i64 0, .int .i64 0, .int .i64 0] #[.int .i64 v.k, .string (bs v.l), .string (bs v.x), .slice v.A v.n v.c, .string (bs v.e)] #[.int .i64 0, .string ⟨#[]⟩, .string ⟨#[]⟩, .slice none 0 0, .string ⟨#[]⟩] 2 3 B w') (upB B 0) u _) (hF.step (by rw [hVS]; simp) (by rw [hUS]; simp) (hFW.skip (by decide) (by decide))))
        · have hFW := hF.wd
          have o3 := slot_spell (hF.had (d := 3) (v := .pointer (some ⟨p + 1, 0, none⟩)) (by rw [hUS]; simp))
          have hb := hFW.off.block HX3.out (by simp; try omega)
          have k0 := cell_of_cells hb 0
          have k1 := cell_of_cells hb 1
          have k2 := cell_of_cells hb 2
          have k3 := cell_of_cells hb 3
          have k4 := cell_of_cells hb 4
          have kl := lt_of_block hb
          go_simp
          exact hK.out _ _ (close_put hfr (d := 24) (by decide) (by simp) _ (F := fun u => Det VS US (fun B _ w' => CP w W0 (p + 1 + 1) (p + 1 + 1 + 1) #[.int .i64 L.d, .int .i64 L.n, .int .i64 L.b, .int .i64 L.a, .int .i64 L.x, .slice a.A1 a.n1 a.c1, .slice a.A2 a.n2 a.c2, .int .i64 st.u.d, .int .i64 st.u.n, .int .i64 st.u.b, .int .i64 st.u.a, .int .i64 st.u.x, .int .i64 11] #[.int .i64 0, .int .i64 0, .int .i64 0, .int .i64 0, .int .i64 0, .slice none 0 0, .slice none 0 0, .int .i64 0, .int .i64 0, .int .i64 0, .int .i64 0, .int .i64 0, .int .i64 0] #[.int .i64 v.k, .string (bs v.l), .string (bs v.x), .slice v.A v.n v.c, .string (bs v.e)] #[.int .i64 0, .string ⟨#[]⟩, .string ⟨#[]⟩, .slice none 0 0, .string ⟨#[]⟩] 2 3 B w') (upB B 1) u _) (hF.step (by rw [hVS]; simp) (by rw [hUS]; simp) (hFW.skip (by decide) (by decide))))
        · have hFW := hF.wd
          have hB0 : B 0 = true := hdp ⟨0, .data⟩ (by simp) (by rfl)
          have e0 := slot_spell (hF.get (i := 0) (d := 23) (v := .agg #[.int .i64 L.d, .int .i64 L.n, .int .i64 L.b, .int .i64 L.a, .int .i64 L.x, .slice a.A1 a.n1 a.c1, .slice a.A2 a.n2 a.c2, .int .i64 st.u.d, .int .i64 st.u.n, .int .i64 st.u.b, .int .i64 st.u.a, .int .i64 st.u.x, .int .i64 11]) (by rw [hVS]; simp) hB0)
          have o4 := slot_spell (hF.had (d := 4) (v := .pointer (some ⟨p + 1 + 1, 0, none⟩)) (by rw [hUS]; simp))
          have q6 := hFW.b6
          rw [if_neg (by rw [hBi]; decide)] at q6
          have y0 := cell_of_cells q6 0
          have yf0 := free_of_cells q6 0
          have y1 := cell_of_cells q6 1
          have yf1 := free_of_cells q6 1
          have y2 := cell_of_cells q6 2
          have yf2 := free_of_cells q6 2
          have y3 := cell_of_cells q6 3
          have yf3 := free_of_cells q6 3
          have y4 := cell_of_cells q6 4
          have yf4 := free_of_cells q6 4
          have y5 := cell_of_cells q6 5
          have yf5 := free_of_cells q6 5
          have y6 := cell_of_cells q6 6
          have yf6 := free_of_cells q6 6
          have y7 := cell_of_cells q6 7
          have yf7 := free_of_cells q6 7
          have y8 := cell_of_cells q6 8
          have yf8 := free_of_cells q6 8
          have y9 := cell_of_cells q6 9
          have yf9 := free_of_cells q6 9
          have y10 := cell_of_cells q6 10
          have yf10 := free_of_cells q6 10
          have y11 := cell_of_cells q6 11
          have yf11 := free_of_cells q6 11
          have y12 := cell_of_cells q6 12
          have yf12 := free_of_cells q6 12
          have yl := lt_of_block q6
          go_simp
          exact hK.out _ _ (close_none hfr undef (F := fun u => Det VS US (fun B _ w' => CP w W0 (p + 1 + 1) (p + 1 + 1 + 1) #[.int .i64 L.d, .int .i64 L.n, .int .i64 L.b, .int .i64 L.a, .int .i64 L.x, .slice a.A1 a.n1 a.c1, .slice a.A2 a.n2 a.c2, .int .i64 st.u.d, .int .i64 st.u.n, .int .i64 st.u.b, .int .i64 st.u.a, .int .i64 st.u.x, .int .i64 11] #[.int .i64 0, .int .i64 0, .int .i64 0, .int .i64 0, .int .i64 0, .slice none 0 0, .slice none 0 0, .int .i64 0, .int .i64 0, .int .i64 0, .int .i64 0, .int .i64 0, .int .i64 0] #[.int .i64 v.k, .string (bs v.l), .string (bs v.x), .slice v.A v.n v.c, .string (bs v.e)] #[.int .i64 0, .string ⟨#[]⟩, .string ⟨#[]⟩, .slice none 0 0, .string ⟨#[]⟩] 2 3 B w') (upB B 2) u _) (hF.none (by rw [hVS]; simp) (hFW.s6 hBi (by decide) (by omega) (by have hp := HP.out; omega) rfl rfl)))
        · have hFW := hF.wd
          have hB1 : B 1 = true := hdp ⟨1, .data⟩ (by simp) (by rfl)
          have e1 := slot_spell (hF.get (i := 1) (d := 24) (v := .agg #[.int .i64 v.k, .string (bs v.l), .string (bs v.x), .slice v.A v.n v.c, .string (bs v.e)]) (by rw [hVS]; simp) hB1)
          have o5 := slot_spell (hF.had (d := 5) (v := .pointer (some ⟨p + 1 + 1 + 1, 0, none⟩)) (by rw [hUS]; simp))
          have q7 := hFW.b7
          rw [if_neg (by rw [hBi]; decide)] at q7
          have y0 := cell_of_cells q7 0
          have yf0 := free_of_cells q7 0
          have y1 := cell_of_cells q7 1
          have yf1 := free_of_cells q7 1
          have y2 := cell_of_cells q7 2
          have yf2 := free_of_cells q7 2
          have y3 := cell_of_cells q7 3
          have yf3 := free_of_cells q7 3
          have y4 := cell_of_cells q7 4
          have yf4 := free_of_cells q7 4
          have yl := lt_of_block q7
          go_simp
          exact hK.out _ _ (close_none hfr undef (F := fun u => Det VS US (fun B _ w' => CP w W0 (p + 1 + 1) (p + 1 + 1 + 1) #[.int .i64 L.d, .int .i64 L.n, .int .i64 L.b, .int .i64 L.a, .int .i64 L.x, .slice a.A1 a.n1 a.c1, .slice a.A2 a.n2 a.c2, .int .i64 st.u.d, .int .i64 st.u.n, .int .i64 st.u.b, .int .i64 st.u.a, .int .i64 st.u.x, .int .i64 11] #[.int .i64 0, .int .i64 0, .int .i64 0, .int .i64 0, .int .i64 0, .slice none 0 0, .slice none 0 0, .int .i64 0, .int .i64 0, .int .i64 0, .int .i64 0, .int .i64 0, .int .i64 0] #[.int .i64 v.k, .string (bs v.l), .string (bs v.x), .slice v.A v.n v.c, .string (bs v.e)] #[.int .i64 0, .string ⟨#[]⟩, .string ⟨#[]⟩, .slice none 0 0, .string ⟨#[]⟩] 2 3 B w') (upB B 3) u _) (hF.none (by rw [hVS]; simp) (hFW.s7 hBi (by decide) (by omega) (by have hp := HP.out; omega) rfl rfl)))
        · have hFW := hF.wd
          go_simp
          exact hK.out _ _ (close_put hfr (d := 6) (by decide) (by simp) _ (F := fun u => Det VS US (fun B _ w' => CP w W0 (p + 1 + 1) (p + 1 + 1 + 1) #[.int .i64 L.d, .int .i64 L.n, .int .i64 L.b, .int .i64 L.a, .int .i64 L.x, .slice a.A1 a.n1 a.c1, .slice a.A2 a.n2 a.c2, .int .i64 st.u.d, .int .i64 st.u.n, .int .i64 st.u.b, .int .i64 st.u.a, .int .i64 st.u.x, .int .i64 11] #[.int .i64 0, .int .i64 0, .int .i64 0, .int .i64 0, .int .i64 0, .slice none 0 0, .slice none 0 0, .int .i64 0, .int .i64 0, .int .i64 0, .int .i64 0, .int .i64 0, .int .i64 0] #[.int .i64 v.k, .string (bs v.l), .string (bs v.x), .slice v.A v.n v.c, .string (bs v.e)] #[.int .i64 0, .string ⟨#[]⟩, .string ⟨#[]⟩, .slice none 0 0, .string ⟨#[]⟩] 2 3 B w') (upB B 4) u _) (hF.step (by rw [hVS]; simp) (by rw [hUS]; simp) (hFW.skip (by decide) (by decide))))
      · intro B u w' hall hF
        have z0 := hF.get (i := 0) (d := 23) (v := .agg #[.int .i64 L.d, .int .i64 L.n, .int .i64 L.b, .int .i64 L.a, .int .i64 L.x, .slice a.A1 a.n1 a.c1, .slice a.A2 a.n2 a.c2, .int .i64 st.u.d, .int .i64 st.u.n, .int .i64 st.u.b, .int .i64 st.u.a, .int .i64 st.u.x, .int .i64 11]) (by rw [hVS]; simp) (hall 0 (by simp))
        have z1 := hF.get (i := 1) (d := 24) (v := .agg #[.int .i64 v.k, .string (bs v.l), .string (bs v.x), .slice v.A v.n v.c, .string (bs v.e)]) (by rw [hVS]; simp) (hall 1 (by simp))
        have z4 := hF.get (i := 4) (d := 6) (v := .int .i64 0) (by rw [hVS]; simp) (hall 4 (by simp))
        have hFW := hF.wd
        clear hF hVS hUS
        simp only [List.foldl_cons, List.foldl_nil, Act.put, List.setIfInBounds_toArray, List.set_cons_zero, List.set_cons_succ, z0, z1, z4]
        clear z0 z1 z4
        have hp := HP.out
        have q6 := hFW.b6
        have q7 := hFW.b7
        have hgf := hFW.gr
        have hof := hFW.off
        rw [if_pos (hall 2 (by simp))] at q6
        rw [if_pos (hall 3 (by simp))] at q7
        clear hall hFW
        go_wp2_with fail
        refine bodyPost_ret (results_state rfl _ _ _ _ _ _ rfl rfl rfl q6 rfl q7) rfl ⟨a, v, by rw [← HQ.out]; rfl, ?_, ?_, hgf⟩
        · rw [← HQ.out]
          exact (HS.out.err 11).on (hgf.on P)
        · rw [← HQ.out]
          exact HR.out.on (hgf.on P)

  · rw [hf1] at hfk
    rw [hf2] at hq
    simp only at hq
    have HFK : Hid (∀ W', Gr W1 W' → Calls Try.prog 56 #[.slice a.A2 a.n2 a.c2, .string (bs nm)] W' (KRes (some e) W')) := Lib.hid (fun W' hg => hfk W' (HG1.out.trans hg))
    obtain ⟨r, hr⟩ : ∃ r, aliasU L st.u e.2.2 = r := ⟨_, rfl⟩
    have HAL : Hid (∀ W, Calls Try.prog 57 #[.agg #[.int .i64 L.d, .int .i64 L.n, .int .i64 L.b, .int .i64 L.a, .int .i64 L.x], .agg #[.int .i64 st.u.d, .int .i64 st.u.n, .int .i64 st.u.b, .int .i64 st.u.a, .int .i64 st.u.x], .int .i64 e.2.2] W (RU r W)) := Lib.hid (fun W => by rw [← hr]; exact aliasR_any L.d L.n L.b L.a L.x st.u.d st.u.n st.u.b st.u.a st.u.x e.2.2 W)
    rw [hr] at hq
    have HQ := Lib.hid hq
    have HNR := Lib.hid hnr
    clear hfk hf1 hf2 hq hcnt hr hnr
    obtain ⟨VS, hVS⟩ : ∃ VS : List (Nat × Nat × Value), VS = [(0, 12, .pointer (some ⟨p, 6, none⟩)), (1, 13, .slice a.A2 a.n2 a.c2), (2, 14, .pointer (some ⟨p + 1, 2, none⟩)), (3, 15, .string (bs v.x)), (4, 16, .string (bs nm)), (5, 17, .tuple #[.agg #[.string (bs e.1), .int .i64 e.2.1.k, .string (bs e.2.1.l), .string (bs e.2.1.x), .slice e.2.1.A e.2.1.n e.2.1.c, .string (bs e.2.1.e), .int .i64 e.2.2], .bool true]), (6, 11, .tuple #[.agg #[.string (bs e.1), .int .i64 e.2.1.k, .string (bs e.2.1.l), .string (bs e.2.1.x), .slice e.2.1.A e.2.1.n e.2.1.c, .string (bs e.2.1.e), .int .i64 e.2.2], .bool true]), (7, 18, .agg #[.string (bs e.1), .int .i64 e.2.1.k, .string (bs e.2.1.l), .string (bs e.2.1.x), .slice e.2.1.A e.2.1.n e.2.1.c, .string (bs e.2.1.e), .int .i64 e.2.2]), (8, 19, .bool true), (11, 8, .bool true)] := ⟨_, rfl⟩
    obtain ⟨US, hUS⟩ : ∃ US : List (Nat × Value), US = [(2, .pointer (some ⟨p, 0, none⟩)), (3, .pointer (some ⟨p + 1, 0, none⟩))] := ⟨_, rfl⟩
    refine wp_region_frame (by kernel_rfl) (by kernel_rfl) [12, 13, 14, 15, 16, 17, 11, 18, 19, 7, 8] (by simp) (Det VS US (fun B u w' => Gr W1 w' ∧ (B 10 = true → B 9 = true) ∧ (B 9 = true → ∃ pk cs, W1.heap.size ≤ pk ∧ u 7 = .pointer (some ⟨pk, 0, none⟩) ∧ w'.heap[pk]? = some (.cells cs 79 (0, 0)) ∧ cs = if B 10 = true then #[.string (bs e.1), .int .i64 e.2.1.k, .string (bs e.2.1.l), .string (bs e.2.1.x), .slice e.2.1.A e.2.1.n e.2.1.c, .string (bs e.2.1.e), .int .i64 e.2.2] else #[.string ⟨#[]⟩, .int .i64 0, .string ⟨#[]⟩, .string ⟨#[]⟩, .slice none 0 0, .string ⟨#[]⟩, .int .i64 0]))) ?_ ?_ ?_
    · exact Det.start (by rw [hUS]; simp [slot]) (⟨(Gr.refl _).drew, (fun h => by cases h), (fun h => by cases h)⟩)
    · intro B a' w' i o hfr hF ho hBi hdp
      have hi8 := (Array.getElem?_eq_some_iff.1 ho).1
      simp only [List.size_toArray, List.length_cons, List.length_nil] at hi8
      have hor : i = 0 ∨ i = 1 ∨ i = 2 ∨ i = 3 ∨ i = 4 ∨ i = 5 ∨ i = 6 ∨ i = 7 ∨ i = 8 ∨ i = 9 ∨ i = 10 ∨ i = 11 := by omega
      clear hi8
      rcases hor with rfl | rfl | rfl | rfl | rfl | rfl | rfl | rfl | rfl | rfl | rfl | rfl
      all_goals (
        simp only [List.getElem?_toArray, List.getElem?_cons_zero, List.getElem?_cons_succ, Option.some.injEq] at ho
        subst ho
        rw [if_pos (show Region.wanted _ _ = true from rfl)]
        refine wp_hideK ?_
        intro K hK)
      · have hFW := hF.wd
        have o2 := slot_spell (hF.had (d := 2) (v := .pointer (some ⟨p, 0, none⟩)) (by rw [hUS]; simp))
        go_simp
        exact hK.out _ _ (close_put hfr (d := 12) (by decide) (by simp) _ (F := fun u => Det VS US (fun B u w' => Gr W1 w' ∧ (B 10 = true → B 9 = true) ∧ (B 9 = true → ∃ pk cs, W1.heap.size ≤ pk ∧ u 7 = .pointer (some ⟨pk, 0, none⟩) ∧ w'.heap[pk]? = some (.cells cs 79 (0, 0)) ∧ cs = if B 10 = true then #[.string (bs e.1), .int .i64 e.2.1.k, .string (bs e.2.1.l), .string (bs e.2.1.x), .slice e.2.1.A e.2.1.n e.2.1.c, .string (bs e.2.1.e), .int .i64 e.2.2] else #[.string ⟨#[]⟩, .int .i64 0, .string ⟨#[]⟩, .string ⟨#[]⟩, .slice none 0 0, .string ⟨#[]⟩, .int .i64 0])) (upB B 0) u _) (hF.step (by rw [hVS]; simp) (by rw [hUS]; simp) (by simpa [upB, upV] using hFW)))
      · have hFW := hF.wd
        have hB0 : B 0 = true := hdp ⟨0, .data⟩ (by simp) (by rfl)
        have e0 := slot_spell (hF.get (i := 0) (d := 12) (v := .pointer (some ⟨p, 6, none⟩)) (by rw [hVS]; simp) hB0)
        have hb := (hFW.1.block p (lt_of_block HB2.out)).trans HB2.out
        have k6 := cell_of_cells hb 6
        have kl := lt_of_block hb
        go_simp
        exact hK.out _ _ (close_put hfr (d := 13) (by decide) (by simp) _ (F := fun u => Det VS US (fun B u w' => Gr W1 w' ∧ (B 10 = true → B 9 = true) ∧ (B 9 = true → ∃ pk cs, W1.heap.size ≤ pk ∧ u 7 = .pointer (some ⟨pk, 0, none⟩) ∧ w'.heap[pk]? = some (.cells cs 79 (0, 0)) ∧ cs = if B 10 = true then #[.string (bs e.1), .int .i64 e.2.1.k, .string (bs e.2.1.l), .string (bs e.2.1.x), .slice e.2.1.A e.2.1.n e.2.1.c, .string (bs e.2.1.e), .int .i64 e.2.2] else #[.string ⟨#[]⟩, .int .i64 0, .string ⟨#[]⟩, .string ⟨#[]⟩, .slice none 0 0, .string ⟨#[]⟩, .int .i64 0])) (upB B 1) u _) (hF.step (by rw [hVS]; simp) (by rw [hUS]; simp) (by simpa [upB, upV] using hFW)))
      · have hFW := hF.wd
        have o3 := slot_spell (hF.had (d := 3) (v := .pointer (some ⟨p + 1, 0, none⟩)) (by rw [hUS]; simp))
        go_simp
        exact hK.out _ _ (close_put hfr (d := 14) (by decide) (by simp) _ (F := fun u => Det VS US (fun B u w' => Gr W1 w' ∧ (B 10 = true → B 9 = true) ∧ (B 9 = true → ∃ pk cs, W1.heap.size ≤ pk ∧ u 7 = .pointer (some ⟨pk, 0, none⟩) ∧ w'.heap[pk]? = some (.cells cs 79 (0, 0)) ∧ cs = if B 10 = true then #[.string (bs e.1), .int .i64 e.2.1.k, .string (bs e.2.1.l), .string (bs e.2.1.x), .slice e.2.1.A e.2.1.n e.2.1.c, .string (bs e.2.1.e), .int .i64 e.2.2] else #[.string ⟨#[]⟩, .int .i64 0, .string ⟨#[]⟩, .string ⟨#[]⟩, .slice none 0 0, .string ⟨#[]⟩, .int .i64 0])) (upB B 2) u _) (hF.step (by rw [hVS]; simp) (by rw [hUS]; simp) (by simpa [upB, upV] using hFW)))
      · have hFW := hF.wd
        have hB2 : B 2 = true := hdp ⟨2, .data⟩ (by simp) (by rfl)
        have e2 := slot_spell (hF.get (i := 2) (d := 14) (v := .pointer (some ⟨p + 1, 2, none⟩)) (by rw [hVS]; simp) hB2)
        have hb := (hFW.1.block (p + 1) (lt_of_block HB3.out)).trans HB3.out
        have k6 := cell_of_cells hb 2
        have kl := lt_of_block hb
        go_simp
        exact hK.out _ _ (close_put hfr (d := 15) (by decide) (by simp) _ (F := fun u => Det VS US (fun B u w' => Gr W1 w' ∧ (B 10 = true → B 9 = true) ∧ (B 9 = true → ∃ pk cs, W1.heap.size ≤ pk ∧ u 7 = .pointer (some ⟨pk, 0, none⟩) ∧ w'.heap[pk]? = some (.cells cs 79 (0, 0)) ∧ cs = if B 10 = true then #[.string (bs e.1), .int .i64 e.2.1.k, .string (bs e.2.1.l), .string (bs e.2.1.x), .slice e.2.1.A e.2.1.n e.2.1.c, .string (bs e.2.1.e), .int .i64 e.2.2] else #[.string ⟨#[]⟩, .int .i64 0, .string ⟨#[]⟩, .string ⟨#[]⟩, .slice none 0 0, .string ⟨#[]⟩, .int .i64 0])) (upB B 3) u _) (hF.step (by rw [hVS]; simp) (by rw [hUS]; simp) (by simpa [upB, upV] using hFW)))
      · have hFW := hF.wd
        have hB3 : B 3 = true := hdp ⟨3, .data⟩ (by simp) (by rfl)
        have e3 := slot_spell (hF.get (i := 3) (d := 15) (v := .string (bs v.x)) (by rw [hVS]; simp) hB3)
        have yn := HEX.out
        have ys := HSZ.out
        go_simp
        rw [if_pos (show (1 : Int) ≤ (v.x.length : Int) by omega)]
        go_simp
        exact hK.out _ _ (close_put hfr (d := 16) (by decide) (by simp) _ (F := fun u => Det VS US (fun B u w' => Gr W1 w' ∧ (B 10 = true → B 9 = true) ∧ (B 9 = true → ∃ pk cs, W1.heap.size ≤ pk ∧ u 7 = .pointer (some ⟨pk, 0, none⟩) ∧ w'.heap[pk]? = some (.cells cs 79 (0, 0)) ∧ cs = if B 10 = true then #[.string (bs e.1), .int .i64 e.2.1.k, .string (bs e.2.1.l), .string (bs e.2.1.x), .slice e.2.1.A e.2.1.n e.2.1.c, .string (bs e.2.1.e), .int .i64 e.2.2] else #[.string ⟨#[]⟩, .int .i64 0, .string ⟨#[]⟩, .string ⟨#[]⟩, .slice none 0 0, .string ⟨#[]⟩, .int .i64 0])) (upB B 4) u _) (hF.step (by rw [hVS]; simp) (by rw [hUS]; simp) (by simpa [upB, upV] using hFW)))
      · have hFW := hF.wd
        have hB1 : B 1 = true := hdp ⟨1, .data⟩ (by simp) (by rfl)
        have e1 := slot_spell (hF.get (i := 1) (d := 13) (v := .slice a.A2 a.n2 a.c2) (by rw [hVS]; simp) hB1)
        have hB4 : B 4 = true := hdp ⟨4, .data⟩ (by simp) (by rfl)
        have e4 := slot_spell (hF.get (i := 4) (d := 16) (v := .string (bs nm)) (by rw [hVS]; simp) hB4)
        have HFF := Lib.hid hF
        have HFR := Lib.hid hfr
        have HFG := Lib.hid hFW
        clear hF hfr hFW hdp
        go_simp
        refine (HFK.out _ HFG.out.1).mono ?_
        rintro e' w2 ⟨rfl, hb2⟩
        have hF := HFF.out
        have hfr := HFR.out
        have hFW := HFG.out
        exact hK.out _ _ (close_put hfr (d := 17) (by decide) (by simp) _ (F := fun u => Det VS US (fun B u w' => Gr W1 w' ∧ (B 10 = true → B 9 = true) ∧ (B 9 = true → ∃ pk cs, W1.heap.size ≤ pk ∧ u 7 = .pointer (some ⟨pk, 0, none⟩) ∧ w'.heap[pk]? = some (.cells cs 79 (0, 0)) ∧ cs = if B 10 = true then #[.string (bs e.1), .int .i64 e.2.1.k, .string (bs e.2.1.l), .string (bs e.2.1.x), .slice e.2.1.A e.2.1.n e.2.1.c, .string (bs e.2.1.e), .int .i64 e.2.2] else #[.string ⟨#[]⟩, .int .i64 0, .string ⟨#[]⟩, .string ⟨#[]⟩, .slice none 0 0, .string ⟨#[]⟩, .int .i64 0])) (upB B 5) u _) (hF.step (by rw [hVS]; simp) (by rw [hUS]; simp) (⟨hFW.1.trans hb2, by simpa [upB] using hFW.2.1, fun h16 => (by
              obtain ⟨pk, cs, q1, q2, q3, q4⟩ := hFW.2.2 (by simpa [upB] using h16)
              exact ⟨pk, cs, q1, by simpa [upV] using q2, (hb2.block pk (lt_of_block q3)).trans q3, by simpa [upB] using q4⟩)⟩)))
      · have hFW := hF.wd
        have hB5 : B 5 = true := hdp ⟨5, .data⟩ (by simp) (by rfl)
        have e5 := slot_spell (hF.get (i := 5) (d := 17) (v := .tuple #[.agg #[.string (bs e.1), .int .i64 e.2.1.k, .string (bs e.2.1.l), .string (bs e.2.1.x), .slice e.2.1.A e.2.1.n e.2.1.c, .string (bs e.2.1.e), .int .i64 e.2.2], .bool true]) (by rw [hVS]; simp) hB5)
        go_simp
        exact hK.out _ _ (close_put hfr (d := 11) (by decide) (by simp) _ (F := fun u => Det VS US (fun B u w' => Gr W1 w' ∧ (B 10 = true → B 9 = true) ∧ (B 9 = true → ∃ pk cs, W1.heap.size ≤ pk ∧ u 7 = .pointer (some ⟨pk, 0, none⟩) ∧ w'.heap[pk]? = some (.cells cs 79 (0, 0)) ∧ cs = if B 10 = true then #[.string (bs e.1), .int .i64 e.2.1.k, .string (bs e.2.1.l), .string (bs e.2.1.x), .slice e.2.1.A e.2.1.n e.2.1.c, .string (bs e.2.1.e), .int .i64 e.2.2] else #[.string ⟨#[]⟩, .int .i64 0, .string ⟨#[]⟩, .string ⟨#[]⟩, .slice none 0 0, .string ⟨#[]⟩, .int .i64 0])) (upB B 6) u _) (hF.step (by rw [hVS]; simp) (by rw [hUS]; simp) (by simpa [upB, upV] using hFW)))
      · have hFW := hF.wd
        have hB6 : B 6 = true := hdp ⟨6, .data⟩ (by simp) (by rfl)
        have e6 := slot_spell (hF.get (i := 6) (d := 11) (v := .tuple #[.agg #[.string (bs e.1), .int .i64 e.2.1.k, .string (bs e.2.1.l), .string (bs e.2.1.x), .slice e.2.1.A e.2.1.n e.2.1.c, .string (bs e.2.1.e), .int .i64 e.2.2], .bool true]) (by rw [hVS]; simp) hB6)
        go_simp
        exact hK.out _ _ (close_put hfr (d := 18) (by decide) (by simp) _ (F := fun u => Det VS US (fun B u w' => Gr W1 w' ∧ (B 10 = true → B 9 = true) ∧ (B 9 = true → ∃ pk cs, W1.heap.size ≤ pk ∧ u 7 = .pointer (some ⟨pk, 0, none⟩) ∧ w'.heap[pk]? = some (.cells cs 79 (0, 0)) ∧ cs = if B 10 = true then #[.string (bs e.1), .int .i64 e.2.1.k, .string (bs e.2.1.l), .string (bs e.2.1.x), .slice e.2.1.A e.2.1.n e.2.1.c, .string (bs e.2.1.e), .int .i64 e.2.2] else #[.string ⟨#[]⟩, .int .i64 0, .string ⟨#[]⟩, .string ⟨#[]⟩, .slice none 0 0, .string ⟨#[]⟩, .int .i64 0])) (upB B 7) u _) (hF.step (by rw [hVS]; simp) (by rw [hUS]; simp) (by simpa [upB, upV] using hFW)))
      · have hFW := hF.wd
        have hB6 : B 6 = true := hdp ⟨6, .data⟩ (by simp) (by rfl)
        have e6 := slot_spell (hF.get (i := 6) (d := 11) (v := .tuple #[.agg #[.string (bs e.1), .int .i64 e.2.1.k, .string (bs e.2.1.l), .string (bs e.2.1.x), .slice e.2.1.A e.2.1.n e.2.1.c, .string (bs e.2.1.e), .int .i64 e.2.2], .bool true]) (by rw [hVS]; simp) hB6)
        go_simp
        exact hK.out _ _ (close_put hfr (d := 19) (by decide) (by simp) _ (F := fun u => Det VS US (fun B u w' => Gr W1 w' ∧ (B 10 = true → B 9 = true) ∧ (B 9 = true → ∃ pk cs, W1.heap.size ≤ pk ∧ u 7 = .pointer (some ⟨pk, 0, none⟩) ∧ w'.heap[pk]? = some (.cells cs 79 (0, 0)) ∧ cs = if B 10 = true then #[.string (bs e.1), .int .i64 e.2.1.k, .string (bs e.2.1.l), .string (bs e.2.1.x), .slice e.2.1.A e.2.1.n e.2.1.c, .string (bs e.2.1.e), .int .i64 e.2.2] else #[.string ⟨#[]⟩, .int .i64 0, .string ⟨#[]⟩, .string ⟨#[]⟩, .slice none 0 0, .string ⟨#[]⟩, .int .i64 0])) (upB B 8) u _) (hF.step (by rw [hVS]; simp) (by rw [hUS]; simp) (by simpa [upB, upV] using hFW)))
      · have hFW := hF.wd
        have h17n : ¬ B 10 = true := fun h => by rw [hFW.2.1 h] at hBi; cases hBi
        go_simp
        exact hK.out _ _ (close_put hfr (d := 7) (by decide) (by simp) _ (F := fun u => Det VS US (fun B u w' => Gr W1 w' ∧ (B 10 = true → B 9 = true) ∧ (B 9 = true → ∃ pk cs, W1.heap.size ≤ pk ∧ u 7 = .pointer (some ⟨pk, 0, none⟩) ∧ w'.heap[pk]? = some (.cells cs 79 (0, 0)) ∧ cs = if B 10 = true then #[.string (bs e.1), .int .i64 e.2.1.k, .string (bs e.2.1.l), .string (bs e.2.1.x), .slice e.2.1.A e.2.1.n e.2.1.c, .string (bs e.2.1.e), .int .i64 e.2.2] else #[.string ⟨#[]⟩, .int .i64 0, .string ⟨#[]⟩, .string ⟨#[]⟩, .slice none 0 0, .string ⟨#[]⟩, .int .i64 0])) (upB B 9) u _) (hF.step (by rw [hVS]; simp) (by rw [hUS]; simp) (⟨hFW.1.alloc _, fun h17 => by simp [upB], fun _ => ⟨_, _, Below.size hFW.1, by simp [upV], heap_alloc_new _ _, by rw [if_neg (by simpa [upB] using h17n)]⟩⟩)))
      · have hFW := hF.wd
        have hB7 : B 7 = true := hdp ⟨7, .data⟩ (by simp) (by rfl)
        have e7 := slot_spell (hF.get (i := 7) (d := 18) (v := .agg #[.string (bs e.1), .int .i64 e.2.1.k, .string (bs e.2.1.l), .string (bs e.2.1.x), .slice e.2.1.A e.2.1.n e.2.1.c, .string (bs e.2.1.e), .int .i64 e.2.2]) (by rw [hVS]; simp) hB7)
        have hB9 : B 9 = true := hdp ⟨9, .data⟩ (by simp) (by rfl)
        obtain ⟨pk, cs, q1, q2, q3, q4⟩ := hFW.2.2 hB9
        rw [if_neg (by rw [hBi]; decide)] at q4
        subst q4
        have e7 := slot_spell q2
        have y0 := cell_of_cells q3 0
        have f0 := free_of_cells q3 0
        have y1 := cell_of_cells q3 1
        have f1 := free_of_cells q3 1
        have y2 := cell_of_cells q3 2
        have f2 := free_of_cells q3 2
        have y3 := cell_of_cells q3 3
        have f3 := free_of_cells q3 3
        have y4 := cell_of_cells q3 4
        have f4 := free_of_cells q3 4
        have y5 := cell_of_cells q3 5
        have f5 := free_of_cells q3 5
        have y6 := cell_of_cells q3 6
        have f6 := free_of_cells q3 6
        have pl := lt_of_block q3
        go_simp
        exact hK.out _ _ (close_none hfr undef (F := fun u => Det VS US (fun B u w' => Gr W1 w' ∧ (B 10 = true → B 9 = true) ∧ (B 9 = true → ∃ pk cs, W1.heap.size ≤ pk ∧ u 7 = .pointer (some ⟨pk, 0, none⟩) ∧ w'.heap[pk]? = some (.cells cs 79 (0, 0)) ∧ cs = if B 10 = true then #[.string (bs e.1), .int .i64 e.2.1.k, .string (bs e.2.1.l), .string (bs e.2.1.x), .slice e.2.1.A e.2.1.n e.2.1.c, .string (bs e.2.1.e), .int .i64 e.2.2] else #[.string ⟨#[]⟩, .int .i64 0, .string ⟨#[]⟩, .string ⟨#[]⟩, .slice none 0 0, .string ⟨#[]⟩, .int .i64 0])) (upB B 10) u _) (hF.none (by rw [hVS]; simp) (⟨((((((hFW.1.setCell q1 _).setCell q1 _).setCell q1 _).setCell q1 _).setCell q1 _).setCell q1 _).setCell q1 _, fun _ => by simpa [upB] using hB9, fun _ => ⟨pk, _, q1, q2, seven_set q3 _ _ _ _ _ _ _, by simp [upB]⟩⟩)))
      · have hFW := hF.wd
        have hB8 : B 8 = true := hdp ⟨8, .data⟩ (by simp) (by rfl)
        have e8 := slot_spell (hF.get (i := 8) (d := 19) (v := .bool true) (by rw [hVS]; simp) hB8)
        go_simp
        exact hK.out _ _ (close_put hfr (d := 8) (by decide) (by simp) _ (F := fun u => Det VS US (fun B u w' => Gr W1 w' ∧ (B 10 = true → B 9 = true) ∧ (B 9 = true → ∃ pk cs, W1.heap.size ≤ pk ∧ u 7 = .pointer (some ⟨pk, 0, none⟩) ∧ w'.heap[pk]? = some (.cells cs 79 (0, 0)) ∧ cs = if B 10 = true then #[.string (bs e.1), .int .i64 e.2.1.k, .string (bs e.2.1.l), .string (bs e.2.1.x), .slice e.2.1.A e.2.1.n e.2.1.c, .string (bs e.2.1.e), .int .i64 e.2.2] else #[.string ⟨#[]⟩, .int .i64 0, .string ⟨#[]⟩, .string ⟨#[]⟩, .slice none 0 0, .string ⟨#[]⟩, .int .i64 0])) (upB B 11) u _) (hF.step (by rw [hVS]; simp) (by rw [hUS]; simp) (by simpa [upB, upV] using hFW)))
    · intro B u w' hall hF
      have z0 := hF.get (i := 0) (d := 12) (v := .pointer (some ⟨p, 6, none⟩)) (by rw [hVS]; simp) (hall 0 (by simp))
      have z1 := hF.get (i := 1) (d := 13) (v := .slice a.A2 a.n2 a.c2) (by rw [hVS]; simp) (hall 1 (by simp))
      have z2 := hF.get (i := 2) (d := 14) (v := .pointer (some ⟨p + 1, 2, none⟩)) (by rw [hVS]; simp) (hall 2 (by simp))
      have z3 := hF.get (i := 3) (d := 15) (v := .string (bs v.x)) (by rw [hVS]; simp) (hall 3 (by simp))
      have z4 := hF.get (i := 4) (d := 16) (v := .string (bs nm)) (by rw [hVS]; simp) (hall 4 (by simp))
      have z5 := hF.get (i := 5) (d := 17) (v := .tuple #[.agg #[.string (bs e.1), .int .i64 e.2.1.k, .string (bs e.2.1.l), .string (bs e.2.1.x), .slice e.2.1.A e.2.1.n e.2.1.c, .string (bs e.2.1.e), .int .i64 e.2.2], .bool true]) (by rw [hVS]; simp) (hall 5 (by simp))
      have z6 := hF.get (i := 6) (d := 11) (v := .tuple #[.agg #[.string (bs e.1), .int .i64 e.2.1.k, .string (bs e.2.1.l), .string (bs e.2.1.x), .slice e.2.1.A e.2.1.n e.2.1.c, .string (bs e.2.1.e), .int .i64 e.2.2], .bool true]) (by rw [hVS]; simp) (hall 6 (by simp))
      have z7 := hF.get (i := 7) (d := 18) (v := .agg #[.string (bs e.1), .int .i64 e.2.1.k, .string (bs e.2.1.l), .string (bs e.2.1.x), .slice e.2.1.A e.2.1.n e.2.1.c, .string (bs e.2.1.e), .int .i64 e.2.2]) (by rw [hVS]; simp) (hall 7 (by simp))
      have z8 := hF.get (i := 8) (d := 19) (v := .bool true) (by rw [hVS]; simp) (hall 8 (by simp))
      have z11 := hF.get (i := 11) (d := 8) (v := .bool true) (by rw [hVS]; simp) (hall 11 (by simp))
      have hFW := hF.wd
      clear hF hVS hUS
      simp only [List.foldl_cons, List.foldl_nil, Act.put, List.setIfInBounds_toArray, List.set_cons_zero, List.set_cons_succ, z0, z1, z2, z3, z4, z5, z6, z7, z8, z11]
      clear z0 z1 z2 z3 z4 z5 z6 z7 z8 z11
      obtain ⟨hg, _, hp7⟩ := hFW
      obtain ⟨pk, cs, q1, q2, q3, q4⟩ := hp7 (hall 9 (by simp))
      rw [if_pos (hall 10 (by simp))] at q4
      subst q4
      rw [q2]
      have hb2 := (hg.block p (lt_of_block HB2.out)).trans HB2.out
      have k0 := cell_of_cells hb2 0
      have k1 := cell_of_cells hb2 1
      have k2 := cell_of_cells hb2 2
      have k3 := cell_of_cells hb2 3
      have k4 := cell_of_cells hb2 4
      have k5 := cell_of_cells hb2 5
      have k6 := cell_of_cells hb2 6
      have k7 := cell_of_cells hb2 7
      have k8 := cell_of_cells hb2 8
      have k9 := cell_of_cells hb2 9
      have k10 := cell_of_cells hb2 10
      have k11 := cell_of_cells hb2 11
      have k12 := cell_of_cells hb2 12
      have kl := lt_of_block hb2
      have x6 := cell_of_cells q3 6
      have xl := lt_of_block q3
      have HX1 := Lib.hid hb2
      have HGW := Lib.hid hg
      have HKB := Lib.hid q3
      have HPK : Hid (p + 4 ≤ pk) := Lib.hid (Nat.le_trans (lt_of_block HB5.out) q1)
      clear hall hp7 q1 q2 q3 hg hb2 HFK
      go_wp2_with fail
      refine (HAL.out _).mono ?_
      rintro e' w2 ⟨rfl, hb2⟩
      have hgw := HGW.out.trans hb2
      have HX1' := Lib.hid ((hb2.block _ (lt_of_block HX1.out)).trans HX1.out)
      have HKB' := Lib.hid ((hb2.block _ (lt_of_block HKB.out)).trans HKB.out)
      have k12 := cell_of_cells HX1'.out 12
      have kf12 := free_of_cells HX1'.out 12
      have kl := lt_of_block HX1'.out
      have HGW' := Lib.hid hgw
      clear hb2 hgw x6 xl k0 k1 k2 k3 k4 k5 k6 k7 k8 k9 k10 k11 HX1 HKB HGW HAL
      by_cases hz : r.c = 0
      · have hz2 : (r.c != 0) = false := by simp [hz]
        rw [if_pos hz] at HQ
        clear hz
        have m7 := cell_of_cells HX1'.out 7
        have mf7 := free_of_cells HX1'.out 7
        have m8 := cell_of_cells HX1'.out 8
        have mf8 := free_of_cells HX1'.out 8
        have m9 := cell_of_cells HX1'.out 9
        have mf9 := free_of_cells HX1'.out 9
        have m10 := cell_of_cells HX1'.out 10
        have mf10 := free_of_cells HX1'.out 10
        have m11 := cell_of_cells HX1'.out 11
        have mf11 := free_of_cells HX1'.out 11
        go_wp2_with fail
        have hgw := HGW'.out
        have hp := HP.out
        have hpk := HPK.out
        have hls : p + 4 ≤ w2.heap.size := Nat.le_trans (lt_of_block HB5.out) (Below.size hgw)
        obtain ⟨W0, hW0⟩ : ∃ W0, W0 = ((((((w2.setCell ⟨p, 7, none⟩ (.int .i64 r.d)).setCell ⟨p, 8, none⟩ (.int .i64 r.n)).setCell ⟨p, 9, none⟩ (.int .i64 r.b)).setCell ⟨p, 10, none⟩ (.int .i64 r.a)).setCell ⟨p, 11, none⟩ (.int .i64 r.x)).alloc (.cells #[.int .i64 r.d, .int .i64 r.n, .int .i64 r.b, .int .i64 r.a, .int .i64 r.x] 36)) := ⟨_, rfl⟩
        try rw [← hW0]
        have HX2 : Hid (W0.heap[p]? = some (.cells #[.int .i64 L.d, .int .i64 L.n, .int .i64 L.b, .int .i64 L.a, .int .i64 L.x, .slice a.A1 a.n1 a.c1, .slice a.A2 a.n2 a.c2, .int .i64 r.d, .int .i64 r.n, .int .i64 r.b, .int .i64 r.a, .int .i64 r.x, .int .i64 st.err] 68 (0, 0))) := Lib.hid (by rw [hW0]; rw [heapOldR (by simp; omega)]; exact cells_set (cells_set (cells_set (cells_set (cells_set HX1'.out _) _) _) _) _)
        have HX3 : Hid (W0.heap[p + 1]? = some (.cells #[.int .i64 v.k, .string (bs v.l), .string (bs v.x), .slice v.A v.n v.c, .string (bs v.e)] 24 (0, 0))) := Lib.hid (by rw [hW0]; rw [heapOldR (by simp; omega)]; (repeat (rw [heap_set_other (by simp)])); exact ((hgw.block (p + 1) (lt_of_block HB3.out)).trans HB3.out))
        have HZ6 : Hid (W0.heap[p + 1 + 1]? = some (.cells #[.int .i64 0, .int .i64 0, .int .i64 0, .int .i64 0, .int .i64 0, .slice none 0 0, .slice none 0 0, .int .i64 0, .int .i64 0, .int .i64 0, .int .i64 0, .int .i64 0, .int .i64 0] 68 (0, 0))) := Lib.hid (by rw [hW0]; rw [heapOldR (by simp; omega)]; (repeat (rw [heap_set_other (by simp; omega)])); exact ((hgw.block (p + 1 + 1) (lt_of_block HB4.out)).trans HB4.out))
        have HZ7 : Hid (W0.heap[p + 1 + 1 + 1]? = some (.cells #[.int .i64 0, .string ⟨#[]⟩, .string ⟨#[]⟩, .slice none 0 0, .string ⟨#[]⟩] 24 (0, 0))) := Lib.hid (by rw [hW0]; rw [heapOldR (by simp; omega)]; (repeat (rw [heap_set_other (by simp; omega)])); exact ((hgw.block (p + 1 + 1 + 1) (lt_of_block HB5.out)).trans HB5.out))
        have HGR0 : Hid (Gr w W0) := Lib.hid (by rw [hW0]; exact ((((((HG1.out.trans hgw).setCell (by simp; omega) _).setCell (by simp; omega) _).setCell (by simp; omega) _).setCell (by simp; omega) _).setCell (by simp; omega) _).alloc _)
        have HX7 : Hid (W0.heap[pk]? = some (.cells #[.string (bs e.1), .int .i64 e.2.1.k, .string (bs e.2.1.l), .string (bs e.2.1.x), .slice e.2.1.A e.2.1.n e.2.1.c, .string (bs e.2.1.e), .int .i64 e.2.2] 79 (0, 0))) := Lib.hid (by rw [hW0]; rw [heapOldR (by have := lt_of_block HKB'.out; simp; omega)]; (repeat (rw [heap_set_other (by simp; omega)])); exact HKB'.out)
        clear hW0 k12 kf12 kl HX1' HGW' HKB' hgw hp hls hpk m7 mf7 m8 mf8 m9 mf9 m10 mf10 m11 mf11
        obtain ⟨VS, hVS⟩ : ∃ VS : List (Nat × Nat × Value), VS = [(0, 43, .agg #[.int .i64 L.d, .int .i64 L.n, .int .i64 L.b, .int .i64 L.a, .int .i64 L.x, .slice a.A1 a.n1 a.c1, .slice a.A2 a.n2 a.c2, .int .i64 r.d, .int .i64 r.n, .int .i64 r.b, .int .i64 r.a, .int .i64 r.x, .int .i64 st.err]), (1, 44, .pointer (some ⟨pk, 1, none⟩)), (2, 45, .agg #[.int .i64 e.2.1.k, .string (bs e.2.1.l), .string (bs e.2.1.x), .slice e.2.1.A e.2.1.n e.2.1.c, .string (bs e.2.1.e)]), (3, 46, .pointer (some ⟨pk, 6, none⟩)), (4, 47, .int .i64 e.2.2), (7, 6, .int .i64 e.2.2)] := ⟨_, rfl⟩
        obtain ⟨US, hUS⟩ : ∃ US : List (Nat × Value), US = [(2, .pointer (some ⟨p, 0, none⟩)), (7, .pointer (some ⟨pk, 0, none⟩)), (4, .pointer (some ⟨p + 1 + 1, 0, none⟩)), (5, .pointer (some ⟨p + 1 + 1 + 1, 0, none⟩))] := ⟨_, rfl⟩
        refine wp_region_frame (by kernel_rfl) (by kernel_rfl) [43, 44, 45, 46, 47, 6] (by simp) (Det VS US (fun B _ w' => CP w W0 (p + 1 + 1) (p + 1 + 1 + 1) #[.int .i64 L.d, .int .i64 L.n, .int .i64 L.b, .int .i64 L.a, .int .i64 L.x, .slice a.A1 a.n1 a.c1, .slice a.A2 a.n2 a.c2, .int .i64 r.d, .int .i64 r.n, .int .i64 r.b, .int .i64 r.a, .int .i64 r.x, .int .i64 st.err] #[.int .i64 0, .int .i64 0, .int .i64 0, .int .i64 0, .int .i64 0, .slice none 0 0, .slice none 0 0, .int .i64 0, .int .i64 0, .int .i64 0, .int .i64 0, .int .i64 0, .int .i64 0] #[.int .i64 e.2.1.k, .string (bs e.2.1.l), .string (bs e.2.1.x), .slice e.2.1.A e.2.1.n e.2.1.c, .string (bs e.2.1.e)] #[.int .i64 0, .string ⟨#[]⟩, .string ⟨#[]⟩, .slice none 0 0, .string ⟨#[]⟩] 5 6 B w')) ?_ ?_ ?_
        · exact Det.start (by rw [hUS]; simp [slot]) (CP.start HGR0.out.drew (Off.gr ((Gr.refl _).drew)) HZ6.out HZ7.out)
        · intro B a' w' i o hfr hF ho hBi hdp
          have hi8 := (Array.getElem?_eq_some_iff.1 ho).1
          simp only [List.size_toArray, List.length_cons, List.length_nil] at hi8
          have hor : i = 0 ∨ i = 1 ∨ i = 2 ∨ i = 3 ∨ i = 4 ∨ i = 5 ∨ i = 6 ∨ i = 7 := by omega
          clear hi8
          rcases hor with rfl | rfl | rfl | rfl | rfl | rfl | rfl | rfl
          all_goals (
            simp only [List.getElem?_toArray, List.getElem?_cons_zero, List.getElem?_cons_succ, Option.some.injEq] at ho
            subst ho
            rw [if_pos (show Region.wanted _ _ = true from rfl)]
            refine wp_hideK ?_
            intro K hK)
          · have hFW := hF.wd
            have o2 := slot_spell (hF.had (d := 2) (v := .pointer (some ⟨p, 0, none⟩)) (by rw [hUS]; simp))
            have hb := hFW.off.block HX2.out (by simp; try omega)
            have k0 := cell_of_cells hb 0
            have k1 := cell_of_cells hb 1
            have k2 := cell_of_cells hb 2
            have k3 := cell_of_cells hb 3
            have k4 := cell_of_cells hb 4
            have k5 := cell_of_cells hb 5
            have k6 := cell_of_cells hb 6
            have k7 := cell_of_cells hb 7
            have k8 := cell_of_cells hb 8
            have k9 := cell_of_cells hb 9
            have k10 := cell_of_cells hb 10
            have k11 := cell_of_cells hb 11
            have k12 := cell_of_cells hb 12
            have kl := lt_of_block hb
            go_simp
            exact hK.out _ _ (close_put hfr (d := 43) (by decide) (by simp) _ (F := fun u => Det VS US (fun B _ w' => CP w W0 (p + 1 + 1) (p + 1 + 1 + 1) #[.int .i64 L.d, .int .i64 L.n, .int .i64 L.b, .int .i64 L.a, .int .i64 L.x, .slice a.A1 a.n1 a.c1, .slice a.A2 a.n2 a.c2, .int .i64 r.d, .int .i64 r.n, .int .i64 r.b, .int .i64 r.a, .int .i64 r.x, .int .i64 st.err] #[.int .i64 0, .int .i64 0, .int .i64 0, .int .i64 0, .int .i64 0, .slice none 0 0, .slice none 0 0, .int .i64 0, .int .i64 0, .int .i64 0, .int .i64 0, .int .i64 0, .int .i64 0] #[.int .i64 e.2.1.k, .string (bs e.2.1.l), .string (bs e.2.1.x), .slice e.2.1.A e.2.1.n e.2.1.c, .string (bs e.2.1.e)] #[.int .i64 0, .string ⟨#[]⟩, .string ⟨#[]⟩, .slice none 0 0, .string ⟨#[]⟩] 5 6 B w') (upB B 0) u _) (hF.step (by rw [hVS]; simp) (by rw [hUS]; simp) (hFW.skip (by decide) (by decide))))
          · have hFW := hF.wd
            have o7 := slot_spell (hF.had (d := 7) (v := .pointer (some ⟨pk, 0, none⟩)) (by rw [hUS]; simp))
            go_simp
            exact hK.out _ _ (close_put hfr (d := 44) (by decide) (by simp) _ (F := fun u => Det VS US (fun B _ w' => CP w W0 (p + 1 + 1) (p + 1 + 1 + 1) #[.int .i64 L.d, .int .i64 L.n, .int .i64 L.b, .int .i64 L.a, .int .i64 L.x, .slice a.A1 a.n1 a.c1, .slice a.A2 a.n2 a.c2, .int .i64 r.d, .int .i64 r.n, .int .i64 r.b, .int .i64 r.a, .int .i64 r.x, .int .i64 st.err] #[.int .i64 0, .int .i64 0, .int .i64 0, .int .i64 0, .int .i64 0, .slice none 0 0, .slice none 0 0, .int .i64 0, .int .i64 0, .int .i64 0, .int .i64 0, .int .i64 0, .int .i64 0] #[.int .i64 e.2.1.k, .string (bs e.2.1.l), .string (bs e.2.1.x), .slice e.2.1.A e.2.1.n e.2.1.c, .string (bs e.2.1.e)] #[.int .i64 0, .string ⟨#[]⟩, .string ⟨#[]⟩, .slice none 0 0, .string ⟨#[]⟩] 5 6 B w') (upB B 1) u _) (hF.step (by rw [hVS]; simp) (by rw [hUS]; simp) (hFW.skip (by decide) (by decide))))
          · have hFW := hF.wd
            have hB1 : B 1 = true := hdp ⟨1, .data⟩ (by simp) (by rfl)
            have e1 := slot_spell (hF.get (i := 1) (d := 44) (v := .pointer (some ⟨pk, 1, none⟩)) (by rw [hVS]; simp) hB1)
            have hpk := HPK.out
            have hb := hFW.off.block HX7.out (by simp; omega)
            have k0 := cell_of_cells hb 0
            have k1 := cell_of_cells hb 1
            have k2 := cell_of_cells hb 2
            have k3 := cell_of_cells hb 3
            have k4 := cell_of_cells hb 4
            have k5 := cell_of_cells hb 5
            have k6 := cell_of_cells hb 6
            have kl := lt_of_block hb
            go_simp
            exact hK.out _ _ (close_put hfr (d := 45) (by decide) (by simp) _ (F := fun u => Det VS US (fun B _ w' => CP w W0 (p + 1 + 1) (p + 1 + 1 + 1) #[.int .i64 L.d, .int .i64 L.n, .int .i64 L.b, .int .i64 L.a, .int .i64 L.x, .slice a.A1 a.n1 a.c1, .slice a.A2 a.n2 a.c2, .int .i64 r.d, .int .i64 r.n, .int .i64 r.b, .int .i64 r.a, .int .i64 r.x, .int .i64 st.err] #[.int .i64 0, .int .i64 0, .int .i64 0, .int .i64 0, .int .i64 0, .slice none 0 0, .slice none 0 0, .int .i64 0, .int .i64 0, .int .i64 0, .int .i64 0, .int .i64 0, .int .i64 0] #[.int .i64 e.2.1.k, .string (bs e.2.1.l), .string (bs e.2.1.x), .slice e.2.1.A e.2.1.n e.2.1.c, .string (bs e.2.1.e)] #[.int .i64 0, .string ⟨#[]⟩, .string ⟨#[]⟩, .slice none 0 0, .string ⟨#[]⟩] 5 6 B w') (upB B 2) u _) (hF.step (by rw [hVS]; simp) (by rw [hUS]; simp) (hFW.skip (by decide) (by decide))))
          · have hFW := hF.wd
            have o7 := slot_spell (hF.had (d := 7) (v := .pointer (some ⟨pk, 0, none⟩)) (by rw [hUS]; simp))
            go_simp
            exact hK.out _ _ (close_put hfr (d := 46) (by decide) (by simp) _ (F := fun u => Det VS US (fun B _ w' => CP w W0 (p + 1 + 1) (p + 1 + 1 + 1) #[.int .i64 L.d, .int .i64 L.n, .int .i64 L.b, .int .i64 L.a, .int .i64 L.x, .slice a.A1 a.n1 a.c1, .slice a.A2 a.n2 a.c2, .int .i64 r.d, .int .i64 r.n, .int .i64 r.b, .int .i64 r.a, .int .i64 r.x, .int .i64 st.err] #[.int .i64 0, .int .i64 0, .int .i64 0, .int .i64 0, .int .i64 0, .slice none 0 0, .slice none 0 0, .int .i64 0, .int .i64 0, .int .i64 0, .int .i64 0, .int .i64 0, .int .i64 0] #[.int .i64 e.2.1.k, .string (bs e.2.1.l), .string (bs e.2.1.x), .slice e.2.1.A e.2.1.n e.2.1.c, .string (bs e.2.1.e)] #[.int .i64 0, .string ⟨#[]⟩, .string ⟨#[]⟩, .slice none 0 0, .string ⟨#[]⟩] 5 6 B w') (upB B 3) u _) (hF.step (by rw [hVS]; simp) (by rw [hUS]; simp) (hFW.skip (by decide) (by decide))))
          · have hFW := hF.wd
            have hB3 : B 3 = true := hdp ⟨3, .data⟩ (by simp) (by rfl)
            have e3 := slot_spell (hF.get (i := 3) (d := 46) (v := .pointer (some ⟨pk, 6, none⟩)) (by rw [hVS]; simp) hB3)
            have hpk := HPK.out
            have hb := hFW.off.block HX7.out (by simp; omega)
            have k0 := cell_of_cells hb 0
            have k1 := cell_of_cells hb 1
            have k2 := cell_of_cells hb 2
            have k3 := cell_of_cells hb 3
            have k4 := cell_of_cells hb 4
            have k5 := cell_of_cells hb 5
            have k6 := cell_of_cells hb 6
            have kl := lt_of_block hb
            go_simp
            exact hK.out _ _ (close_put hfr (d := 47) (by decide) (by simp) _ (F := fun u => Det VS US (fun B _ w' => CP w W0 (p + 1 + 1) (p + 1 + 1 + 1) #[.int .i64 L.d, .int .i64 L.n, .int .i64 L.b, .int .i64 L.a, .int .i64 L.x, .slice a.A1 a.n1 a.c1, .slice a.A2 a.n2 a.c2, .int .i64 r.d, .int .i64 r.n, .int .i64 r.b, .int .i64 r.a, .int .i64 r.x, .int .i64 st.err] #[.int .i64 0, .int .i64 0, .int .i64 0, .int .i64 0, .int .i64 0, .slice none 0 0, .slice none 0 0, .int .i64 0, .int .i64 0, .int .i64 0, .int .i64 0, .int .i64 0, .int .i64 0] #[.int .i64 e.2.1.k, .string (bs e.2.1.l), .string (bs e.2.1.x), .slice e.2.1.A e.2.1.n e.2.1.c, .string (bs e.2.1.e)] #[.int .i64 0, .string ⟨#[]⟩, .string ⟨#[]⟩, .slice none 0 0, .string ⟨#[]⟩] 5 6 B w') (upB B 4) u _) (hF.step (by rw [hVS]; simp) (by rw [hUS]; simp) (hFW.skip (by decide) (by decide))))
          · have hFW := hF.wd
            have hB0 : B 0 = true := hdp ⟨0, .data⟩ (by simp) (by rfl)
            have e0 := slot_spell (hF.get (i := 0) (d := 43) (v := .agg #[.int .i64 L.d, .int .i64 L.n, .int .i64 L.b, .int .i64 L.a, .int .i64 L.x, .slice a.A1 a.n1 a.c1, .slice a.A2 a.n2 a.c2, .int .i64 r.d, .int .i64 r.n, .int .i64 r.b, .int .i64 r.a, .int .i64 r.x, .int .i64 st.err]) (by rw [hVS]; simp) hB0)
            have o4 := slot_spell (hF.had (d := 4) (v := .pointer (some ⟨p + 1 + 1, 0, none⟩)) (by rw [hUS]; simp))
            have q6 := hFW.b6
            rw [if_neg (by rw [hBi]; decide)] at q6
            have y0 := cell_of_cells q6 0
            have yf0 := free_of_cells q6 0
            have y1 := cell_of_cells q6 1
            have yf1 := free_of_cells q6 1
            have y2 := cell_of_cells q6 2
            have yf2 := free_of_cells q6 2
            have y3 := cell_of_cells q6 3
            have yf3 := free_of_cells q6 3
            have y4 := cell_of_cells q6 4
            have yf4 := free_of_cells q6 4
            have y5 := cell_of_cells q6 5
            have yf5 := free_of_cells q6 5
            have y6 := cell_of_cells q6 6
            have yf6 := free_of_cells q6 6
            have y7 := cell_of_cells q6 7
            have yf7 := free_of_cells q6 7
            have y8 := cell_of_cells q6 8
            have yf8 := free_of_cells q6 8
            have y9 := cell_of_cells q6 9
            have yf9 := free_of_cells q6 9
            have y10 := cell_of_cells q6 10
            have yf10 := free_of_cells q6 10
            have y11 := cell_of_cells q6 11
            have yf11 := free_of_cells q6 11
            have y12 := cell_of_cells q6 12
            have yf12 := free_of_cells q6 12
            have yl := lt_of_block q6
            go_simp
            exact hK.out _ _ (close_none hfr undef (F := fun u => Det VS US (fun B _ w' => CP w W0 (p + 1 + 1) (p + 1 + 1 + 1) #[.int .i64 L.d, .int .i64 L.n, .int .i64 L.b, .int .i64 L.a, .int .i64 L.x, .slice a.A1 a.n1 a.c1, .slice a.A2 a.n2 a.c2, .int .i64 r.d, .int .i64 r.n, .int .i64 r.b, .int .i64 r.a, .int .i64 r.x, .int .i64 st.err] #[.int .i64 0, .int .i64 0, .int .i64 0, .int .i64 0, .int .i64 0, .slice none 0 0, .slice none 0 0, .int .i64 0, .int .i64 0, .int .i64 0, .int .i64 0, .int .i64 0, .int .i64 0] #[.int .i64 e.2.1.k, .string (bs e.2.1.l), .string (bs e.2.1.x), .slice e.2.1.A e.2.1.n e.2.1.c, .string (bs e.2.1.e)] #[.int .i64 0, .string ⟨#[]⟩, .string ⟨#[]⟩, .slice none 0 0, .string ⟨#[]⟩] 5 6 B w') (upB B 5) u _) (hF.none (by rw [hVS]; simp) (hFW.s6 hBi (by decide) (by omega) (by have hp := HP.out; omega) rfl rfl)))
          · have hFW := hF.wd
            have hB2 : B 2 = true := hdp ⟨2, .data⟩ (by simp) (by rfl)
            have e2 := slot_spell (hF.get (i := 2) (d := 45) (v := .agg #[.int .i64 e.2.1.k, .string (bs e.2.1.l), .string (bs e.2.1.x), .slice e.2.1.A e.2.1.n e.2.1.c, .string (bs e.2.1.e)]) (by rw [hVS]; simp) hB2)
            have o5 := slot_spell (hF.had (d := 5) (v := .pointer (some ⟨p + 1 + 1 + 1, 0, none⟩)) (by rw [hUS]; simp))
            have q7 := hFW.b7
            rw [if_neg (by rw [hBi]; decide)] at q7
            have y0 := cell_of_cells q7 0
            have yf0 := free_of_cells q7 0
            have y1 := cell_of_cells q7 1
            have yf1 := free_of_cells q7 1
            have y2 := cell_of_cells q7 2
            have yf2 := free_of_cells q7 2
            have y3 := cell_of_cells q7 3
            have yf3 := free_of_cells q7 3
            have y4 := cell_of_cells q7 4
            have yf4 := free_of_cells q7 4
            have yl := lt_of_block q7
            go_simp
            exact hK.out _ _ (close_none hfr undef (F := fun u => Det VS US (fun B _ w' => CP w W0 (p + 1 + 1) (p + 1 + 1 + 1) #[.int .i64 L.d, .int .i64 L.n, .int .i64 L.b, .int .i64 L.a, .int .i64 L.x, .slice a.A1 a.n1 a.c1, .slice a.A2 a.n2 a.c2, .int .i64 r.d, .int .i64 r.n, .int .i64 r.b, .int .i64 r.a, .int .i64 r.x, .int .i64 st.err] #[.int .i64 0, .int .i64 0, .int .i64 0, .int .i64 0, .int .i64 0, .slice none 0 0, .slice none 0 0, .int .i64 0, .int .i64 0, .int .i64 0, .int .i64 0, .int .i64 0, .int .i64 0] #[.int .i64 e.2.1.k, .string (bs e.2.1.l), .string (bs e.2.1.x), .slice e.2.1.A e.2.1.n e.2.1.c, .string (bs e.2.1.e)] #[.int .i64 0, .string ⟨#[]⟩, .string ⟨#[]⟩, .slice none 0 0, .string ⟨#[]⟩] 5 6 B w') (upB B 6) u _) (hF.none (by rw [hVS]; simp) (hFW.s7 hBi (by decide) (by omega) (by have hp := HP.out; omega) rfl rfl)))
          · have hFW := hF.wd
            have hB4 : B 4 = true := hdp ⟨4, .data⟩ (by simp) (by rfl)
            have e4 := slot_spell (hF.get (i := 4) (d := 47) (v := .int .i64 e.2.2) (by rw [hVS]; simp) hB4)
            go_simp
            exact hK.out _ _ (close_put hfr (d := 6) (by decide) (by simp) _ (F := fun u => Det VS US (fun B _ w' => CP w W0 (p + 1 + 1) (p + 1 + 1 + 1) #[.int .i64 L.d, .int .i64 L.n, .int .i64 L.b, .int .i64 L.a, .int .i64 L.x, .slice a.A1 a.n1 a.c1, .slice a.A2 a.n2 a.c2, .int .i64 r.d, .int .i64 r.n, .int .i64 r.b, .int .i64 r.a, .int .i64 r.x, .int .i64 st.err] #[.int .i64 0, .int .i64 0, .int .i64 0, .int .i64 0, .int .i64 0, .slice none 0 0, .slice none 0 0, .int .i64 0, .int .i64 0, .int .i64 0, .int .i64 0, .int .i64 0, .int .i64 0] #[.int .i64 e.2.1.k, .string (bs e.2.1.l), .string (bs e.2.1.x), .slice e.2.1.A e.2.1.n e.2.1.c, .string (bs e.2.1.e)] #[.int .i64 0, .string ⟨#[]⟩, .string ⟨#[]⟩, .slice none 0 0, .string ⟨#[]⟩] 5 6 B w') (upB B 7) u _) (hF.step (by rw [hVS]; simp) (by rw [hUS]; simp) (hFW.skip (by decide) (by decide))))
        · intro B u w' hall hF
          have z0 := hF.get (i := 0) (d := 43) (v := .agg #[.int .i64 L.d, .int .i64 L.n, .int .i64 L.b, .int .i64 L.a, .int .i64 L.x, .slice a.A1 a.n1 a.c1, .slice a.A2 a.n2 a.c2, .int .i64 r.d, .int .i64 r.n, .int .i64 r.b, .int .i64 r.a, .int .i64 r.x, .int .i64 st.err]) (by rw [hVS]; simp) (hall 0 (by simp))
          have z1 := hF.get (i := 1) (d := 44) (v := .pointer (some ⟨pk, 1, none⟩)) (by rw [hVS]; simp) (hall 1 (by simp))
          have z2 := hF.get (i := 2) (d := 45) (v := .agg #[.int .i64 e.2.1.k, .string (bs e.2.1.l), .string (bs e.2.1.x), .slice e.2.1.A e.2.1.n e.2.1.c, .string (bs e.2.1.e)]) (by rw [hVS]; simp) (hall 2 (by simp))
          have z3 := hF.get (i := 3) (d := 46) (v := .pointer (some ⟨pk, 6, none⟩)) (by rw [hVS]; simp) (hall 3 (by simp))
          have z4 := hF.get (i := 4) (d := 47) (v := .int .i64 e.2.2) (by rw [hVS]; simp) (hall 4 (by simp))
          have z7 := hF.get (i := 7) (d := 6) (v := .int .i64 e.2.2) (by rw [hVS]; simp) (hall 7 (by simp))
          have hFW := hF.wd
          clear hF hVS hUS
          simp only [List.foldl_cons, List.foldl_nil, Act.put, List.setIfInBounds_toArray, List.set_cons_zero, List.set_cons_succ, z0, z1, z2, z3, z4, z7]
          clear z0 z1 z2 z3 z4 z7
          have hp := HP.out
          have q6 := hFW.b6
          have q7 := hFW.b7
          have hgf := hFW.gr
          have hof := hFW.off
          rw [if_pos (hall 5 (by simp))] at q6
          rw [if_pos (hall 6 (by simp))] at q7
          clear hall hFW
          go_wp2_with fail
          refine bodyPost_ret (results_state rfl _ _ _ _ _ _ rfl rfl rfl q6 rfl q7) rfl ⟨a, e.2.1, by rw [← HQ.out]; rfl, ?_, ?_, hgf⟩
          · rw [← HQ.out]
            exact (HS.out.use _).on (hgf.on P)
          · rw [← HQ.out]
            exact HNR.out.on (hgf.on P)

      · have hz2 : (r.c != 0) = true := by simp [hz]
        rw [if_neg hz] at HQ
        clear hz
        go_wp2_with fail
        have hgw := HGW'.out
        have hp := HP.out
        have hls : p + 4 ≤ w2.heap.size := Nat.le_trans (lt_of_block HB5.out) (Below.size hgw)
        obtain ⟨W0, hW0⟩ : ∃ W0, W0 = ((w2.setCell ⟨p, 12, none⟩ (.int .i64 r.c)).alloc (.cells #[.int .i64 r.d, .int .i64 r.n, .int .i64 r.b, .int .i64 r.a, .int .i64 r.x] 36)) := ⟨_, rfl⟩
        try rw [← hW0]
        have HX2 : Hid (W0.heap[p]? = some (.cells #[.int .i64 L.d, .int .i64 L.n, .int .i64 L.b, .int .i64 L.a, .int .i64 L.x, .slice a.A1 a.n1 a.c1, .slice a.A2 a.n2 a.c2, .int .i64 st.u.d, .int .i64 st.u.n, .int .i64 st.u.b, .int .i64 st.u.a, .int .i64 st.u.x, .int .i64 r.c] 68 (0, 0))) := Lib.hid (by rw [hW0]; rw [heapOldR (by simp; omega)]; exact cells_set HX1'.out _)
        have HX3 : Hid (W0.heap[p + 1]? = some (.cells #[.int .i64 v.k, .string (bs v.l), .string (bs v.x), .slice v.A v.n v.c, .string (bs v.e)] 24 (0, 0))) := Lib.hid (by rw [hW0]; rw [heapOldR (by simp; omega)]; (repeat (rw [heap_set_other (by simp)])); exact ((hgw.block (p + 1) (lt_of_block HB3.out)).trans HB3.out))
        have HZ6 : Hid (W0.heap[p + 1 + 1]? = some (.cells #[.int .i64 0, .int .i64 0, .int .i64 0, .int .i64 0, .int .i64 0, .slice none 0 0, .slice none 0 0, .int .i64 0, .int .i64 0, .int .i64 0, .int .i64 0, .int .i64 0, .int .i64 0] 68 (0, 0))) := Lib.hid (by rw [hW0]; rw [heapOldR (by simp; omega)]; (repeat (rw [heap_set_other (by simp; omega)])); exact ((hgw.block (p + 1 + 1) (lt_of_block HB4.out)).trans HB4.out))
        have HZ7 : Hid (W0.heap[p + 1 + 1 + 1]? = some (.cells #[.int .i64 0, .string ⟨#[]⟩, .string ⟨#[]⟩, .slice none 0 0, .string ⟨#[]⟩] 24 (0, 0))) := Lib.hid (by rw [hW0]; rw [heapOldR (by simp; omega)]; (repeat (rw [heap_set_other (by simp; omega)])); exact ((hgw.block (p + 1 + 1 + 1) (lt_of_block HB5.out)).trans HB5.out))
        have HGR0 : Hid (Gr w W0) := Lib.hid (by rw [hW0]; exact ((HG1.out.trans hgw).setCell (by simp; omega) _).alloc _)
        clear hW0 k12 kf12 kl HX1' HGW' HKB' hgw hp hls
        obtain ⟨VS, hVS⟩ : ∃ VS : List (Nat × Nat × Value), VS = [(0, 39, .agg #[.int .i64 L.d, .int .i64 L.n, .int .i64 L.b, .int .i64 L.a, .int .i64 L.x, .slice a.A1 a.n1 a.c1, .slice a.A2 a.n2 a.c2, .int .i64 st.u.d, .int .i64 st.u.n, .int .i64 st.u.b, .int .i64 st.u.a, .int .i64 st.u.x, .int .i64 r.c]), (1, 40, .agg #[.int .i64 v.k, .string (bs v.l), .string (bs v.x), .slice v.A v.n v.c, .string (bs v.e)]), (4, 6, .int .i64 0)] := ⟨_, rfl⟩
        obtain ⟨US, hUS⟩ : ∃ US : List (Nat × Value), US = [(2, .pointer (some ⟨p, 0, none⟩)), (3, .pointer (some ⟨p + 1, 0, none⟩)), (4, .pointer (some ⟨p + 1 + 1, 0, none⟩)), (5, .pointer (some ⟨p + 1 + 1 + 1, 0, none⟩))] := ⟨_, rfl⟩
        refine wp_region_frame (by kernel_rfl) (by kernel_rfl) [39, 40, 6] (by simp) (Det VS US (fun B _ w' => CP w W0 (p + 1 + 1) (p + 1 + 1 + 1) #[.int .i64 L.d, .int .i64 L.n, .int .i64 L.b, .int .i64 L.a, .int .i64 L.x, .slice a.A1 a.n1 a.c1, .slice a.A2 a.n2 a.c2, .int .i64 st.u.d, .int .i64 st.u.n, .int .i64 st.u.b, .int .i64 st.u.a, .int .i64 st.u.x, .int .i64 r.c] #[.int .i64 0, .int .i64 0, .int .i64 0, .int .i64 0, .int .i64 0, .slice none 0 0, .slice none 0 0, .int .i64 0, .int .i64 0, .int .i64 0, .int .i64 0, .int .i64 0, .int .i64 0] #[.int .i64 v.k, .string (bs v.l), .string (bs v.x), .slice v.A v.n v.c, .string (bs v.e)] #[.int .i64 0, .string ⟨#[]⟩, .string ⟨#[]⟩, .slice none 0 0, .string ⟨#[]⟩] 2 3 B w')) ?_ ?_ ?_
        · exact Det.start (by rw [hUS]; simp [slot]) (CP.start HGR0.out.drew (Off.gr ((Gr.refl _).drew)) HZ6.out HZ7.out)
        · intro B a' w' i o hfr hF ho hBi hdp
          have hi8 := (Array.getElem?_eq_some_iff.1 ho).1
          simp only [List.size_toArray, List.length_cons, List.length_nil] at hi8
          have hor : i = 0 ∨ i = 1 ∨ i = 2 ∨ i = 3 ∨ i = 4 := by omega
          clear hi8
          rcases hor with rfl | rfl | rfl | rfl | rfl
          all_goals (
            simp only [List.getElem?_toArray, List.getElem?_cons_zero, List.getElem?_cons_succ, Option.some.injEq] at ho
            subst ho
            rw [if_pos (show Region.wanted _ _ = true from rfl)]
            refine wp_hideK ?_
            intro K hK)
          · have hFW := hF.wd
            have o2 := slot_spell (hF.had (d := 2) (v := .pointer (some ⟨p, 0, none⟩)) (by rw [hUS]; simp))
            have hb := hFW.off.block HX2.out (by simp; try omega)
            have k0 := cell_of_cells hb 0
            have k1 := cell_of_cells hb 1
            have k2 := cell_of_cells hb 2
            have k3 := cell_of_cells hb 3
            have k4 := cell_of_cells hb 4
            have k5 := cell_of_cells hb 5
            have k6 := cell_of_cells hb 6
            have k7 := cell_of_cells hb 7
            have k8 := cell_of_cells hb 8
            have k9 := cell_of_cells hb 9
            have k10 := cell_of_cells hb 10
            have k11 := cell_of_cells hb 11
            have k12 := cell_of_cells hb 12
            have kl := lt_of_block hb
            go_simp
            exact hK.out _ _ (close_put hfr (d := 39) (by decide) (by simp) _ (F := fun u => Det VS US (fun B _ w' => CP w W0 (p + 1 + 1) (p + 1 + 1 + 1) #[.int .i64 L.d, .int .i64 L.n, .int .i64 L.b, .int .i64 L.a, .int .i64 L.x, .slice a.A1 a.n1 a.c1, .slice a.A2 a.n2 a.c2, .int .i64 st.u.d, .int .i64 st.u.n, .int .i64 st.u.b, .int .i64 st.u.a, .int .i64 st.u.x, .int .i64 r.c] #[.int .i64 0, .int .i64 0, .int .i64 0, .int .i64 0, .int .i64 0, .slice none 0 0, .slice none 0 0, .int .i64 0, .int .i64 0, .int .i64 0, .int .i64 0, .int .i64 0, .int .i64 0] #[.int .i64 v.k, .string (bs v.l), .string (bs v.x), .slice v.A v.n v.c, .string (bs v.e)] #[.int .i64 0, .string ⟨#[]⟩, .string ⟨#[]⟩, .slice none 0 0, .string ⟨#[]⟩] 2 3 B w') (upB B 0) u _) (hF.step (by rw [hVS]; simp) (by rw [hUS]; simp) (hFW.skip (by decide) (by decide))))
          · have hFW := hF.wd
            have o3 := slot_spell (hF.had (d := 3) (v := .pointer (some ⟨p + 1, 0, none⟩)) (by rw [hUS]; simp))
            have hb := hFW.off.block HX3.out (by simp; try omega)
            have k0 := cell_of_cells hb 0
            have k1 := cell_of_cells hb 1
            have k2 := cell_of_cells hb 2
            have k3 := cell_of_cells hb 3
            have k4 := cell_of_cells hb 4
            have kl := lt_of_block hb
            go_simp
            exact hK.out _ _ (close_put hfr (d := 40) (by decide) (by simp) _ (F := fun u => Det VS US (fun B _ w' => CP w W0 (p + 1 + 1) (p + 1 + 1 + 1) #[.int .i64 L.d, .int .i64 L.n, .int .i64 L.b, .int .i64 L.a, .int .i64 L.x, .slice a.A1 a.n1 a.c1, .slice a.A2 a.n2 a.c2, .int .i64 st.u.d, .int .i64 st.u.n, .int .i64 st.u.b, .int .i64 st.u.a, .int .i64 st.u.x, .int .i64 r.c] #[.int .i64 0, .int .i64 0, .int .i64 0, .int .i64 0, .int .i64 0, .slice none 0 0, .slice none 0 0, .int .i64 0, .int .i64 0, .int .i64 0, .int .i64 0, .int .i64 0, .int .i64 0] #[.int .i64 v.k, .string (bs v.l), .string (bs v.x), .slice v.A v.n v.c, .string (bs v.e)] #[.int .i64 0, .string ⟨#[]⟩, .string ⟨#[]⟩, .slice none 0 0, .string ⟨#[]⟩] 2 3 B w') (upB B 1) u _) (hF.step (by rw [hVS]; simp) (by rw [hUS]; simp) (hFW.skip (by decide) (by decide))))
          · have hFW := hF.wd
            have hB0 : B 0 = true := hdp ⟨0, .data⟩ (by simp) (by rfl)
            have e0 := slot_spell (hF.get (i := 0) (d := 39) (v := .agg #[.int .i64 L.d, .int .i64 L.n, .int .i64 L.b, .int .i64 L.a, .int .i64 L.x, .slice a.A1 a.n1 a.c1, .slice a.A2 a.n2 a.c2, .int .i64 st.u.d, .int .i64 st.u.n, .int .i64 st.u.b, .int .i64 st.u.a, .int .i64 st.u.x, .int .i64 r.c]) (by rw [hVS]; simp) hB0)
            have o4 := slot_spell (hF.had (d := 4) (v := .pointer (some ⟨p + 1 + 1, 0, none⟩)) (by rw [hUS]; simp))
            have q6 := hFW.b6
            rw [if_neg (by rw [hBi]; decide)] at q6
            have y0 := cell_of_cells q6 0
            have yf0 := free_of_cells q6 0
            have y1 := cell_of_cells q6 1
            have yf1 := free_of_cells q6 1
            have y2 := cell_of_cells q6 2
            have yf2 := free_of_cells q6 2
            have y3 := cell_of_cells q6 3
            have yf3 := free_of_cells q6 3
            have y4 := cell_of_cells q6 4
            have yf4 := free_of_cells q6 4
            have y5 := cell_of_cells q6 5
            have yf5 := free_of_cells q6 5
            have y6 := cell_of_cells q6 6
            have yf6 := free_of_cells q6 6
            have y7 := cell_of_cells q6 7
            have yf7 := free_of_cells q6 7
            have y8 := cell_of_cells q6 8
            have yf8 := free_of_cells q6 8
            have y9 := cell_of_cells q6 9
            have yf9 := free_of_cells q6 9
            have y10 := cell_of_cells q6 10
            have yf10 := free_of_cells q6 10
            have y11 := cell_of_cells q6 11
            have yf11 := free_of_cells q6 11
            have y12 := cell_of_cells q6 12
            have yf12 := free_of_cells q6 12
            have yl := lt_of_block q6
            go_simp
            exact hK.out _ _ (close_none hfr undef (F := fun u => Det VS US (fun B _ w' => CP w W0 (p + 1 + 1) (p + 1 + 1 + 1) #[.int .i64 L.d, .int .i64 L.n, .int .i64 L.b, .int .i64 L.a, .int .i64 L.x, .slice a.A1 a.n1 a.c1, .slice a.A2 a.n2 a.c2, .int .i64 st.u.d, .int .i64 st.u.n, .int .i64 st.u.b, .int .i64 st.u.a, .int .i64 st.u.x, .int .i64 r.c] #[.int .i64 0, .int .i64 0, .int .i64 0, .int .i64 0, .int .i64 0, .slice none 0 0, .slice none 0 0, .int .i64 0, .int .i64 0, .int .i64 0, .int .i64 0, .int .i64 0, .int .i64 0] #[.int .i64 v.k, .string (bs v.l), .string (bs v.x), .slice v.A v.n v.c, .string (bs v.e)] #[.int .i64 0, .string ⟨#[]⟩, .string ⟨#[]⟩, .slice none 0 0, .string ⟨#[]⟩] 2 3 B w') (upB B 2) u _) (hF.none (by rw [hVS]; simp) (hFW.s6 hBi (by decide) (by omega) (by have hp := HP.out; omega) rfl rfl)))
          · have hFW := hF.wd
            have hB1 : B 1 = true := hdp ⟨1, .data⟩ (by simp) (by rfl)
            have e1 := slot_spell (hF.get (i := 1) (d := 40) (v := .agg #[.int .i64 v.k, .string (bs v.l), .string (bs v.x), .slice v.A v.n v.c, .string (bs v.e)]) (by rw [hVS]; simp) hB1)
            have o5 := slot_spell (hF.had (d := 5) (v := .pointer (some ⟨p + 1 + 1 + 1, 0, none⟩)) (by rw [hUS]; simp))
            have q7 := hFW.b7
            rw [if_neg (by rw [hBi]; decide)] at q7
            have y0 := cell_of_cells q7 0
            have yf0 := free_of_cells q7 0
            have y1 := cell_of_cells q7 1
            have yf1 := free_of_cells q7 1
            have y2 := cell_of_cells q7 2
            have yf2 := free_of_cells q7 2
            have y3 := cell_of_cells q7 3
            have yf3 := free_of_cells q7 3
            have y4 := cell_of_cells q7 4
            have yf4 := free_of_cells q7 4
            have yl := lt_of_block q7
            go_simp
            exact hK.out _ _ (close_none hfr undef (F := fun u => Det VS US (fun B _ w' => CP w W0 (p + 1 + 1) (p + 1 + 1 + 1) #[.int .i64 L.d, .int .i64 L.n, .int .i64 L.b, .int .i64 L.a, .int .i64 L.x, .slice a.A1 a.n1 a.c1, .slice a.A2 a.n2 a.c2, .int .i64 st.u.d, .int .i64 st.u.n, .int .i64 st.u.b, .int .i64 st.u.a, .int .i64 st.u.x, .int .i64 r.c] #[.int .i64 0, .int .i64 0, .int .i64 0, .int .i64 0, .int .i64 0, .slice none 0 0, .slice none 0 0, .int .i64 0, .int .i64 0, .int .i64 0, .int .i64 0, .int .i64 0, .int .i64 0] #[.int .i64 v.k, .string (bs v.l), .string (bs v.x), .slice v.A v.n v.c, .string (bs v.e)] #[.int .i64 0, .string ⟨#[]⟩, .string ⟨#[]⟩, .slice none 0 0, .string ⟨#[]⟩] 2 3 B w') (upB B 3) u _) (hF.none (by rw [hVS]; simp) (hFW.s7 hBi (by decide) (by omega) (by have hp := HP.out; omega) rfl rfl)))
          · have hFW := hF.wd
            go_simp
            exact hK.out _ _ (close_put hfr (d := 6) (by decide) (by simp) _ (F := fun u => Det VS US (fun B _ w' => CP w W0 (p + 1 + 1) (p + 1 + 1 + 1) #[.int .i64 L.d, .int .i64 L.n, .int .i64 L.b, .int .i64 L.a, .int .i64 L.x, .slice a.A1 a.n1 a.c1, .slice a.A2 a.n2 a.c2, .int .i64 st.u.d, .int .i64 st.u.n, .int .i64 st.u.b, .int .i64 st.u.a, .int .i64 st.u.x, .int .i64 r.c] #[.int .i64 0, .int .i64 0, .int .i64 0, .int .i64 0, .int .i64 0, .slice none 0 0, .slice none 0 0, .int .i64 0, .int .i64 0, .int .i64 0, .int .i64 0, .int .i64 0, .int .i64 0] #[.int .i64 v.k, .string (bs v.l), .string (bs v.x), .slice v.A v.n v.c, .string (bs v.e)] #[.int .i64 0, .string ⟨#[]⟩, .string ⟨#[]⟩, .slice none 0 0, .string ⟨#[]⟩] 2 3 B w') (upB B 4) u _) (hF.step (by rw [hVS]; simp) (by rw [hUS]; simp) (hFW.skip (by decide) (by decide))))
        · intro B u w' hall hF
          have z0 := hF.get (i := 0) (d := 39) (v := .agg #[.int .i64 L.d, .int .i64 L.n, .int .i64 L.b, .int .i64 L.a, .int .i64 L.x, .slice a.A1 a.n1 a.c1, .slice a.A2 a.n2 a.c2, .int .i64 st.u.d, .int .i64 st.u.n, .int .i64 st.u.b, .int .i64 st.u.a, .int .i64 st.u.x, .int .i64 r.c]) (by rw [hVS]; simp) (hall 0 (by simp))
          have z1 := hF.get (i := 1) (d := 40) (v := .agg #[.int .i64 v.k, .string (bs v.l), .string (bs v.x), .slice v.A v.n v.c, .string (bs v.e)]) (by rw [hVS]; simp) (hall 1 (by simp))
          have z4 := hF.get (i := 4) (d := 6) (v := .int .i64 0) (by rw [hVS]; simp) (hall 4 (by simp))
          have hFW := hF.wd
          clear hF hVS hUS
          simp only [List.foldl_cons, List.foldl_nil, Act.put, List.setIfInBounds_toArray, List.set_cons_zero, List.set_cons_succ, z0, z1, z4]
          clear z0 z1 z4
          have hp := HP.out
          have q6 := hFW.b6
          have q7 := hFW.b7
          have hgf := hFW.gr
          have hof := hFW.off
          rw [if_pos (hall 2 (by simp))] at q6
          rw [if_pos (hall 3 (by simp))] at q7
          clear hall hFW
          go_wp2_with fail
          refine bodyPost_ret (results_state rfl _ _ _ _ _ _ rfl rfl rfl q6 rfl q7) rfl ⟨a, v, by rw [← HQ.out]; rfl, ?_, ?_, hgf⟩
          · rw [← HQ.out]
            exact (HS.out.err r.c).on (hgf.on P)
          · rw [← HQ.out]
            exact HR.out.on (hgf.on P)

end Go.Proofs.Ytbfnmgiccbdglaa
