/- leaf and awake of the laws, walked. -/
import Derived.Test.YtbfnmgiccbdglaaAnCheck
import Derived.Test.YtbfnmgiccbdglaaAnNames
namespace Go.Proofs.Ytbfnmgiccbdglaa
open Go.ChangeShapes Go.WideShapes Go.ChangeAt Go.RowKit

theorem flat_get : ∀ (ds : List ND) (i j : Nat) (d : ND), ds[i]? = some d → j < 5 → (ds.flatMap ND.cells)[i * 5 + j]? = d.cells[j]?
  | [], i, j, d, h, _ => by simp at h
  | x :: r, 0, j, d, h, hj => by
    simp only [List.getElem?_cons_zero, Option.some.injEq] at h
    subst h
    rw [List.flatMap_cons, Nat.zero_mul, Nat.zero_add, List.getElem?_append_left (by simpa [ND.cells] using hj)]
  | x :: r, i + 1, j, d, h, hj => by
    rw [List.flatMap_cons, List.getElem?_append_right (by simp [ND.cells]; omega)]
    have hl : (i + 1) * 5 + j - x.cells.length = i * 5 + j := by simp [ND.cells]; omega
    rw [hl]
    exact flat_get r i j d (by simpa using h) hj
/-- A node whose kids lie in one block. -/
theorem NRep.made {m : Nat} {W : World} {k : Int} {l x e : List UInt8} {b : Nat} {ds : List ND} {ts : List NT} {cs : Array Value} (hb : W.heap[b]? = some (.cells cs 24 (0, 0))) (hcs : cs = (ds.flatMap ND.cells).toArray) (hl : ds.length = ts.length) (hn : ts.length ≤ maxLen)
    (hk : (Lit.int .i64 k).wf = true) (h1 : l.length ≤ maxLen) (h2 : x.length ≤ maxLen) (h3 : e.length ≤ maxLen) (hr : ∀ (i : Nat) (d : ND) (t : NT), ds[i]? = some d → ts[i]? = some t → NRep anyB m W d t) :
    NRep anyB (m + 1) W ⟨k, l, x, some ⟨b, 0, none⟩, ts.length, ts.length, e⟩ (.mk k l x ts e) := by
  refine ⟨rfl, rfl, rfl, rfl, rfl, Nat.le_refl _, hn, hk, h1, h2, h3, (fun h => by cases h), fun i y hy => ?_⟩
  have hi := (List.getElem?_eq_some_iff.1 hy).1
  obtain ⟨d, hd⟩ : ∃ d, ds[i]? = some d := ⟨ds[i]'(by omega), List.getElem?_eq_getElem _⟩
  refine ⟨b, 0, d, rfl, trivial, lt_of_block hb, NCells.of (fun j hj => ?_), hr i d y hd hy⟩
  rw [cell_of_cells hb, hcs, Nat.zero_add, List.getElem?_toArray]
  exact flat_get ds i j d hd hj
theorem NRep.bare {W : World} {k : Int} {l x e : List UInt8} (hk : (Lit.int .i64 k).wf = true) (h1 : l.length ≤ maxLen) (h2 : x.length ≤ maxLen) (h3 : e.length ≤ maxLen) : NRep anyB 1 W ⟨k, l, x, none, 0, 0, e⟩ (.mk k l x [] e) :=
  ⟨rfl, rfl, rfl, rfl, rfl, Nat.le_refl _, Nat.zero_le _, hk, h1, h2, h3, fun _ => rfl, fun i y hy => by simp at hy⟩
/-- An entry with one kid. -/
def entT (t : NT) : NT := .mk 5 [] [] [t] []
def entD (b : Nat) : ND := ⟨5, [], [], some ⟨b, 0, none⟩, 1, 1, []⟩
set_option maxRecDepth 100000 in
set_option maxHeartbeats 4000000 in
theorem leafN_any (m : Nat) (d : ND) (t : NT) (w : World) (hr : NRep anyB m w d t) : Calls Try.prog 20 #[.agg #[.int .i64 d.k, .string (bs d.l), .string (bs d.x), .slice d.A d.n d.c, .string (bs d.e)]] w (fun e w' => ∃ b, e = .returned (.agg #[.int .i64 5, .string ⟨#[]⟩, .string ⟨#[]⟩, .slice (some ⟨b, 0, none⟩) 1 1, .string ⟨#[]⟩]) ∧ NRep anyB (m + 1) w' (entD b) (entT t) ∧ Gr w w') := by
  have HR := Lib.hid hr
  clear hr
  go_enter Try.func20, Try.ntmps20
  go_wp2_with fail
  obtain ⟨b, hb⟩ : ∃ b, b = w.heap.size + 1 + 1 := ⟨_, rfl⟩
  rw [← hb]
  obtain ⟨W, hW⟩ : ∃ W, W = ((w.alloc (.cells #[.int .i64 d.k, .string (bs d.l), .string (bs d.x), .slice d.A d.n d.c, .string (bs d.e)] 24)).alloc (.cells #[.int .i64 5, .string ⟨#[]⟩, .string ⟨#[]⟩, .slice (some ⟨b, 0, none⟩) 1 1, .string ⟨#[]⟩] 24)).alloc (.cells #[.int .i64 d.k, .string (bs d.l), .string (bs d.x), .slice d.A d.n d.c, .string (bs d.e)] 24) := ⟨_, rfl⟩
  have hg : Gr w W := by rw [hW]; exact (((Gr.refl w).alloc _).alloc _).alloc _
  have hz : NBox W (w.heap.size + 1) (entD b) := by
    have h := heap_alloc_new (w.alloc (.cells #[.int .i64 d.k, .string (bs d.l), .string (bs d.x), .slice d.A d.n d.c, .string (bs d.e)] 24)) (.cells #[.int .i64 5, .string ⟨#[]⟩, .string ⟨#[]⟩, .slice (some ⟨b, 0, none⟩) 1 1, .string ⟨#[]⟩] 24)
    have hs : (w.alloc (.cells #[.int .i64 d.k, .string (bs d.l), .string (bs d.x), .slice d.A d.n d.c, .string (bs d.e)] 24)).heap.size = w.heap.size + 1 := by simp
    rw [hs] at h
    rw [hW]
    exact NBox.gr (d := entD b) h ((Gr.refl _).alloc _)
  have hk : W.heap[b]? = some (.cells #[.int .i64 d.k, .string (bs d.l), .string (bs d.x), .slice d.A d.n d.c, .string (bs d.e)] 24 (0, 0)) := by
    have h := heap_alloc_new ((w.alloc (.cells #[.int .i64 d.k, .string (bs d.l), .string (bs d.x), .slice d.A d.n d.c, .string (bs d.e)] 24)).alloc (.cells #[.int .i64 5, .string ⟨#[]⟩, .string ⟨#[]⟩, .slice (some ⟨b, 0, none⟩) 1 1, .string ⟨#[]⟩] 24)) (.cells #[.int .i64 d.k, .string (bs d.l), .string (bs d.x), .slice d.A d.n d.c, .string (bs d.e)] 24)
    have hs : ((w.alloc (.cells #[.int .i64 d.k, .string (bs d.l), .string (bs d.x), .slice d.A d.n d.c, .string (bs d.e)] 24)).alloc (.cells #[.int .i64 5, .string ⟨#[]⟩, .string ⟨#[]⟩, .slice (some ⟨b, 0, none⟩) 1 1, .string ⟨#[]⟩] 24)).heap.size = b := by simp [hb]
    rw [hs] at h
    rw [hW]
    exact h
  rw [← hW]
  refine bodyPost_ret (results_cell_row (fn := Try.f20) rfl _ _ _ _ _ _ _ rfl hz Try.underlying24 rfl (by kernel_rfl)) rfl ⟨b, rfl, ?_, hg⟩
  refine NRep.made (ds := [d]) (ts := [t]) (k := 5) (l := []) (x := []) (e := []) hk (by simp [ND.cells]) rfl (by unfold maxLen; simp) (by decide) (Nat.zero_le _) (Nat.zero_le _) (Nat.zero_le _) (fun i d' t' hd ht => ?_)
  match i, hd, ht with
  | 0, hd, ht =>
    cases hd
    cases ht
    exact HR.out.gr hg
def awT : NT := .mk 3 [] [] [entT (.mk 9 [] [38, 120] [.mk 2 [] [49] [] []] []), entT (.mk 10 [] [42, 120] [] []), entT (.mk 10 [] [42, 120] [] [])] []
theorem aw_chk : chkF usual awT = (⟨0, 0, 0, 2, 2⟩, 0) := by rfl
def aw_r : Res := ⟨0, 0, 0, 2, 2, 0⟩
theorem aw_cost : costF awT = (4, 0) := by decide +kernel
theorem aw_kind : (if properB awT = true then kindF 10 awT else 0) = 2 := by decide +kernel
theorem aw_names : namesQ awT = ([[120]], 0) := by decide +kernel
set_option maxRecDepth 100000 in
set_option maxHeartbeats 4000000 in
theorem awake_any (w : World) : Calls Try.prog 10 #[] w (RB true w) := by
  go_enter Try.func10, Try.ntmps10
  go_wp2_with fail
  have hn0 : NRep anyB 1 (w.alloc (.cells #[.int .i64 2, .string ⟨#[]⟩, .string ⟨#[49]⟩, .slice none 0 0, .string ⟨#[]⟩] 24)) ⟨2, [], [49], none, 0, 0, []⟩ (.mk 2 [] [49] [] []) := NRep.bare (by decide) (Nat.zero_le _) (by unfold maxLen; simp) (Nat.zero_le _)
  have hn1 : NRep anyB 2 (w.alloc (.cells #[.int .i64 2, .string ⟨#[]⟩, .string ⟨#[49]⟩, .slice none 0 0, .string ⟨#[]⟩] 24)) ⟨9, [], [38, 120], some ⟨w.heap.size, 0, none⟩, 1, 1, []⟩ (.mk 9 [] [38, 120] [.mk 2 [] [49] [] []] []) :=
    NRep.made (ds := [⟨2, [], [49], none, 0, 0, []⟩]) (ts := [.mk 2 [] [49] [] []]) (heap_alloc_new w (.cells #[.int .i64 2, .string ⟨#[]⟩, .string ⟨#[49]⟩, .slice none 0 0, .string ⟨#[]⟩] 24)) (by simp [ND.cells, bs]) rfl (by unfold maxLen; simp) (by decide) (Nat.zero_le _) (by unfold maxLen; simp) (Nat.zero_le _) (fun i d' t' hd ht => by
      match i, hd, ht with
      | 0, hd, ht =>
        cases hd
        cases ht
        exact hn0)
  refine (leafN_any 2 ⟨9, [], [38, 120], some ⟨w.heap.size, 0, none⟩, 1, 1, []⟩ _ _ hn1).mono ?_
  rintro e w1 ⟨b1, rfl, hr1, hb1⟩
  have hg1 : Gr w w1 := ((Gr.refl w).alloc _).trans hb1
  have HR1 := Lib.hid hr1
  clear hn0 hn1 hr1 hb1
  go_wp2_with fail
  refine (leafN_any 1 ⟨10, [], [42, 120], none, 0, 0, []⟩ (.mk 10 [] [42, 120] [] []) _ (NRep.bare (by decide) (Nat.zero_le _) (by unfold maxLen; simp) (Nat.zero_le _))).mono ?_
  rintro e w2 ⟨b2, rfl, hr2, hb2⟩
  have hg2 : Gr w w2 := hg1.trans hb2
  replace HR1 := Lib.hid (HR1.out.gr hb2)
  have HR2 := Lib.hid hr2
  clear hr2 hb2 hg1
  go_wp2_with fail
  refine (leafN_any 1 ⟨10, [], [42, 120], none, 0, 0, []⟩ (.mk 10 [] [42, 120] [] []) _ (NRep.bare (by decide) (Nat.zero_le _) (by unfold maxLen; simp) (Nat.zero_le _))).mono ?_
  rintro e w3 ⟨b3, rfl, hr3, hb3⟩
  have hg3 : Gr w w3 := hg2.trans hb3
  replace HR1 := Lib.hid (HR1.out.gr hb3)
  replace HR2 := Lib.hid (HR2.out.gr hb3)
  have HR3 := Lib.hid hr3
  clear hr3 hb3 hg2
  go_wp2_with fail
  obtain ⟨p, hp⟩ : ∃ p, p = w3.heap.size := ⟨_, rfl⟩
  have hk4 : ((w3.alloc (.cells #[.int .i64 5, .string ⟨#[]⟩, .string ⟨#[]⟩, .slice (some ⟨b1, 0, none⟩) 1 1, .string ⟨#[]⟩, .int .i64 5, .string ⟨#[]⟩, .string ⟨#[]⟩, .slice (some ⟨b2, 0, none⟩) 1 1, .string ⟨#[]⟩, .int .i64 5, .string ⟨#[]⟩, .string ⟨#[]⟩, .slice (some ⟨b3, 0, none⟩) 1 1, .string ⟨#[]⟩] 24)).alloc (.cells #[.int .i64 3, .string ⟨#[]⟩, .string ⟨#[]⟩, .slice (some ⟨p, 0, none⟩) 3 3, .string ⟨#[]⟩] 24)).heap[p]? = some (.cells #[.int .i64 5, .string ⟨#[]⟩, .string ⟨#[]⟩, .slice (some ⟨b1, 0, none⟩) 1 1, .string ⟨#[]⟩, .int .i64 5, .string ⟨#[]⟩, .string ⟨#[]⟩, .slice (some ⟨b2, 0, none⟩) 1 1, .string ⟨#[]⟩, .int .i64 5, .string ⟨#[]⟩, .string ⟨#[]⟩, .slice (some ⟨b3, 0, none⟩) 1 1, .string ⟨#[]⟩] 24 (0, 0)) := by
    have h := heap_alloc_new w3 (.cells #[.int .i64 5, .string ⟨#[]⟩, .string ⟨#[]⟩, .slice (some ⟨b1, 0, none⟩) 1 1, .string ⟨#[]⟩, .int .i64 5, .string ⟨#[]⟩, .string ⟨#[]⟩, .slice (some ⟨b2, 0, none⟩) 1 1, .string ⟨#[]⟩, .int .i64 5, .string ⟨#[]⟩, .string ⟨#[]⟩, .slice (some ⟨b3, 0, none⟩) 1 1, .string ⟨#[]⟩] 24)
    rw [← hp] at h
    exact (((Gr.refl (w3.alloc (.cells #[.int .i64 5, .string ⟨#[]⟩, .string ⟨#[]⟩, .slice (some ⟨b1, 0, none⟩) 1 1, .string ⟨#[]⟩, .int .i64 5, .string ⟨#[]⟩, .string ⟨#[]⟩, .slice (some ⟨b2, 0, none⟩) 1 1, .string ⟨#[]⟩, .int .i64 5, .string ⟨#[]⟩, .string ⟨#[]⟩, .slice (some ⟨b3, 0, none⟩) 1 1, .string ⟨#[]⟩] 24))).alloc (.cells #[.int .i64 3, .string ⟨#[]⟩, .string ⟨#[]⟩, .slice (some ⟨p, 0, none⟩) 3 3, .string ⟨#[]⟩] 24)).block p (by simp [hp])).trans h
  have hg4 : Gr w3 ((w3.alloc (.cells #[.int .i64 5, .string ⟨#[]⟩, .string ⟨#[]⟩, .slice (some ⟨b1, 0, none⟩) 1 1, .string ⟨#[]⟩, .int .i64 5, .string ⟨#[]⟩, .string ⟨#[]⟩, .slice (some ⟨b2, 0, none⟩) 1 1, .string ⟨#[]⟩, .int .i64 5, .string ⟨#[]⟩, .string ⟨#[]⟩, .slice (some ⟨b3, 0, none⟩) 1 1, .string ⟨#[]⟩] 24)).alloc (.cells #[.int .i64 3, .string ⟨#[]⟩, .string ⟨#[]⟩, .slice (some ⟨p, 0, none⟩) 3 3, .string ⟨#[]⟩] 24)) := ((Gr.refl w3).alloc _).alloc _
  have hn4 : NBox ((w3.alloc (.cells #[.int .i64 5, .string ⟨#[]⟩, .string ⟨#[]⟩, .slice (some ⟨b1, 0, none⟩) 1 1, .string ⟨#[]⟩, .int .i64 5, .string ⟨#[]⟩, .string ⟨#[]⟩, .slice (some ⟨b2, 0, none⟩) 1 1, .string ⟨#[]⟩, .int .i64 5, .string ⟨#[]⟩, .string ⟨#[]⟩, .slice (some ⟨b3, 0, none⟩) 1 1, .string ⟨#[]⟩] 24)).alloc (.cells #[.int .i64 3, .string ⟨#[]⟩, .string ⟨#[]⟩, .slice (some ⟨p, 0, none⟩) 3 3, .string ⟨#[]⟩] 24)) (p + 1) ⟨3, [], [], some ⟨p, 0, none⟩, 3, 3, []⟩ := by
    have h := heap_alloc_new (w3.alloc (.cells #[.int .i64 5, .string ⟨#[]⟩, .string ⟨#[]⟩, .slice (some ⟨b1, 0, none⟩) 1 1, .string ⟨#[]⟩, .int .i64 5, .string ⟨#[]⟩, .string ⟨#[]⟩, .slice (some ⟨b2, 0, none⟩) 1 1, .string ⟨#[]⟩, .int .i64 5, .string ⟨#[]⟩, .string ⟨#[]⟩, .slice (some ⟨b3, 0, none⟩) 1 1, .string ⟨#[]⟩] 24)) (.cells #[.int .i64 3, .string ⟨#[]⟩, .string ⟨#[]⟩, .slice (some ⟨p, 0, none⟩) 3 3, .string ⟨#[]⟩] 24)
    have hs : (w3.alloc (.cells #[.int .i64 5, .string ⟨#[]⟩, .string ⟨#[]⟩, .slice (some ⟨b1, 0, none⟩) 1 1, .string ⟨#[]⟩, .int .i64 5, .string ⟨#[]⟩, .string ⟨#[]⟩, .slice (some ⟨b2, 0, none⟩) 1 1, .string ⟨#[]⟩, .int .i64 5, .string ⟨#[]⟩, .string ⟨#[]⟩, .slice (some ⟨b3, 0, none⟩) 1 1, .string ⟨#[]⟩] 24)).heap.size = p + 1 := by simp [hp]
    rw [hs] at h
    exact h
  rw [← hp]
  generalize ((w3.alloc (.cells #[.int .i64 5, .string ⟨#[]⟩, .string ⟨#[]⟩, .slice (some ⟨b1, 0, none⟩) 1 1, .string ⟨#[]⟩, .int .i64 5, .string ⟨#[]⟩, .string ⟨#[]⟩, .slice (some ⟨b2, 0, none⟩) 1 1, .string ⟨#[]⟩, .int .i64 5, .string ⟨#[]⟩, .string ⟨#[]⟩, .slice (some ⟨b3, 0, none⟩) 1 1, .string ⟨#[]⟩] 24)).alloc (.cells #[.int .i64 3, .string ⟨#[]⟩, .string ⟨#[]⟩, .slice (some ⟨p, 0, none⟩) 3 3, .string ⟨#[]⟩] 24)) = W4 at *
  have hr4 : NRep anyB 4 W4 ⟨3, [], [], some ⟨p, 0, none⟩, 3, 3, []⟩ awT :=
    NRep.made (m := 3) (ds := [entD b1, entD b2, entD b3]) (ts := [entT (.mk 9 [] [38, 120] [.mk 2 [] [49] [] []] []), entT (.mk 10 [] [42, 120] [] []), entT (.mk 10 [] [42, 120] [] [])]) (k := 3) (l := []) (x := []) (e := []) hk4 (by simp [ND.cells, entD, bs]) rfl (by unfold maxLen; simp) (by decide) (Nat.zero_le _) (Nat.zero_le _) (Nat.zero_le _) (fun i d' t' hd ht => by
      match i, hd, ht with
      | 0, hd, ht => cases hd; cases ht; exact HR1.out.gr hg4
      | 1, hd, ht => cases hd; cases ht; exact (HR2.out.gr hg4).ups 3 (by omega)
      | 2, hd, ht => cases hd; cases ht; exact (HR3.out.gr hg4).ups 3 (by omega))
  have hgw4 : Gr w W4 := hg3.trans hg4
  have hr : aw_r.c = 0 := rfl
  obtain ⟨r, hre⟩ : ∃ r, r = aw_r := ⟨_, rfl⟩
  have hchk : ∀ W', Gr W4 W' → Calls Try.prog 15 #[.agg #[.int .i64 3, .string ⟨#[]⟩, .string ⟨#[]⟩, .slice (some ⟨p, 0, none⟩) 3 3, .string ⟨#[]⟩], .agg #[.int .i64 usual.d, .int .i64 usual.n, .int .i64 usual.b, .int .i64 usual.a, .int .i64 usual.x]] W' (fun e w' => e = .returned (.tuple #[.agg #[.int .i64 r.d, .int .i64 r.n, .int .i64 r.b, .int .i64 r.a, .int .i64 r.x], .int .i64 r.c]) ∧ Gr W' w') := fun W' hg => by
    have h := CheckA_any 4 ⟨3, [], [], some ⟨p, 0, none⟩, 3, 3, []⟩ awT usual W' (hr4.gr hg) (by decide +kernel) (by decide +kernel)
    rw [aw_chk] at h
    rw [hre]
    exact h
  have HCHK := Lib.hid hchk
  have HR4 := Lib.hid hr4
  have HG4 := Lib.hid hgw4
  have HN4 := Lib.hid hn4
  have HRE := Lib.hid hre
  clear hr hre hchk hr4 hgw4 hn4 hg4 hk4 hg3 HR1 HR2 HR3 hp
  obtain ⟨VS, hVS⟩ : ∃ VS : List (Nat × Nat × Value), VS = [(0, 19, .agg #[.int .i64 3, .string ⟨#[]⟩, .string ⟨#[]⟩, .slice (some ⟨p, 0, none⟩) 3 3, .string ⟨#[]⟩]), (1, 20, .agg #[.int .i64 usual.d, .int .i64 usual.n, .int .i64 usual.b, .int .i64 usual.a, .int .i64 usual.x]), (2, 21, .tuple #[.agg #[.int .i64 r.d, .int .i64 r.n, .int .i64 r.b, .int .i64 r.a, .int .i64 r.x], .int .i64 r.c]), (3, 18, .tuple #[.agg #[.int .i64 r.d, .int .i64 r.n, .int .i64 r.b, .int .i64 r.a, .int .i64 r.x], .int .i64 r.c]), (4, 22, .agg #[.int .i64 r.d, .int .i64 r.n, .int .i64 r.b, .int .i64 r.a, .int .i64 r.x]), (5, 23, .int .i64 r.c), (8, 3, .int .i64 r.c)] := ⟨_, rfl⟩
  obtain ⟨US, hUS⟩ : ∃ US : List (Nat × Value), US = [(1, .pointer (some ⟨p + 1, 0, none⟩))] := ⟨_, rfl⟩
  refine wp_region_frame (by kernel_rfl) (by kernel_rfl) [19, 20, 21, 18, 22, 23, 2, 3] (by simp) (Det VS US (fun B u w' => Gr W4 w' ∧ (B 7 = true → B 6 = true) ∧ (B 6 = true → ∃ p cs, W4.heap.size ≤ p ∧ u 2 = .pointer (some ⟨p, 0, none⟩) ∧ w'.heap[p]? = some (.cells cs 36 (0, 0)) ∧ cs = if B 7 = true then #[.int .i64 r.d, .int .i64 r.n, .int .i64 r.b, .int .i64 r.a, .int .i64 r.x] else #[.int .i64 0, .int .i64 0, .int .i64 0, .int .i64 0, .int .i64 0]))) ?_ ?_ ?_
  · exact Det.start (by rw [hUS]; simp [slot]) (⟨(Gr.refl _).drew, (fun h => by cases h), (fun h => by cases h)⟩)
  · intro B a' w' i o hfr hF ho hBi hdp
    have hi8 := (Array.getElem?_eq_some_iff.1 ho).1
    simp only [List.size_toArray, List.length_cons, List.length_nil] at hi8
    have hor : i = 0 ∨ i = 1 ∨ i = 2 ∨ i = 3 ∨ i = 4 ∨ i = 5 ∨ i = 6 ∨ i = 7 ∨ i = 8 := by omega
    clear hi8
    rcases hor with rfl | rfl | rfl | rfl | rfl | rfl | rfl | rfl | rfl
    all_goals (
      simp only [List.getElem?_toArray, List.getElem?_cons_zero, List.getElem?_cons_succ, Option.some.injEq] at ho
      subst ho
      rw [if_pos (show Region.wanted _ _ = true from rfl)]
      refine wp_hideK ?_
      intro K hK)
    · have hFW := hF.wd
      have o1 := slot_spell (hF.had (d := 1) (v := .pointer (some ⟨p + 1, 0, none⟩)) (by rw [hUS]; simp))
      obtain ⟨k0, k1, k2, k3, k4⟩ := (HN4.out.gr hFW.1).cells
      have kl := lt_of_block (HN4.out.gr hFW.1)
      simp only [show bs [] = ⟨#[]⟩ from rfl] at k1 k2 k4
      go_simp
      exact hK.out _ _ (close_put hfr (d := 19) (by decide) (by simp) _ (F := fun u => Det VS US (fun B u w' => Gr W4 w' ∧ (B 7 = true → B 6 = true) ∧ (B 6 = true → ∃ p cs, W4.heap.size ≤ p ∧ u 2 = .pointer (some ⟨p, 0, none⟩) ∧ w'.heap[p]? = some (.cells cs 36 (0, 0)) ∧ cs = if B 7 = true then #[.int .i64 r.d, .int .i64 r.n, .int .i64 r.b, .int .i64 r.a, .int .i64 r.x] else #[.int .i64 0, .int .i64 0, .int .i64 0, .int .i64 0, .int .i64 0])) (upB B 0) u _) (hF.step (by rw [hVS]; simp) (by rw [hUS]; simp) (by simpa [upB, upV] using hFW)))
    · have hFW := hF.wd
      have HFF := Lib.hid hF
      have HFR := Lib.hid hfr
      have HFG := Lib.hid hFW
      clear hF hfr hFW hdp
      go_simp
      refine (usualR_any _).mono ?_
      rintro e w2 ⟨rfl, hb2⟩
      have hF := HFF.out
      have hfr := HFR.out
      have hFW := HFG.out
      exact hK.out _ _ (close_put hfr (d := 20) (by decide) (by simp) _ (F := fun u => Det VS US (fun B u w' => Gr W4 w' ∧ (B 7 = true → B 6 = true) ∧ (B 6 = true → ∃ p cs, W4.heap.size ≤ p ∧ u 2 = .pointer (some ⟨p, 0, none⟩) ∧ w'.heap[p]? = some (.cells cs 36 (0, 0)) ∧ cs = if B 7 = true then #[.int .i64 r.d, .int .i64 r.n, .int .i64 r.b, .int .i64 r.a, .int .i64 r.x] else #[.int .i64 0, .int .i64 0, .int .i64 0, .int .i64 0, .int .i64 0])) (upB B 1) u _) (hF.step (by rw [hVS]; simp) (by rw [hUS]; simp) (⟨hFW.1.trans hb2, by simpa [upB] using hFW.2.1, fun h16 => (by
            obtain ⟨p, cs, q1, q2, q3, q4⟩ := hFW.2.2 (by simpa [upB] using h16)
            exact ⟨p, cs, q1, by simpa [upV] using q2, (hb2.block p (lt_of_block q3)).trans q3, by simpa [upB] using q4⟩)⟩)))
    · have hFW := hF.wd
      have hB0 : B 0 = true := hdp ⟨0, .data⟩ (by simp) (by rfl)
      have e0 := slot_spell (hF.get (i := 0) (d := 19) (v := .agg #[.int .i64 3, .string ⟨#[]⟩, .string ⟨#[]⟩, .slice (some ⟨p, 0, none⟩) 3 3, .string ⟨#[]⟩]) (by rw [hVS]; simp) hB0)
      have hB1 : B 1 = true := hdp ⟨1, .data⟩ (by simp) (by rfl)
      have e1 := slot_spell (hF.get (i := 1) (d := 20) (v := .agg #[.int .i64 usual.d, .int .i64 usual.n, .int .i64 usual.b, .int .i64 usual.a, .int .i64 usual.x]) (by rw [hVS]; simp) hB1)
      have HFF := Lib.hid hF
      have HFR := Lib.hid hfr
      have HFG := Lib.hid hFW
      clear hF hfr hFW hdp
      go_simp
      refine (HCHK.out _ HFG.out.1).mono ?_
      rintro e w2 ⟨rfl, hb2⟩
      have hF := HFF.out
      have hfr := HFR.out
      have hFW := HFG.out
      exact hK.out _ _ (close_put hfr (d := 21) (by decide) (by simp) _ (F := fun u => Det VS US (fun B u w' => Gr W4 w' ∧ (B 7 = true → B 6 = true) ∧ (B 6 = true → ∃ p cs, W4.heap.size ≤ p ∧ u 2 = .pointer (some ⟨p, 0, none⟩) ∧ w'.heap[p]? = some (.cells cs 36 (0, 0)) ∧ cs = if B 7 = true then #[.int .i64 r.d, .int .i64 r.n, .int .i64 r.b, .int .i64 r.a, .int .i64 r.x] else #[.int .i64 0, .int .i64 0, .int .i64 0, .int .i64 0, .int .i64 0])) (upB B 2) u _) (hF.step (by rw [hVS]; simp) (by rw [hUS]; simp) (⟨hFW.1.trans hb2, by simpa [upB] using hFW.2.1, fun h16 => (by
            obtain ⟨p, cs, q1, q2, q3, q4⟩ := hFW.2.2 (by simpa [upB] using h16)
            exact ⟨p, cs, q1, by simpa [upV] using q2, (hb2.block p (lt_of_block q3)).trans q3, by simpa [upB] using q4⟩)⟩)))
    · have hFW := hF.wd
      have hB2 : B 2 = true := hdp ⟨2, .data⟩ (by simp) (by rfl)
      have e2 := slot_spell (hF.get (i := 2) (d := 21) (v := .tuple #[.agg #[.int .i64 r.d, .int .i64 r.n, .int .i64 r.b, .int .i64 r.a, .int .i64 r.x], .int .i64 r.c]) (by rw [hVS]; simp) hB2)
      go_simp
      exact hK.out _ _ (close_put hfr (d := 18) (by decide) (by simp) _ (F := fun u => Det VS US (fun B u w' => Gr W4 w' ∧ (B 7 = true → B 6 = true) ∧ (B 6 = true → ∃ p cs, W4.heap.size ≤ p ∧ u 2 = .pointer (some ⟨p, 0, none⟩) ∧ w'.heap[p]? = some (.cells cs 36 (0, 0)) ∧ cs = if B 7 = true then #[.int .i64 r.d, .int .i64 r.n, .int .i64 r.b, .int .i64 r.a, .int .i64 r.x] else #[.int .i64 0, .int .i64 0, .int .i64 0, .int .i64 0, .int .i64 0])) (upB B 3) u _) (hF.step (by rw [hVS]; simp) (by rw [hUS]; simp) (by simpa [upB, upV] using hFW)))
    · have hFW := hF.wd
      have hB3 : B 3 = true := hdp ⟨3, .data⟩ (by simp) (by rfl)
      have e3 := slot_spell (hF.get (i := 3) (d := 18) (v := .tuple #[.agg #[.int .i64 r.d, .int .i64 r.n, .int .i64 r.b, .int .i64 r.a, .int .i64 r.x], .int .i64 r.c]) (by rw [hVS]; simp) hB3)
      go_simp
      exact hK.out _ _ (close_put hfr (d := 22) (by decide) (by simp) _ (F := fun u => Det VS US (fun B u w' => Gr W4 w' ∧ (B 7 = true → B 6 = true) ∧ (B 6 = true → ∃ p cs, W4.heap.size ≤ p ∧ u 2 = .pointer (some ⟨p, 0, none⟩) ∧ w'.heap[p]? = some (.cells cs 36 (0, 0)) ∧ cs = if B 7 = true then #[.int .i64 r.d, .int .i64 r.n, .int .i64 r.b, .int .i64 r.a, .int .i64 r.x] else #[.int .i64 0, .int .i64 0, .int .i64 0, .int .i64 0, .int .i64 0])) (upB B 4) u _) (hF.step (by rw [hVS]; simp) (by rw [hUS]; simp) (by simpa [upB, upV] using hFW)))
    · have hFW := hF.wd
      have hB3 : B 3 = true := hdp ⟨3, .data⟩ (by simp) (by rfl)
      have e3 := slot_spell (hF.get (i := 3) (d := 18) (v := .tuple #[.agg #[.int .i64 r.d, .int .i64 r.n, .int .i64 r.b, .int .i64 r.a, .int .i64 r.x], .int .i64 r.c]) (by rw [hVS]; simp) hB3)
      go_simp
      exact hK.out _ _ (close_put hfr (d := 23) (by decide) (by simp) _ (F := fun u => Det VS US (fun B u w' => Gr W4 w' ∧ (B 7 = true → B 6 = true) ∧ (B 6 = true → ∃ p cs, W4.heap.size ≤ p ∧ u 2 = .pointer (some ⟨p, 0, none⟩) ∧ w'.heap[p]? = some (.cells cs 36 (0, 0)) ∧ cs = if B 7 = true then #[.int .i64 r.d, .int .i64 r.n, .int .i64 r.b, .int .i64 r.a, .int .i64 r.x] else #[.int .i64 0, .int .i64 0, .int .i64 0, .int .i64 0, .int .i64 0])) (upB B 5) u _) (hF.step (by rw [hVS]; simp) (by rw [hUS]; simp) (by simpa [upB, upV] using hFW)))
    · have hFW := hF.wd
      have h17n : ¬ B 7 = true := fun h => by rw [hFW.2.1 h] at hBi; cases hBi
      go_simp
      exact hK.out _ _ (close_put hfr (d := 2) (by decide) (by simp) _ (F := fun u => Det VS US (fun B u w' => Gr W4 w' ∧ (B 7 = true → B 6 = true) ∧ (B 6 = true → ∃ p cs, W4.heap.size ≤ p ∧ u 2 = .pointer (some ⟨p, 0, none⟩) ∧ w'.heap[p]? = some (.cells cs 36 (0, 0)) ∧ cs = if B 7 = true then #[.int .i64 r.d, .int .i64 r.n, .int .i64 r.b, .int .i64 r.a, .int .i64 r.x] else #[.int .i64 0, .int .i64 0, .int .i64 0, .int .i64 0, .int .i64 0])) (upB B 6) u _) (hF.step (by rw [hVS]; simp) (by rw [hUS]; simp) (⟨hFW.1.alloc _, fun h17 => by simp [upB], fun _ => ⟨_, _, Below.size hFW.1, by simp [upV], heap_alloc_new _ _, by rw [if_neg (by simpa [upB] using h17n)]⟩⟩)))
    · have hFW := hF.wd
      have hB4 : B 4 = true := hdp ⟨4, .data⟩ (by simp) (by rfl)
      have e4 := slot_spell (hF.get (i := 4) (d := 22) (v := .agg #[.int .i64 r.d, .int .i64 r.n, .int .i64 r.b, .int .i64 r.a, .int .i64 r.x]) (by rw [hVS]; simp) hB4)
      have hB6 : B 6 = true := hdp ⟨6, .data⟩ (by simp) (by rfl)
      obtain ⟨p, cs, q1, q2, q3, q4⟩ := hFW.2.2 hB6
      rw [if_neg (by rw [hBi]; decide)] at q4
      subst q4
      have e2 := slot_spell q2
      have y0 := cell_of_cells q3 0
      have f0 := free_of_cells q3 0
      have y1 := cell_of_cells q3 1
      have f1 := free_of_cells q3 1
      have y2 := cell_of_cells q3 2
      have f2 := free_of_cells q3 2
      have y3 := cell_of_cells q3 3
      have f3 := free_of_cells q3 3
      have y4 := cell_of_cells q3 4
      have f4 := free_of_cells q3 4
      have pl := lt_of_block q3
      go_simp
      exact hK.out _ _ (close_none hfr undef (F := fun u => Det VS US (fun B u w' => Gr W4 w' ∧ (B 7 = true → B 6 = true) ∧ (B 6 = true → ∃ p cs, W4.heap.size ≤ p ∧ u 2 = .pointer (some ⟨p, 0, none⟩) ∧ w'.heap[p]? = some (.cells cs 36 (0, 0)) ∧ cs = if B 7 = true then #[.int .i64 r.d, .int .i64 r.n, .int .i64 r.b, .int .i64 r.a, .int .i64 r.x] else #[.int .i64 0, .int .i64 0, .int .i64 0, .int .i64 0, .int .i64 0])) (upB B 7) u _) (hF.none (by rw [hVS]; simp) (⟨((((hFW.1.setCell q1 _).setCell q1 _).setCell q1 _).setCell q1 _).setCell q1 _, fun _ => by simpa [upB] using hB6, fun _ => ⟨p, _, q1, q2, five_set q3 _ _ _ _ _, by simp [upB]⟩⟩)))
    · have hFW := hF.wd
      have hB5 : B 5 = true := hdp ⟨5, .data⟩ (by simp) (by rfl)
      have e5 := slot_spell (hF.get (i := 5) (d := 23) (v := .int .i64 r.c) (by rw [hVS]; simp) hB5)
      go_simp
      exact hK.out _ _ (close_put hfr (d := 3) (by decide) (by simp) _ (F := fun u => Det VS US (fun B u w' => Gr W4 w' ∧ (B 7 = true → B 6 = true) ∧ (B 6 = true → ∃ p cs, W4.heap.size ≤ p ∧ u 2 = .pointer (some ⟨p, 0, none⟩) ∧ w'.heap[p]? = some (.cells cs 36 (0, 0)) ∧ cs = if B 7 = true then #[.int .i64 r.d, .int .i64 r.n, .int .i64 r.b, .int .i64 r.a, .int .i64 r.x] else #[.int .i64 0, .int .i64 0, .int .i64 0, .int .i64 0, .int .i64 0])) (upB B 8) u _) (hF.step (by rw [hVS]; simp) (by rw [hUS]; simp) (by simpa [upB, upV] using hFW)))
  · intro B u w' hall hF
    have z0 := hF.get (i := 0) (d := 19) (v := .agg #[.int .i64 3, .string ⟨#[]⟩, .string ⟨#[]⟩, .slice (some ⟨p, 0, none⟩) 3 3, .string ⟨#[]⟩]) (by rw [hVS]; simp) (hall 0 (by simp))
    have z1 := hF.get (i := 1) (d := 20) (v := .agg #[.int .i64 usual.d, .int .i64 usual.n, .int .i64 usual.b, .int .i64 usual.a, .int .i64 usual.x]) (by rw [hVS]; simp) (hall 1 (by simp))
    have z2 := hF.get (i := 2) (d := 21) (v := .tuple #[.agg #[.int .i64 r.d, .int .i64 r.n, .int .i64 r.b, .int .i64 r.a, .int .i64 r.x], .int .i64 r.c]) (by rw [hVS]; simp) (hall 2 (by simp))
    have z3 := hF.get (i := 3) (d := 18) (v := .tuple #[.agg #[.int .i64 r.d, .int .i64 r.n, .int .i64 r.b, .int .i64 r.a, .int .i64 r.x], .int .i64 r.c]) (by rw [hVS]; simp) (hall 3 (by simp))
    have z4 := hF.get (i := 4) (d := 22) (v := .agg #[.int .i64 r.d, .int .i64 r.n, .int .i64 r.b, .int .i64 r.a, .int .i64 r.x]) (by rw [hVS]; simp) (hall 4 (by simp))
    have z5 := hF.get (i := 5) (d := 23) (v := .int .i64 r.c) (by rw [hVS]; simp) (hall 5 (by simp))
    have z8 := hF.get (i := 8) (d := 3) (v := .int .i64 r.c) (by rw [hVS]; simp) (hall 8 (by simp))
    have hFW := hF.wd
    clear hF hVS hUS
    simp only [List.foldl_cons, List.foldl_nil, Act.put, List.setIfInBounds_toArray, List.set_cons_zero, List.set_cons_succ, z0, z1, z2, z3, z4, z5, z8]
    clear z0 z1 z2 z3 z4 z5 z8
    obtain ⟨hg5, _, hp5⟩ := hFW
    obtain ⟨p2, cs, q1, q2, q3, q4⟩ := hp5 (hall 6 (by simp))
    rw [if_pos (hall 7 (by simp))] at q4
    subst q4
    rw [q2]
    have hgw5 : Gr w w' := HG4.out.trans hg5
    have HR5 := Lib.hid (HR4.out.gr hg5)
    have HN5 := Lib.hid (HN4.out.gr hg5)
    have HU5 : Hid (UBox w' p2 ⟨r.d, r.n, r.b, r.a, r.x⟩) := Lib.hid q3
    obtain ⟨k0, k1, k2, k3, k4⟩ := HN5.out.cells
    simp only [show bs [] = ⟨#[]⟩ from rfl] at k0 k1 k2 k3 k4
    have kl := lt_of_block HN5.out
    clear hall hp5 q1 q2 q3 hg5
    generalize u 2 = u2 at *
    go_wp2_with fail
    have hcost := costP_any 4 ⟨3, [], [], some ⟨p, 0, none⟩, 3, 3, []⟩ awT w' HR5.out (by decide +kernel) (by decide +kernel)
    rw [aw_cost] at hcost
    refine hcost.mono ?_
    rintro e w6 ⟨rfl, hb6⟩
    clear hcost
    have hgw6 := hgw5.trans hb6
    have HR6 := Lib.hid (HR5.out.gr hb6)
    have HN6 := Lib.hid (HN5.out.gr hb6)
    have HU6 := Lib.hid (HU5.out.gr hb6)
    clear k0 k1 k2 k3 k4 kl hb6 hgw5 HR5 HN5 HU5 HR4 HN4 HG4 HCHK
    obtain ⟨k0, k1, k2, k3, k4⟩ := HN6.out.cells
    simp only [show bs [] = ⟨#[]⟩ from rfl] at k0 k1 k2 k3 k4
    have kl := lt_of_block HN6.out
    go_wp2_with fail
    have hnam := NamesP_any 4 ⟨3, [], [], some ⟨p, 0, none⟩, 3, 3, []⟩ awT w6 HR6.out (by decide +kernel) (by decide +kernel)
    rw [aw_names] at hnam
    refine hnam.mono ?_
    rintro e w7 ⟨A9, n9, c9, rfl, hrow, hb7⟩
    clear hnam
    have hgw7 := hgw6.trans hb7
    have HR7 := Lib.hid (HR6.out.gr hb7)
    have hn7 := HN6.out.gr hb7
    have hu7 := HU6.out.gr hb7
    clear k0 k1 k2 k3 k4 kl hb7 hgw6 HR6 HN6 HU6
    obtain ⟨h1, _, _, h4⟩ := hrow
    obtain rfl : n9 = 1 := h1
    obtain ⟨g9, rfl, hgl, hgc⟩ := h4 (by decide)
    have x0 := hgc 0 [120] rfl
    obtain ⟨k0, k1, k2, k3, k4⟩ := hn7.cells
    simp only [show bs [] = ⟨#[]⟩ from rfl] at k0 k1 k2 k3 k4
    have kl := lt_of_block hn7
    have y0 := cell_of_cells hu7 0
    have y1 := cell_of_cells hu7 1
    have y2 := cell_of_cells hu7 2
    have y3 := cell_of_cells hu7 3
    have y4 := cell_of_cells hu7 4
    have yl := lt_of_block hu7
    have hre := HRE.out
    have e0 : r.d = 0 := by rw [hre]; rfl
    have e1 : r.n = 0 := by rw [hre]; rfl
    have e2 : r.b = 0 := by rw [hre]; rfl
    have e3 : r.a = 2 := by rw [hre]; rfl
    have e4 : r.x = 2 := by rw [hre]; rfl
    have e5 : r.c = 0 := by rw [hre]; rfl
    clear hre HRE h4 hgc hn7 hu7
    have hal := aliasesP_any 4 ⟨3, [], [], some ⟨p, 0, none⟩, 3, 3, []⟩ awT w7 HR7.out (by decide +kernel) (by decide +kernel)
    rw [aw_kind] at hal
    have HAL := Lib.hid hal
    clear hal
    go_wp2_with fail
    refine HAL.out.mono ?_
    rintro e w8 ⟨rfl, hb8⟩
    have x1 : w8.cell? ⟨g9, 0, none⟩ = some (.string ⟨#[120]⟩) := Gr.cell hb8 x0
    have xl := Gr.lt hb8 hgl

    have hgw8 := hgw7.trans hb8
    clear x0 hgl hb8 HAL k0 k1 k2 k3 k4 kl y0 y1 y2 y3 y4 yl
    go_wp2_with fail
    go_ret
    exact ⟨rfl, hgw8⟩
end Go.Proofs.Ytbfnmgiccbdglaa
