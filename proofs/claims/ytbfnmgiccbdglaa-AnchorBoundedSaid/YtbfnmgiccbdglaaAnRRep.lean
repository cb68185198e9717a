/- The state of the reference's visit in memory; find, walked. -/
import Derived.Test.YtbfnmgiccbdglaaAnRPlain
namespace Go.Proofs.Ytbfnmgiccbdglaa
open Go.ChangeShapes Go.WideShapes Go.ChangeAt Go.RowKit

/-- All blocks but these are as they were. -/
def Off (S : List Nat) (W w : World) : Prop := W.heap.size ≤ w.heap.size ∧ ∀ b, b < W.heap.size → b ∉ S → w.heap[b]? = W.heap[b]?
theorem Off.refl (S : List Nat) (W : World) : Off S W W := ⟨Nat.le_refl _, fun _ _ _ => rfl⟩
theorem Off.trans {S : List Nat} {a b c : World} (h : Off S a b) (k : Off S b c) : Off S a c := ⟨Nat.le_trans h.1 k.1, fun i hi hn => (k.2 i (Nat.lt_of_lt_of_le hi h.1) hn).trans (h.2 i hi hn)⟩
theorem Off.mono {S T : List Nat} {a b : World} (h : Off S a b) (hs : ∀ i ∈ S, i ∈ T) : Off T a b := ⟨h.1, fun i hi hn => h.2 i hi (fun hm => hn (hs i hm))⟩
theorem Off.gr {S : List Nat} {a b : World} (h : Gr a b) : Off S a b := ⟨Below.size h, fun i hi _ => h.block i hi⟩
theorem Off.set {S : List Nat} {a b : World} (h : Off S a b) {p : Addr} (hp : p.block ∈ S) (u : Value) : Off S a (b.setCell p u) :=
  ⟨Nat.le_trans h.1 (by simp), fun i hi hn => (heap_set_other (fun (e : i = p.block) => hn (by rw [e]; exact hp))).trans (h.2 i hi hn)⟩
theorem Off.on {S : List Nat} {P : Nat → Prop} {W w : World} (h : Off S W w) (hP : ∀ b, P b → b ∉ S) : SameOn P W w :=
  ⟨h.1, fun b o hp hb => by simp only [World.cell?, h.2 b hb (hP b hp)]⟩
theorem Off.block {S : List Nat} {W w : World} (h : Off S W w) {b : Nat} {o : Obj} (hb : W.heap[b]? = some o) (hn : b ∉ S) : w.heap[b]? = some o := (h.2 b (lt_of_block hb) hn).trans hb
/-- A node's tree, some levels deep. -/
def NR (P : Nat → Prop) (W : World) (d : ND) (t : NT) : Prop := ∃ m, NRep P m W d t
theorem NR.on {P : Nat → Prop} {W w : World} {d : ND} {t : NT} (h : NR P W d t) (hg : SameOn P W w) : NR P w d t := by
  obtain ⟨m, h⟩ := h
  exact ⟨m, NRep.keep hg m d t h⟩
theorem NRep.fence {P Q : Nat → Prop} : ∀ {m : Nat} {W : World} {v : ND} {t : NT}, (∀ b, P b → b < W.heap.size → Q b) → NRep P m W v t → NRep Q m W v t
  | 0, _, _, _, _, h => h
  | m + 1, W, v, .mk k l x ks e, hq, h => by
    obtain ⟨h1, h2, h3, h4, h5, h6, h7, h8, h9, h10, h11, h12, h13⟩ := h
    refine ⟨h1, h2, h3, h4, h5, h6, h7, h8, h9, h10, h11, h12, fun i y hy => ?_⟩
    obtain ⟨b, o, d, ha, hp, hb, hc, hr⟩ := h13 i y hy
    exact ⟨b, o, d, ha, hq b hp hb, hb, hc, NRep.fence hq hr⟩
theorem NR.fence {P Q : Nat → Prop} {W : World} {d : ND} {t : NT} (hq : ∀ b, P b → b < W.heap.size → Q b) (h : NR P W d t) : NR Q W d t := by
  obtain ⟨m, h⟩ := h
  exact ⟨m, NRep.fence hq h⟩
/-- These cells lie where A says, in a block that P names. -/
def RowP (P : Nat → Prop) (W : World) (A : Option Addr) (cs : List Value) : Prop := cs ≠ [] → ∃ g, A = some ⟨g, 0, none⟩ ∧ P g ∧ g < W.heap.size ∧ ∀ j u, cs[j]? = some u → W.cell? ⟨g, j, none⟩ = some u
theorem RowP.on {P : Nat → Prop} {W w : World} {A : Option Addr} {cs : List Value} (h : RowP P W A cs) (hg : SameOn P W w) : RowP P w A cs := fun hn => by
  obtain ⟨g, ha, hp, hl, hc⟩ := h hn
  exact ⟨g, ha, hp, Nat.lt_of_lt_of_le hl hg.1, fun j u hu => (hg.2 g j hp hl).trans (hc j u hu)⟩
theorem RowP.fence {P Q : Nat → Prop} {W : World} {A : Option Addr} {cs : List Value} (hq : ∀ b, P b → b < W.heap.size → Q b) (h : RowP P W A cs) : RowP Q W A cs := fun hn => by
  obtain ⟨g, ha, hp, hl, hc⟩ := h hn
  exact ⟨g, ha, hq g hp hl, hl, hc⟩
theorem RowP.src {P : Nat → Prop} {W : World} {A : Option Addr} {cs : List Value} {m size : Nat} (h : RowP P W A cs) (hl : cs.length = m * size) (hs : 0 < size) (h1 : ∀ u ∈ cs, u.oneCell' = true) : SrcAt W A m size cs :=
  ⟨hl, h1, fun hm => by
    have hn : cs ≠ [] := fun e => by
      rw [e] at hl
      have : 0 < m * size := Nat.mul_pos hm hs
      simp at hl
      omega
    obtain ⟨g, ha, _, _, hc⟩ := h hn
    exact ⟨_, ha, fun j u hu => by rw [add_shape rfl, Nat.zero_add]; exact hc j u hu⟩⟩
theorem RowP.own {P : Nat → Prop} {W : World} {base size n : Nat} {e : TypeId} {v : Value} {xs : List Value} (h : W.ownsRow base e size v n xs) (hP : ∀ b, base ≤ b → P b) : ∃ A c, v = .slice A n c ∧ n ≤ c ∧ c ≤ maxLen ∧ RowP P W A xs ∧ (A = none → c = 0) := by
  have hl := h.1
  rcases h.2 with ⟨rfl, rfl⟩ | ⟨g, cap, cur, rfl, hb, hg, hnc, hcm, hcs, htk⟩
  · exact ⟨none, 0, rfl, Nat.le_refl _, Nat.zero_le _, fun hn => absurd (by simpa using hl) hn, fun _ => rfl⟩
  · refine ⟨_, cap, rfl, hnc, hcm, fun hn => ⟨g, rfl, hP g hb, lt_of_block hg, fun j u hu => ?_⟩, fun h => by cases h⟩
    have hj := (List.getElem?_eq_some_iff.1 hu).1
    exact (h.cellAt j (by omega)).trans hu
def sV (s : List UInt8) : Value := .string (bs s)
/-- The words of a state that are not numbers. -/
structure SV where
  (A1 : Option Addr) (n1 c1 : Nat) (A2 : Option Addr) (n2 c2 : Nat)
def SV.cells (L : U5) (st : RSt) (a : SV) : Array Value := #[.int .i64 L.d, .int .i64 L.n, .int .i64 L.b, .int .i64 L.a, .int .i64 L.x, .slice a.A1 a.n1 a.c1, .slice a.A2 a.n2 a.c2, .int .i64 st.u.d, .int .i64 st.u.n, .int .i64 st.u.b, .int .i64 st.u.a, .int .i64 st.u.x, .int .i64 st.err]
/-- A complete anchor in memory: its name, the node, the cost. -/
def KE := List UInt8 × ND × Int
def KE.cells (e : List UInt8 × ND × Int) : List Value := [.string (bs e.1), .int .i64 e.2.1.k, .string (bs e.2.1.l), .string (bs e.2.1.x), .slice e.2.1.A e.2.1.n e.2.1.c, .string (bs e.2.1.e), .int .i64 e.2.2]
theorem ke_len (l : List (List UInt8 × ND × Int)) : (l.flatMap KE.cells).length = l.length * 7 := by
  induction l with
  | nil => rfl
  | cons e l ih => rw [List.flatMap_cons, List.length_append, ih, List.length_cons]; simp [KE.cells]; omega
theorem ke_one (l : List (List UInt8 × ND × Int)) : ∀ u ∈ l.flatMap KE.cells, u.oneCell' = true := fun u hu => by
  obtain ⟨e, _, he⟩ := List.mem_flatMap.1 hu
  simp only [KE.cells, List.mem_cons, List.not_mem_nil, or_false] at he
  rcases he with rfl | rfl | rfl | rfl | rfl | rfl | rfl <;> rfl
theorem ke_get {l : List (List UInt8 × ND × Int)} {i : Nat} {e : List UInt8 × ND × Int} (h : l[i]? = some e) {j : Nat} (hj : j < 7) : (l.flatMap KE.cells)[i * 7 + j]? = (KE.cells e)[j]? := by
  induction l generalizing i with
  | nil => simp at h
  | cons a l ih =>
    rw [List.flatMap_cons]
    cases i with
    | zero =>
      simp only [List.getElem?_cons_zero, Option.some.injEq] at h
      subst h
      rw [Nat.zero_mul, Nat.zero_add, List.getElem?_append_left (by simp [KE.cells]; omega)]
    | succ i =>
      simp only [List.getElem?_cons_succ] at h
      rw [List.getElem?_append_right (by simp [KE.cells]; omega)]
      have hl : (KE.cells a).length = 7 := rfl
      rw [hl, show (i + 1) * 7 + j - 7 = i * 7 + j by omega]
      exact ih h
/-- The state st, as these words lead to it. -/
structure SRep (P : Nat → Prop) (W : World) (st : RSt) (a : SV) : Prop where
  n1 : a.n1 = st.names.length
  nc1 : a.n1 ≤ a.c1 ∧ a.c1 ≤ maxLen
  row1 : RowP P W a.A1 (st.names.map sV)
  n2 : a.n2 = st.done.length
  nc2 : a.n2 ≤ a.c2 ∧ a.c2 ≤ maxLen
  ds : ∃ es : List (List UInt8 × ND × Int), es.length = st.done.length ∧ RowP P W a.A2 (es.flatMap KE.cells) ∧ ∀ (i : Nat) (e : List UInt8 × ND × Int), es[i]? = some e → ∃ t, st.done[i]? = some (e.1, t, e.2.2) ∧ NR P W e.2.1 t
theorem SRep.on {P : Nat → Prop} {W w : World} {st : RSt} {a : SV} (h : SRep P W st a) (hg : SameOn P W w) : SRep P w st a := by
  obtain ⟨es, h1, h2, h3⟩ := h.ds
  refine ⟨h.n1, h.nc1, h.row1.on hg, h.n2, h.nc2, es, h1, h2.on hg, fun i e he => ?_⟩
  obtain ⟨t, q1, q2⟩ := h3 i e he
  exact ⟨t, q1, q2.on hg⟩
theorem SRep.fence {P Q : Nat → Prop} {W : World} {st : RSt} {a : SV} (hq : ∀ b, P b → b < W.heap.size → Q b) (h : SRep P W st a) : SRep Q W st a := by
  obtain ⟨es, h1, h2, h3⟩ := h.ds
  refine ⟨h.n1, h.nc1, h.row1.fence hq, h.n2, h.nc2, es, h1, h2.fence hq, fun i e he => ?_⟩
  obtain ⟨t, q1, q2⟩ := h3 i e he
  exact ⟨t, q1, q2.fence hq⟩
theorem SRep.err {P : Nat → Prop} {W : World} {st : RSt} {a : SV} (h : SRep P W st a) (z : Int) : SRep P W { st with err := z } a := ⟨h.n1, h.nc1, h.row1, h.n2, h.nc2, h.ds⟩
theorem SRep.use {P : Nat → Prop} {W : World} {st : RSt} {a : SV} (h : SRep P W st a) (u : U5) : SRep P W { st with u := u } a := ⟨h.n1, h.nc1, h.row1, h.n2, h.nc2, h.ds⟩
theorem seven_set {W : World} {p : Nat} {ba0 ba1 ba2 ba3 ba4 ba5 ba6 : Value} {T : TypeId} (h : W.heap[p]? = some (.cells #[ba0, ba1, ba2, ba3, ba4, ba5, ba6] T (0, 0))) (a0 a1 a2 a3 a4 a5 a6 : Value) : (((((((W.setCell ⟨p, 0, none⟩ (a0)).setCell ⟨p, 1, none⟩ (a1)).setCell ⟨p, 2, none⟩ (a2)).setCell ⟨p, 3, none⟩ (a3)).setCell ⟨p, 4, none⟩ (a4)).setCell ⟨p, 5, none⟩ (a5)).setCell ⟨p, 6, none⟩ (a6)).heap[p]? = some (.cells #[a0, a1, a2, a3, a4, a5, a6] T (0, 0)) := by
  simp [World.setCell, Array.getElem?_modify, h]
theorem state_set {W : World} {p : Nat} {ba0 ba1 ba2 ba3 ba4 ba5 ba6 ba7 ba8 ba9 ba10 ba11 ba12 : Value} {T : TypeId} (h : W.heap[p]? = some (.cells #[ba0, ba1, ba2, ba3, ba4, ba5, ba6, ba7, ba8, ba9, ba10, ba11, ba12] T (0, 0))) (a0 a1 a2 a3 a4 a5 a6 a7 a8 a9 a10 a11 a12 : Value) : (((((((((((((W.setCell ⟨p, 0, none⟩ (a0)).setCell ⟨p, 1, none⟩ (a1)).setCell ⟨p, 2, none⟩ (a2)).setCell ⟨p, 3, none⟩ (a3)).setCell ⟨p, 4, none⟩ (a4)).setCell ⟨p, 5, none⟩ (a5)).setCell ⟨p, 6, none⟩ (a6)).setCell ⟨p, 7, none⟩ (a7)).setCell ⟨p, 8, none⟩ (a8)).setCell ⟨p, 9, none⟩ (a9)).setCell ⟨p, 10, none⟩ (a10)).setCell ⟨p, 11, none⟩ (a11)).setCell ⟨p, 12, none⟩ (a12)).heap[p]? = some (.cells #[a0, a1, a2, a3, a4, a5, a6, a7, a8, a9, a10, a11, a12] T (0, 0)) := by
  simp [World.setCell, Array.getElem?_modify, h]
theorem results_known {fn : Func} {p u : Tmp} (h : fn.results = #[.cell p 79, .tmp u]) (tmps : Array Value) (w : World) (b : Nat) (cs : Array Value) (hc : cs.size = 7) (ht : tmps.getD p undef = .pointer (some ⟨b, 0, none⟩)) (hb : w.heap[b]? = some (.cells cs 79 (0, 0))) : (Go.results fn tmps).run Try.prog w = .ok (.tuple #[.agg cs, tmps.getD u undef]) w := by
  have hl := run_loadVar_row w b 79 79 _ _ _ hb Try.underlying79 rfl (by rw [hc]; kernel_rfl)
  rw [results_cell_tmp h, ht]
  simp only [asAddr, Sem.run_pure, Result.andThen_ok]
  rw [hl]
  rfl
theorem results_state {fn : Func} {p q u : Tmp} (h : fn.results = #[.cell p 68, .cell q 24, .tmp u]) (tmps : Array Value) (w : World) (b c : Nat) (cs ds : Array Value) (hc : cs.size = 13) (hd : ds.size = 5) (ht : tmps.getD p undef = .pointer (some ⟨b, 0, none⟩)) (hb : w.heap[b]? = some (.cells cs 68 (0, 0)))
    (ht2 : tmps.getD q undef = .pointer (some ⟨c, 0, none⟩)) (hb2 : w.heap[c]? = some (.cells ds 24 (0, 0))) : (Go.results fn tmps).run Try.prog w = .ok (.tuple #[.agg cs, .agg ds, tmps.getD u undef]) w := by
  have hl := run_loadVar_row w b 68 68 _ _ _ hb Try.underlying68 rfl (by rw [hc]; kernel_rfl)
  have hl2 := run_loadVar_row w c 24 24 _ _ _ hb2 Try.underlying24 rfl (by rw [hd]; kernel_rfl)
  have e1 : tmps[p]?.getD undef = .pointer (some ⟨b, 0, none⟩) := by simpa using ht
  have e2 : tmps[q]?.getD undef = .pointer (some ⟨c, 0, none⟩) := by simpa using ht2
  simp [results, h, e1, e2, asAddr, hl, hl2]
def KRes (q : Option (List UInt8 × ND × Int)) (w : World) (e : Ending) (w' : World) : Prop := e = .returned (match q with
  | some e => .tuple #[.agg #[.string (bs e.1), .int .i64 e.2.1.k, .string (bs e.2.1.l), .string (bs e.2.1.x), .slice e.2.1.A e.2.1.n e.2.1.c, .string (bs e.2.1.e), .int .i64 e.2.2], .bool true]
  | none => .tuple #[.agg #[.string ⟨#[]⟩, .int .i64 0, .string ⟨#[]⟩, .string ⟨#[]⟩, .slice none 0 0, .string ⟨#[]⟩, .int .i64 0], .bool false]) ∧ Gr w w'
theorem findD_drop {α : Type} {l : List (List UInt8 × α)} {i : Nat} {e : List UInt8 × α} (h : l[i]? = some e) (s : List UInt8) : findD (l.drop i) s = if e.1 = s then some e else findD (l.drop (i + 1)) s := by
  rw [drop_at h]
  unfold findD
  rw [List.find?_cons]
  by_cases hs : e.1 = s
  · simp [hs]
  · have : (e.1 == s) = false := by simp [hs]
    rw [this, if_neg hs]
set_option maxRecDepth 100000 in
set_option maxHeartbeats 4000000 in
theorem findK_any {P : Nat → Prop} (A : Option Addr) (n c : Nat) (es : List (List UInt8 × ND × Int)) (nm : List UInt8) (w : World) (hn : n = es.length) (hn63 : n ≤ 1000000) (hr : RowP P w A (es.flatMap KE.cells)) : Calls Try.prog 56 #[.slice A n c, .string (bs nm)] w (KRes (findD es nm) w) := by
  generalize hq : findD es nm = q
  have HQ := Lib.hid hq
  have HR := Lib.hid hr
  have HN := Lib.hid hn
  clear hq hr hn
  go_enter Try.func56, Try.ntmps56
  go_wp2_with fail
  obtain ⟨W1, hW1⟩ : ∃ W1, W1 = w.alloc (.cells #[.string ⟨#[]⟩, .int .i64 0, .string ⟨#[]⟩, .string ⟨#[]⟩, .slice none 0 0, .string ⟨#[]⟩, .int .i64 0] 79) := ⟨_, rfl⟩
  obtain ⟨p, hp⟩ : ∃ p, p = w.heap.size := ⟨_, rfl⟩
  rw [← hW1]
  have hb : W1.heap[w.heap.size]? = some (.cells #[.string ⟨#[]⟩, .int .i64 0, .string ⟨#[]⟩, .string ⟨#[]⟩, .slice none 0 0, .string ⟨#[]⟩, .int .i64 0] 79 (0, 0)) := by rw [hW1]; exact heap_alloc_new _ _
  have hg : Gr w W1 := by rw [hW1]; exact (Gr.refl w).alloc _
  rw [← hp] at hb ⊢
  have HW := Lib.hid hp
  have HR1 := Lib.hid (HR.out.on (hg.on P))
  have HG := Lib.hid hg
  have y0 := cell_of_cells hb 0
  have f0 := free_of_cells hb 0
  have y1 := cell_of_cells hb 1
  have f1 := free_of_cells hb 1
  have y2 := cell_of_cells hb 2
  have f2 := free_of_cells hb 2
  have y3 := cell_of_cells hb 3
  have f3 := free_of_cells hb 3
  have y4 := cell_of_cells hb 4
  have f4 := free_of_cells hb 4
  have y5 := cell_of_cells hb 5
  have f5 := free_of_cells hb 5
  have y6 := cell_of_cells hb 6
  have f6 := free_of_cells hb 6
  have pl := lt_of_block hb
  have HB := Lib.hid hb
  clear hW1 hp hg hb HR
  go_loopw [6] (fun iv wr => ∃ j : Nat, j ≤ n ∧ iv = .int .i64 j ∧ findD (es.drop j) nm = q ∧ wr = W1) (fun iv _ => n - (intOf iv).toNat)
  case atStart => exact ⟨0, Nat.zero_le _, rfl, HQ.out, rfl⟩
  case round =>
    obtain ⟨j, hj, rfl, hfd, rfl⟩ := hrel
    have HFD := Lib.hid hfd
    clear hfd
    by_cases hlt : j < n
    · obtain ⟨e, he⟩ : ∃ e, es[j]? = some e := ⟨es[j]'(by rw [← HN.out]; omega), List.getElem?_eq_getElem _⟩
      obtain ⟨g, rfl, _, hgl, hgc⟩ := HR1.out (fun h0 => by have h1 := ke_len es; rw [h0] at h1; simp at h1; have := HN.out; omega)
      have x0 := hgc (j * 7 + 0) _ ((ke_get he (j := 0) (by omega)).trans rfl)
      have x1 := hgc (j * 7 + 1) _ ((ke_get he (j := 1) (by omega)).trans rfl)
      have x2 := hgc (j * 7 + 2) _ ((ke_get he (j := 2) (by omega)).trans rfl)
      have x3 := hgc (j * 7 + 3) _ ((ke_get he (j := 3) (by omega)).trans rfl)
      have x4 := hgc (j * 7 + 4) _ ((ke_get he (j := 4) (by omega)).trans rfl)
      have x5 := hgc (j * 7 + 5) _ ((ke_get he (j := 5) (by omega)).trans rfl)
      have x6 := hgc (j * 7 + 6) _ ((ke_get he (j := 6) (by omega)).trans rfl)
      try simp only [Nat.add_zero] at x0
      have HD := Lib.hid (findD_drop he nm)
      have hlt1 : (j : Int) < (n : Int) := by omega
      clear hgc he
      by_cases hs : e.1 = nm
      · have qe : ((bs e.1).toList == (bs nm).toList) = true := by rw [hs]; simp
        have hq2 : q = some e := by rw [← HFD.out, HD.out, if_pos hs]
        have HQ2 := Lib.hid hq2
        clear hs hq2
        go_wp2_with fail
        have hp := HW.out
        refine bodyPost_ret (results_known rfl _ _ _ _ rfl rfl (seven_set HB.out _ _ _ _ _ _ _)) rfl ⟨by rw [HQ2.out]; rfl, ?_⟩
        exact (((((((HG.out.setCell (by simp; omega) _).setCell (by simp; omega) _).setCell (by simp; omega) _).setCell (by simp; omega) _).setCell (by simp; omega) _).setCell (by simp; omega) _).setCell (by simp; omega) _)
      · have qe : ((bs e.1).toList == (bs nm).toList) = false := by simpa [bs_listR] using hs
        have hq2 : findD (es.drop (j + 1)) nm = q := by rw [← HFD.out, HD.out, if_neg hs]
        have HQ2 := Lib.hid hq2
        clear hs hq2
        go_wp2_with fail
        exact ⟨⟨j + 1, by omega, by go_num, HQ2.out, trivial⟩, by simp [intOf] <;> omega⟩
    · have hq2 : q = none := by rw [← HFD.out, List.drop_of_length_le (by rw [← HN.out]; omega)]; rfl
      have HQ2 := Lib.hid hq2
      clear hq2
      go_wp2_with fail
      have hp := HW.out
      refine bodyPost_ret (results_known rfl _ _ _ _ rfl rfl (seven_set HB.out _ _ _ _ _ _ _)) rfl ⟨by rw [HQ2.out]; rfl, ?_⟩
      exact (((((((HG.out.setCell (by simp; omega) _).setCell (by simp; omega) _).setCell (by simp; omega) _).setCell (by simp; omega) _).setCell (by simp; omega) _).setCell (by simp; omega) _).setCell (by simp; omega) _)
end Go.Proofs.Ytbfnmgiccbdglaa
