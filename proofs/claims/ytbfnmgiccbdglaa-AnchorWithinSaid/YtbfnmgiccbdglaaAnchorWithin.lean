/- AnchorWithin returns true for every input: an alias within the value of its anchor or before the anchor is refused, one after it is accepted. No condition. -/
import Derived.Test.YtbfnmgiccbdglaaAnchorLimits
import Derived.Test.YtbfnmgiccbdglaaAnWLaw
namespace Go.Proofs.Ytbfnmgiccbdglaa
open Go.ChangeShapes Go.WideShapes Go.ChangeAt Go.RowKit

/-- A node whose kids lie in one block. -/
theorem NRep.madeP {P : Nat → Prop} {m : Nat} {W : World} {k : Int} {l x e : List UInt8} {b : Nat} {ds : List ND} {ts : List NT} {cs : Array Value} (hp : P b) (hb : W.heap[b]? = some (.cells cs 24 (0, 0))) (hcs : cs = (ds.flatMap ND.cells).toArray) (hl : ds.length = ts.length) (hn : ts.length ≤ maxLen)
    (hk : (Lit.int .i64 k).wf = true) (h1 : l.length ≤ maxLen) (h2 : x.length ≤ maxLen) (h3 : e.length ≤ maxLen) (hr : ∀ (i : Nat) (d : ND) (t : NT), ds[i]? = some d → ts[i]? = some t → NRep P m W d t) :
    NRep P (m + 1) W ⟨k, l, x, some ⟨b, 0, none⟩, ts.length, ts.length, e⟩ (.mk k l x ts e) := by
  refine ⟨rfl, rfl, rfl, rfl, rfl, Nat.le_refl _, hn, hk, h1, h2, h3, (fun h => by cases h), fun i y hy => ?_⟩
  have hi := (List.getElem?_eq_some_iff.1 hy).1
  obtain ⟨d, hd⟩ : ∃ d, ds[i]? = some d := ⟨ds[i]'(by omega), List.getElem?_eq_getElem _⟩
  refine ⟨b, 0, d, rfl, hp, lt_of_block hb, NCells.of (fun j hj => ?_), hr i d y hd hy⟩
  rw [cell_of_cells hb, hcs, Nat.zero_add, List.getElem?_toArray]
  exact flat_get ds i j d hd hj
set_option maxRecDepth 100000 in
set_option maxHeartbeats 4000000 in
theorem leafW_any {P : Nat → Prop} (m : Nat) (d : ND) (t : NT) (w : World) (hP : ∀ b, w.heap.size ≤ b → P b) (hr : NRep P m w d t) : Calls Try.prog 20 #[.agg #[.int .i64 d.k, .string (bs d.l), .string (bs d.x), .slice d.A d.n d.c, .string (bs d.e)]] w (fun e w' => ∃ b, e = .returned (.agg #[.int .i64 5, .string ⟨#[]⟩, .string ⟨#[]⟩, .slice (some ⟨b, 0, none⟩) 1 1, .string ⟨#[]⟩]) ∧ NRep P (m + 1) w' (entD b) (entT t) ∧ Gr w w') := by
  have HR := Lib.hid hr
  clear hr
  go_enter Try.func20, Try.ntmps20
  go_wp2_with fail
  obtain ⟨b, hb⟩ : ∃ b, b = w.heap.size + 1 + 1 := ⟨_, rfl⟩
  rw [← hb]
  obtain ⟨W, hW⟩ : ∃ W, W = ((w.alloc (.cells #[.int .i64 d.k, .string (bs d.l), .string (bs d.x), .slice d.A d.n d.c, .string (bs d.e)] 24)).alloc (.cells #[.int .i64 5, .string ⟨#[]⟩, .string ⟨#[]⟩, .slice (some ⟨b, 0, none⟩) 1 1, .string ⟨#[]⟩] 24)).alloc (.cells #[.int .i64 d.k, .string (bs d.l), .string (bs d.x), .slice d.A d.n d.c, .string (bs d.e)] 24) := ⟨_, rfl⟩
  have hg : Gr w W := by rw [hW]; exact (((Gr.refl w).alloc _).alloc _).alloc _
  have hz : NBox W (w.heap.size + 1) (entD b) := by
    have h := heap_alloc_new (w.alloc (.cells #[.int .i64 d.k, .string (bs d.l), .string (bs d.x), .slice d.A d.n d.c, .string (bs d.e)] 24)) (.cells #[.int .i64 5, .string ⟨#[]⟩, .string ⟨#[]⟩, .slice (some ⟨b, 0, none⟩) 1 1, .string ⟨#[]⟩] 24)
    have hs : (w.alloc (.cells #[.int .i64 d.k, .string (bs d.l), .string (bs d.x), .slice d.A d.n d.c, .string (bs d.e)] 24)).heap.size = w.heap.size + 1 := by simp
    rw [hs] at h
    rw [hW]
    exact NBox.gr (d := entD b) h ((Gr.refl _).alloc _)
  have hk : W.heap[b]? = some (.cells #[.int .i64 d.k, .string (bs d.l), .string (bs d.x), .slice d.A d.n d.c, .string (bs d.e)] 24 (0, 0)) := by
    have h := heap_alloc_new ((w.alloc (.cells #[.int .i64 d.k, .string (bs d.l), .string (bs d.x), .slice d.A d.n d.c, .string (bs d.e)] 24)).alloc (.cells #[.int .i64 5, .string ⟨#[]⟩, .string ⟨#[]⟩, .slice (some ⟨b, 0, none⟩) 1 1, .string ⟨#[]⟩] 24)) (.cells #[.int .i64 d.k, .string (bs d.l), .string (bs d.x), .slice d.A d.n d.c, .string (bs d.e)] 24)
    have hs : ((w.alloc (.cells #[.int .i64 d.k, .string (bs d.l), .string (bs d.x), .slice d.A d.n d.c, .string (bs d.e)] 24)).alloc (.cells #[.int .i64 5, .string ⟨#[]⟩, .string ⟨#[]⟩, .slice (some ⟨b, 0, none⟩) 1 1, .string ⟨#[]⟩] 24)).heap.size = b := by simp [hb]
    rw [hs] at h
    rw [hW]
    exact h
  rw [← hW]
  refine bodyPost_ret (results_cell_row (fn := Try.f20) rfl _ _ _ _ _ _ _ rfl hz Try.underlying24 rfl (by kernel_rfl)) rfl ⟨b, rfl, ?_, hg⟩
  refine NRep.madeP (ds := [d]) (ts := [t]) (k := 5) (l := []) (x := []) (e := []) (hP b (by omega)) hk (by simp [ND.cells]) rfl (by unfold maxLen; simp) (by decide) (Nat.zero_le _) (Nat.zero_le _) (Nat.zero_le _) (fun i d' t' hd ht => ?_)
  match i, hd, ht with
  | 0, hd, ht =>
    cases hd
    cases ht
    exact HR.out.gr hg
structure WSt (nm : List UInt8) (z : Nat) (w : World) (j : Nat) (W : World) : Prop where
  lim : L5Box W z usual
  one : NBox W (z + 1 + 1 + 1) ⟨9, [], 38 :: nm, some ⟨z + 1 + 1, 0, none⟩, 1, 1, []⟩
  oneR : NRep (fun b => b ≠ z + 1) 2 W ⟨9, [], 38 :: nm, some ⟨z + 1 + 1, 0, none⟩, 1, 1, []⟩ (oneT nm)
  inn : ∃ d, NBox W (z + 1) d ∧ NRep (fun b => b ≠ z + 1) (1 + 2 * j) W d (innT nm j)
  gr : Gr w W
theorem NRep.toP {P : Nat → Prop} {W w : World} (hg : SameOn P W w) {m : Nat} {v : ND} {t : NT} (h : NRep P m W v t) : NRep P m w v t := NRep.keep hg m v t h
/-- The list around the alias is stored. -/
theorem WSt.next0 {nm : List UInt8} {z : Nat} {w : World} {j b : Nat} {W w3 : World} (h : WSt nm z w j W) (hg : Gr W w3) (hwz : w.heap.size ≤ z) (hr : NRep (fun b => b ≠ z + 1) (1 + 2 * j + 1) w3 (entD b) (entT (innT nm j))) (o : Obj) (ho : o = .cells #[.int .i64 5, .string ⟨#[]⟩, .string ⟨#[]⟩, .slice (some ⟨b, 0, none⟩) 1 1, .string ⟨#[]⟩] 24) :
    WSt nm z w (j + 1) ((((((w3.alloc o).setCell ⟨z + 1, 0, none⟩ (.int .i64 3)).setCell ⟨z + 1, 1, none⟩ (.string ⟨#[]⟩)).setCell ⟨z + 1, 2, none⟩ (.string ⟨#[]⟩)).setCell ⟨z + 1, 3, none⟩ (.slice (some ⟨w3.heap.size, 0, none⟩) 1 1)).setCell ⟨z + 1, 4, none⟩ (.string ⟨#[]⟩)) := by
  obtain ⟨d, hd, _⟩ := h.inn
  have hg4 : Gr w3 (w3.alloc o) := (Gr.refl _).alloc _
  have hz : z + 1 < w3.heap.size := Nat.lt_of_lt_of_le (lt_of_block hd) (Below.size hg)
  have hoth : ∀ k, k ≠ z + 1 → ((((((w3.alloc o).setCell ⟨z + 1, 0, none⟩ (.int .i64 3)).setCell ⟨z + 1, 1, none⟩ (.string ⟨#[]⟩)).setCell ⟨z + 1, 2, none⟩ (.string ⟨#[]⟩)).setCell ⟨z + 1, 3, none⟩ (.slice (some ⟨w3.heap.size, 0, none⟩) 1 1)).setCell ⟨z + 1, 4, none⟩ (.string ⟨#[]⟩)).heap[k]? = (w3.alloc o).heap[k]? := fun k hk => by
    rw [heap_set_other hk, heap_set_other hk, heap_set_other hk, heap_set_other hk, heap_set_other hk]
  have hsame : SameOn (fun b => b ≠ z + 1) (w3.alloc o) ((((((w3.alloc o).setCell ⟨z + 1, 0, none⟩ (.int .i64 3)).setCell ⟨z + 1, 1, none⟩ (.string ⟨#[]⟩)).setCell ⟨z + 1, 2, none⟩ (.string ⟨#[]⟩)).setCell ⟨z + 1, 3, none⟩ (.slice (some ⟨w3.heap.size, 0, none⟩) 1 1)).setCell ⟨z + 1, 4, none⟩ (.string ⟨#[]⟩)) :=
    ⟨by simp, fun b off hb _ => by simp only [World.cell?, hoth b hb]⟩
  have hgw : Gr w (w3.alloc o) := (h.gr.trans hg).trans hg4
  refine ⟨(hoth z (by omega)).trans (h.lim.gr (hg.trans hg4)), (hoth _ (by omega)).trans (h.one.gr (hg.trans hg4)), (h.oneR.gr (hg.trans hg4)).toP hsame, ⟨⟨3, [], [], some ⟨w3.heap.size, 0, none⟩, 1, 1, []⟩, NBox.set (hd.gr (hg.trans hg4)) ⟨3, [], [], some ⟨w3.heap.size, 0, none⟩, 1, 1, []⟩, ?_⟩, ((((hgw.setCell (by simp; omega) _).setCell (by simp; omega) _).setCell (by simp; omega) _).setCell (by simp; omega) _).setCell (by simp; omega) _⟩
  have hm : NRep (fun b => b ≠ z + 1) (1 + 2 * j + 1 + 1) (w3.alloc o) ⟨3, [], [], some ⟨w3.heap.size, 0, none⟩, 1, 1, []⟩ (.mk 3 [] [] [entT (innT nm j)] []) :=
    NRep.madeP (ds := [entD b]) (ts := [entT (innT nm j)]) (k := 3) (l := []) (x := []) (e := []) (show w3.heap.size ≠ z + 1 by omega) (by rw [ho]; exact heap_alloc_new w3 _) (by simp [ND.cells, entD, bs]) rfl (by unfold maxLen; simp) (by decide) (Nat.zero_le _) (Nat.zero_le _) (Nat.zero_le _) (fun i d' t' hd ht => by
      match i, hd, ht with
      | 0, hd, ht => cases hd; cases ht; exact hr.gr hg4)
  exact hm.toP hsame
theorem WSt.next {nm : List UInt8} {z : Nat} {w : World} {j b : Nat} {W w3 : World} (h : WSt nm z w j W) (hg : Gr W w3) (hwz : w.heap.size ≤ z) (hr : NRep (fun b => b ≠ z + 1) (1 + 2 * j + 1) w3 (entD b) (entT (innT nm j))) (o : Obj) (ho : o = .cells #[.int .i64 5, .string ⟨#[]⟩, .string ⟨#[]⟩, .slice (some ⟨b, 0, none⟩) 1 1, .string ⟨#[]⟩] 24) :
    WSt nm z w (j + 1) ((((((w3.setCell ⟨z + 1, 0, none⟩ (.int .i64 3)).setCell ⟨z + 1, 1, none⟩ (.string ⟨#[]⟩)).setCell ⟨z + 1, 2, none⟩ (.string ⟨#[]⟩)).setCell ⟨z + 1, 3, none⟩ (.slice (some ⟨w3.heap.size, 0, none⟩) 1 1)).setCell ⟨z + 1, 4, none⟩ (.string ⟨#[]⟩)).alloc o) := by
  obtain ⟨d, hd, _⟩ := h.inn
  have hz : z + 1 < w3.heap.size := Nat.lt_of_lt_of_le (lt_of_block hd) (Below.size hg)
  have h0 := WSt.next0 h hg hwz hr o ho
  rw [World.setCell_alloc_past _ _ _ _ (by simpa using hz), World.setCell_alloc_past _ _ _ _ (by simpa using hz), World.setCell_alloc_past _ _ _ _ (by simpa using hz), World.setCell_alloc_past _ _ _ _ (by simpa using hz), World.setCell_alloc_past _ _ _ _ (by simpa using hz)] at h0
  exact h0
theorem NRep.any {P : Nat → Prop} : ∀ {m : Nat} {W : World} {v : ND} {t : NT}, NRep P m W v t → NRep anyB m W v t
  | 0, _, _, _, h => h
  | m + 1, W, v, .mk k l x ks e, h => by
    obtain ⟨h1, h2, h3, h4, h5, h6, h7, h8, h9, h10, h11, h12, h13⟩ := h
    refine ⟨h1, h2, h3, h4, h5, h6, h7, h8, h9, h10, h11, h12, fun i y hy => ?_⟩
    obtain ⟨b, o, d, ha, hp, hb, hc, hr⟩ := h13 i y hy
    exact ⟨b, o, d, ha, trivial, hb, hc, NRep.any hr⟩
def oneD (z : Nat) (nm : List UInt8) : ND := ⟨9, [], 38 :: nm, some ⟨z + 1 + 1, 0, none⟩, 1, 1, []⟩
/-- The two nodes and the limits, once they are made. -/
structure WEnd (nm : List UInt8) (z j : Nat) (d : ND) (W : World) : Prop where
  lim : L5Box W z usual
  one : NBox W (z + 1 + 1 + 1) (oneD z nm)
  oneR : NRep anyB 2 W (oneD z nm) (oneT nm)
  inn : NBox W (z + 1) d
  innR : NRep anyB (1 + 2 * j) W d (innT nm j)
theorem WEnd.gr {nm : List UInt8} {z j : Nat} {d : ND} {W w : World} (h : WEnd nm z j d W) (hg : Gr W w) : WEnd nm z j d w := ⟨h.lim.gr hg, h.one.gr hg, h.oneR.gr hg, h.inn.gr hg, h.innR.gr hg⟩
theorem L5Box.cells {W : World} {b : Nat} {L : U5} (h : L5Box W b L) : W.cell? ⟨b, 0, none⟩ = some (.int .i64 L.d) ∧ W.cell? ⟨b, 1, none⟩ = some (.int .i64 L.n) ∧ W.cell? ⟨b, 2, none⟩ = some (.int .i64 L.b) ∧ W.cell? ⟨b, 3, none⟩ = some (.int .i64 L.a) ∧ W.cell? ⟨b, 4, none⟩ = some (.int .i64 L.x) :=
  ⟨cell_of_cells h 0, cell_of_cells h 1, cell_of_cells h 2, cell_of_cells h 3, cell_of_cells h 4⟩
theorem deep_mod {deep : Nat} (h : deep ≤ 255) : (wrap64 (deep : Int)).tmod 20 = ((deep % 20 : Nat) : Int) := by
  have h1 : wrap64 (deep : Int) = (deep : Int) := by unfold wrap64; omega
  rw [h1, Int.tmod_eq_emod_of_nonneg (by omega)]
  omega
theorem deep_le {deep : Nat} : deep % 20 ≤ 20 := by omega
/-- The letter of a byte. -/
def letF (z : Int) : UInt8 := UInt8.ofNat (97 + z % 26).toNat
def nameF (zs : List Int) (i : Nat) : List UInt8 := (zs.take i).map letF
theorem nameF_succ {zs : List Int} {i : Nat} {z : Int} (h : zs[i]? = some z) : nameF zs (i + 1) = nameF zs i ++ [letF z] := by
  unfold nameF
  rw [List.take_add_one, h]
  simp
theorem letF_ok (z : Int) : ncB (letF z) = true := by
  have h1 : 0 ≤ z % 26 := Int.emod_nonneg _ (by decide)
  have h2 : z % 26 < 26 := Int.emod_lt_of_pos _ (by decide)
  have h3 : (letF z).toNat = (97 + z % 26).toNat := by
    unfold letF
    rw [UInt8.toNat_ofNat']
    omega
  unfold ncB
  rw [decide_eq_true_eq, h3]
  omega
theorem WSt.start {nm : List UInt8} {z : Nat} {w w2 : World} (hz : z = w2.heap.size) (hg : Gr w w2) (hn : GoodN nm) : WSt nm z w 0 ((((w2.alloc (.cells #[.int .i64 usual.d, .int .i64 usual.n, .int .i64 usual.b, .int .i64 usual.a, .int .i64 usual.x] 35)).alloc (.cells #[.int .i64 10, .string ⟨#[]⟩, .string (bs (42 :: nm)), .slice none 0 0, .string ⟨#[]⟩] 24)).alloc (.cells #[.int .i64 2, .string ⟨#[]⟩, .string ⟨#[49]⟩, .slice none 0 0, .string ⟨#[]⟩] 24)).alloc (.cells #[.int .i64 9, .string ⟨#[]⟩, .string (bs (38 :: nm)), .slice (some ⟨z + 1 + 1, 0, none⟩) 1 1, .string ⟨#[]⟩] 24)) := by
  have hl : nm.length ≤ 64 := hn.le
  have h1 : ((w2.alloc (.cells #[.int .i64 usual.d, .int .i64 usual.n, .int .i64 usual.b, .int .i64 usual.a, .int .i64 usual.x] 35))).heap.size = z + 1 := by simp [hz]
  have h2 : ((w2.alloc (.cells #[.int .i64 usual.d, .int .i64 usual.n, .int .i64 usual.b, .int .i64 usual.a, .int .i64 usual.x] 35)).alloc (.cells #[.int .i64 10, .string ⟨#[]⟩, .string (bs (42 :: nm)), .slice none 0 0, .string ⟨#[]⟩] 24)).heap.size = z + 1 + 1 := by simp [hz]
  have h3 : (((w2.alloc (.cells #[.int .i64 usual.d, .int .i64 usual.n, .int .i64 usual.b, .int .i64 usual.a, .int .i64 usual.x] 35)).alloc (.cells #[.int .i64 10, .string ⟨#[]⟩, .string (bs (42 :: nm)), .slice none 0 0, .string ⟨#[]⟩] 24)).alloc (.cells #[.int .i64 2, .string ⟨#[]⟩, .string ⟨#[49]⟩, .slice none 0 0, .string ⟨#[]⟩] 24)).heap.size = z + 1 + 1 + 1 := by simp [hz]
  have hi := heap_alloc_new (w2.alloc (.cells #[.int .i64 usual.d, .int .i64 usual.n, .int .i64 usual.b, .int .i64 usual.a, .int .i64 usual.x] 35)) (.cells #[.int .i64 10, .string ⟨#[]⟩, .string (bs (42 :: nm)), .slice none 0 0, .string ⟨#[]⟩] 24)
  rw [h1] at hi
  have hk := heap_alloc_new ((w2.alloc (.cells #[.int .i64 usual.d, .int .i64 usual.n, .int .i64 usual.b, .int .i64 usual.a, .int .i64 usual.x] 35)).alloc (.cells #[.int .i64 10, .string ⟨#[]⟩, .string (bs (42 :: nm)), .slice none 0 0, .string ⟨#[]⟩] 24)) (.cells #[.int .i64 2, .string ⟨#[]⟩, .string ⟨#[49]⟩, .slice none 0 0, .string ⟨#[]⟩] 24)
  rw [h2] at hk
  have ho := heap_alloc_new (((w2.alloc (.cells #[.int .i64 usual.d, .int .i64 usual.n, .int .i64 usual.b, .int .i64 usual.a, .int .i64 usual.x] 35)).alloc (.cells #[.int .i64 10, .string ⟨#[]⟩, .string (bs (42 :: nm)), .slice none 0 0, .string ⟨#[]⟩] 24)).alloc (.cells #[.int .i64 2, .string ⟨#[]⟩, .string ⟨#[49]⟩, .slice none 0 0, .string ⟨#[]⟩] 24)) (.cells #[.int .i64 9, .string ⟨#[]⟩, .string (bs (38 :: nm)), .slice (some ⟨z + 1 + 1, 0, none⟩) 1 1, .string ⟨#[]⟩] 24)
  rw [h3] at ho
  have hk2 := (((Gr.refl (((w2.alloc (.cells #[.int .i64 usual.d, .int .i64 usual.n, .int .i64 usual.b, .int .i64 usual.a, .int .i64 usual.x] 35)).alloc (.cells #[.int .i64 10, .string ⟨#[]⟩, .string (bs (42 :: nm)), .slice none 0 0, .string ⟨#[]⟩] 24)).alloc (.cells #[.int .i64 2, .string ⟨#[]⟩, .string ⟨#[49]⟩, .slice none 0 0, .string ⟨#[]⟩] 24))).alloc (.cells #[.int .i64 9, .string ⟨#[]⟩, .string (bs (38 :: nm)), .slice (some ⟨z + 1 + 1, 0, none⟩) 1 1, .string ⟨#[]⟩] 24)).block (z + 1 + 1) (by omega)).trans hk
  refine ⟨?_, ho, ?_, ⟨⟨10, [], 42 :: nm, none, 0, 0, []⟩, NBox.gr (d := ⟨10, [], 42 :: nm, none, 0, 0, []⟩) hi (((Gr.refl _).alloc _).alloc _), ?_⟩, (((hg.alloc _).alloc _).alloc _).alloc _⟩
  · rw [hz]
    exact L5Box.gr (L := usual) (heap_alloc_new w2 (.cells #[.int .i64 usual.d, .int .i64 usual.n, .int .i64 usual.b, .int .i64 usual.a, .int .i64 usual.x] 35)) ((((Gr.refl _).alloc _).alloc _).alloc _)
  · exact NRep.madeP (m := 1) (ds := [⟨2, [], [49], none, 0, 0, []⟩]) (ts := [scT]) (k := 9) (l := []) (x := 38 :: nm) (e := []) (show z + 1 + 1 ≠ z + 1 by omega) hk2 (by simp [ND.cells, bs]) rfl (by unfold maxLen; simp) (by decide) (Nat.zero_le _) (by unfold maxLen; simp; omega) (Nat.zero_le _) (fun i d' t' hd ht => by
      match i, hd, ht with
      | 0, hd, ht =>
        cases hd
        cases ht
        exact ⟨rfl, rfl, rfl, rfl, rfl, Nat.le_refl _, Nat.zero_le _, by decide, Nat.zero_le _, by unfold maxLen; simp, Nat.zero_le _, fun _ => rfl, fun i y hy => by simp at hy⟩)
  · exact ⟨rfl, rfl, rfl, rfl, rfl, Nat.le_refl _, Nat.zero_le _, by decide, Nat.zero_le _, by unfold maxLen; simp; omega, Nat.zero_le _, fun _ => rfl, fun i y hy => by simp at hy⟩
theorem NRep.made1 {nm : List UInt8} {m j : Nat} {wr : World} {d : ND} (h : NRep anyB m wr d (innT nm j)) (hn : nm.length < 100) : NRep anyB (m + 1) (wr.alloc (.cells #[.int .i64 d.k, .string (bs d.l), .string (bs d.x), .slice d.A d.n d.c, .string (bs d.e)] 24)) ⟨9, [], 38 :: nm, some ⟨wr.heap.size, 0, none⟩, 1, 1, []⟩ (wT1 nm j) :=
  NRep.made (ds := [d]) (ts := [innT nm j]) (k := 9) (l := []) (x := 38 :: nm) (e := []) (heap_alloc_new wr (.cells #[.int .i64 d.k, .string (bs d.l), .string (bs d.x), .slice d.A d.n d.c, .string (bs d.e)] 24)) (by simp [ND.cells]) rfl (by unfold maxLen; simp) (by decide) (Nat.zero_le _) (by unfold maxLen; simp; omega) (Nat.zero_le _) (fun i d' t' hd ht => by
    match i, hd, ht with
    | 0, hd, ht => cases hd; cases ht; exact h.gr ((Gr.refl wr).alloc _))
def twoD (p : Nat) : ND := ⟨3, [], [], some ⟨p, 0, none⟩, 2, 2, []⟩
theorem NRep.made2 {w : World} {b1 b2 : Nat} {T1 T2 : NT} (h1 : NRep anyB 50 w (entD b1) (entT T1)) (h2 : NRep anyB 50 w (entD b2) (entT T2)) : NRep anyB 51 (w.alloc (.cells #[.int .i64 5, .string ⟨#[]⟩, .string ⟨#[]⟩, .slice (some ⟨b1, 0, none⟩) 1 1, .string ⟨#[]⟩, .int .i64 5, .string ⟨#[]⟩, .string ⟨#[]⟩, .slice (some ⟨b2, 0, none⟩) 1 1, .string ⟨#[]⟩] 24)) (twoD w.heap.size) (wT2 T1 T2) :=
  NRep.made (ds := [entD b1, entD b2]) (ts := [entT T1, entT T2]) (k := 3) (l := []) (x := []) (e := []) (heap_alloc_new w _) (by simp [ND.cells, entD, bs]) rfl (by unfold maxLen; simp) (by decide) (Nat.zero_le _) (Nat.zero_le _) (Nat.zero_le _) (fun i d' t' hd ht => by
    match i, hd, ht with
    | 0, hd, ht => cases hd; cases ht; exact h1.gr ((Gr.refl w).alloc _)
    | 1, hd, ht => cases hd; cases ht; exact h2.gr ((Gr.refl w).alloc _))
/-- What a region has made that puts two nodes into a list, checks that and stores the usage. -/
structure RD (W0 : World) (T1 T2 : NT) (cs : Array Value) (s1 s3 s4 s5 s11 : Nat) (B : Nat → Bool) (u : Nat → Value) (w : World) : Prop where
  gr : Gr W0 w
  late : B 12 = true → B 11 = true
  done : B 12 = true → B 4 = true ∧ B 5 = true ∧ B 7 = true
  c1 : B 12 = false → B 1 = true → ∃ b, u s1 = .agg #[.int .i64 5, .string ⟨#[]⟩, .string ⟨#[]⟩, .slice (some ⟨b, 0, none⟩) 1 1, .string ⟨#[]⟩] ∧ NRep anyB 50 w (entD b) (entT T1)
  c3 : B 12 = false → B 3 = true → ∃ b, u s3 = .agg #[.int .i64 5, .string ⟨#[]⟩, .string ⟨#[]⟩, .slice (some ⟨b, 0, none⟩) 1 1, .string ⟨#[]⟩] ∧ NRep anyB 50 w (entD b) (entT T2)
  c4 : B 12 = false → B 4 = true → ∃ p, u s4 = .slice (some ⟨p, 0, none⟩) 2 2 ∧ NRep anyB 51 w (twoD p) (wT2 T1 T2)
  c5 : B 12 = false → B 5 = true → ∃ p, u s5 = .agg #[.int .i64 3, .string ⟨#[]⟩, .string ⟨#[]⟩, .slice (some ⟨p, 0, none⟩) 2 2, .string ⟨#[]⟩] ∧ NRep anyB 51 w (twoD p) (wT2 T1 T2)
  c11 : B 11 = true → ∃ p c, W0.heap.size ≤ p ∧ u s11 = .pointer (some ⟨p, 0, none⟩) ∧ w.heap[p]? = some (.cells c 36 (0, 0)) ∧ c = if B 12 = true then cs else #[.int .i64 0, .int .i64 0, .int .i64 0, .int .i64 0, .int .i64 0]
theorem RD.start {W0 w : World} {T1 T2 : NT} {cs : Array Value} {s1 s3 s4 s5 s11 : Nat} {u : Nat → Value} (hg : Gr W0 w) : RD W0 T1 T2 cs s1 s3 s4 s5 s11 (fun _ => false) u w :=
  ⟨hg, (fun h => by cases h), (fun h => by cases h), (fun _ h => by cases h), (fun _ h => by cases h), (fun _ h => by cases h), (fun _ h => by cases h), (fun h => by cases h)⟩
theorem upV_at {u : Nat → Value} {d s : Nat} {v : Value} (h : d = s) : upV u d v s = v := by unfold upV; rw [if_pos h.symm]
theorem upV_off {u : Nat → Value} {d s : Nat} {v : Value} (h : d ≠ s) : upV u d v s = u s := by unfold upV; rw [if_neg (Ne.symm h)]
theorem upB_off {B : Nat → Bool} {i k : Nat} (h : i ≠ k) : upB B i k = B k := by unfold upB; rw [if_neg (Ne.symm h)]
theorem RD.step {W0 w w' : World} {T1 T2 : NT} {cs : Array Value} {s1 s3 s4 s5 s11 : Nat} {B : Nat → Bool} {u : Nat → Value} (h : RD W0 T1 T2 cs s1 s3 s4 s5 s11 B u w) (hg : Gr w w') {i d : Nat} {v : Value} (h0 : B i = false) (h12 : i ≠ 12)
    (n1 : (i = 1 ∧ d = s1 ∧ ∃ b, v = .agg #[.int .i64 5, .string ⟨#[]⟩, .string ⟨#[]⟩, .slice (some ⟨b, 0, none⟩) 1 1, .string ⟨#[]⟩] ∧ NRep anyB 50 w' (entD b) (entT T1)) ∨ (i ≠ 1 ∧ d ≠ s1)) (n3 : (i = 3 ∧ d = s3 ∧ ∃ b, v = .agg #[.int .i64 5, .string ⟨#[]⟩, .string ⟨#[]⟩, .slice (some ⟨b, 0, none⟩) 1 1, .string ⟨#[]⟩] ∧ NRep anyB 50 w' (entD b) (entT T2)) ∨ (i ≠ 3 ∧ d ≠ s3))
    (n4 : (i = 4 ∧ d = s4 ∧ ∃ p, v = .slice (some ⟨p, 0, none⟩) 2 2 ∧ NRep anyB 51 w' (twoD p) (wT2 T1 T2)) ∨ (i ≠ 4 ∧ d ≠ s4)) (n5 : (i = 5 ∧ d = s5 ∧ ∃ p, v = .agg #[.int .i64 3, .string ⟨#[]⟩, .string ⟨#[]⟩, .slice (some ⟨p, 0, none⟩) 2 2, .string ⟨#[]⟩] ∧ NRep anyB 51 w' (twoD p) (wT2 T1 T2)) ∨ (i ≠ 5 ∧ d ≠ s5))
    (n11 : (i = 11 ∧ d = s11 ∧ ∃ p, W0.heap.size ≤ p ∧ v = .pointer (some ⟨p, 0, none⟩) ∧ w'.heap[p]? = some (.cells #[.int .i64 0, .int .i64 0, .int .i64 0, .int .i64 0, .int .i64 0] 36 (0, 0))) ∨ (i ≠ 11 ∧ d ≠ s11)) : RD W0 T1 T2 cs s1 s3 s4 s5 s11 (upB B i) (upV u d v) w' := by
  have b12 : upB B i 12 = B 12 := upB_off h12
  have hb12 : i = 11 → B 12 = false := fun hi => by
    cases hx : B 12 with
    | false => rfl
    | true => have := h.late hx; rw [← hi, h0] at this; cases this
  refine ⟨h.gr.trans hg, fun hb => ?_, fun hb => ?_, fun hb hx => ?_, fun hb hx => ?_, fun hb hx => ?_, fun hb hx => ?_, fun hx => ?_⟩
  · rw [b12] at hb
    unfold upB
    split
    · rfl
    · exact h.late hb
  · rw [b12] at hb
    obtain ⟨h4, h5, h7⟩ := h.done hb
    unfold upB
    exact ⟨by split; exact rfl; exact h4, by split; exact rfl; exact h5, by split; exact rfl; exact h7⟩
  · rw [b12] at hb
    rcases n1 with ⟨_, hd, b, hv, hr⟩ | ⟨hi, hd⟩
    · exact ⟨b, (upV_at hd).trans hv, hr⟩
    · rw [upB_off hi] at hx
      obtain ⟨b, he, hr⟩ := h.c1 hb hx
      exact ⟨b, (upV_off hd).trans he, hr.gr hg⟩
  · rw [b12] at hb
    rcases n3 with ⟨_, hd, b, hv, hr⟩ | ⟨hi, hd⟩
    · exact ⟨b, (upV_at hd).trans hv, hr⟩
    · rw [upB_off hi] at hx
      obtain ⟨b, he, hr⟩ := h.c3 hb hx
      exact ⟨b, (upV_off hd).trans he, hr.gr hg⟩
  · rw [b12] at hb
    rcases n4 with ⟨_, hd, b, hv, hr⟩ | ⟨hi, hd⟩
    · exact ⟨b, (upV_at hd).trans hv, hr⟩
    · rw [upB_off hi] at hx
      obtain ⟨b, he, hr⟩ := h.c4 hb hx
      exact ⟨b, (upV_off hd).trans he, hr.gr hg⟩
  · rw [b12] at hb
    rcases n5 with ⟨_, hd, b, hv, hr⟩ | ⟨hi, hd⟩
    · exact ⟨b, (upV_at hd).trans hv, hr⟩
    · rw [upB_off hi] at hx
      obtain ⟨b, he, hr⟩ := h.c5 hb hx
      exact ⟨b, (upV_off hd).trans he, hr.gr hg⟩
  · rcases n11 with ⟨hi, hd, p, hp, hv, hc⟩ | ⟨hi, hd⟩
    · exact ⟨p, _, hp, (upV_at hd).trans hv, hc, by rw [b12, if_neg (by rw [hb12 hi]; decide)]⟩
    · rw [upB_off hi] at hx
      obtain ⟨p, c, hp, he, hb, hc⟩ := h.c11 hx
      exact ⟨p, c, hp, (upV_off hd).trans he, (hg.block p (lt_of_block hb)).trans hb, by rw [b12]; exact hc⟩
theorem RD.other {W0 w w' : World} {T1 T2 : NT} {cs : Array Value} {s1 s3 s4 s5 s11 : Nat} {B : Nat → Bool} {u : Nat → Value} (h : RD W0 T1 T2 cs s1 s3 s4 s5 s11 B u w) (hg : Gr w w') {i d : Nat} {v : Value} (h0 : B i = false) (hi : i ≠ 12 ∧ i ≠ 1 ∧ i ≠ 3 ∧ i ≠ 4 ∧ i ≠ 5 ∧ i ≠ 11) (hd : d ≠ s1 ∧ d ≠ s3 ∧ d ≠ s4 ∧ d ≠ s5 ∧ d ≠ s11) : RD W0 T1 T2 cs s1 s3 s4 s5 s11 (upB B i) (upV u d v) w' :=
  h.step hg h0 hi.1 (.inr ⟨hi.2.1, hd.1⟩) (.inr ⟨hi.2.2.1, hd.2.1⟩) (.inr ⟨hi.2.2.2.1, hd.2.2.1⟩) (.inr ⟨hi.2.2.2.2.1, hd.2.2.2.1⟩) (.inr ⟨hi.2.2.2.2.2, hd.2.2.2.2⟩)
theorem RD.store {W0 w : World} {T1 T2 : NT} {cs : Array Value} {s1 s3 s4 s5 s11 p : Nat} {B : Nat → Bool} {u : Nat → Value} (h : RD W0 T1 T2 cs s1 s3 s4 s5 s11 B u w) (h11 : B 11 = true) (h4 : B 4 = true) (h5 : B 5 = true) (h7 : B 7 = true) (hp : W0.heap.size ≤ p) (he : u s11 = .pointer (some ⟨p, 0, none⟩)) (q3 : w.heap[p]? = some (.cells #[.int .i64 0, .int .i64 0, .int .i64 0, .int .i64 0, .int .i64 0] 36 (0, 0))) {a b c d e : Value} (hcs : cs = #[a, b, c, d, e]) :
    RD W0 T1 T2 cs s1 s3 s4 s5 s11 (upB B 12) u (((((w.setCell ⟨p, 0, none⟩ a).setCell ⟨p, 1, none⟩ b).setCell ⟨p, 2, none⟩ c).setCell ⟨p, 3, none⟩ d).setCell ⟨p, 4, none⟩ e) :=
  ⟨((((h.gr.setCell hp _).setCell hp _).setCell hp _).setCell hp _).setCell hp _, fun _ => by rw [upB_off (by decide)]; exact h11, fun _ => ⟨by rw [upB_off (by decide)]; exact h4, by rw [upB_off (by decide)]; exact h5, by rw [upB_off (by decide)]; exact h7⟩, (fun h => by cases h), (fun h => by cases h), (fun h => by cases h), (fun h => by cases h), fun _ => ⟨p, _, hp, he, five_set q3 _ _ _ _ _, by rw [hcs]; exact (if_pos rfl).symm⟩⟩
set_option maxRecDepth 100000 in
set_option maxHeartbeats 4000000 in
theorem within_any (A : Option Addr) (n c : Nat) (zs : List Int) (deep : Nat) (w : World) (HZ : Hid (IntsAt .u8 w A n zs)) (hn : n ≤ maxLen) (hd : deep ≤ 255) : Calls Try.prog 6 #[.slice A n c, .int .u8 deep] w (RB true w) := by
  unfold maxLen at hn
  go_enter Try.func6, Try.ntmps6
  go_wp2_with fail
  go_loopw [5, 6] (fun sv iv wr => ∃ i : Nat, i ≤ n ∧ i ≤ 64 ∧ iv = .int .i64 i ∧ sv = .string (bs (nameF zs i)) ∧ Gr w wr) (fun _ iv _ => n - (intOf iv).toNat)
  case atStart => exact ⟨0, Nat.zero_le _, Nat.zero_le _, rfl, rfl, Gr.refl _⟩
  case round =>
    obtain ⟨i, hi, hi64, rfl, rfl, hG⟩ := hrel
    by_cases hlt : i < n ∧ i < 64
    · obtain ⟨h1, h2⟩ := hlt
      obtain ⟨z, hz⟩ : ∃ z, zs[i]? = some z := ⟨zs[i]'(by rw [HZ.out.1]; omega), List.getElem?_eq_getElem _⟩
      obtain ⟨g, off, rfl, hgl, hgc⟩ := HZ.out.2.2 (by omega)
      have hzw := HZ.out.2.1 z (List.mem_of_getElem? hz)
      have hz0 : 0 ≤ z ∧ z ≤ 255 := by
        have h2 : IntKind.u8.min = 0 := by rfl
        have h3 : IntKind.u8.max = 255 := by rfl
        simp only [Lit.wf, h2, h3, Bool.and_eq_true, decide_eq_true_eq] at hzw
        omega
      have c1 : wr.cell? ⟨g, off + i, none⟩ = some (.int .u8 z) := by
        have h := Gr.cell hG (hgc i h1)
        rw [List.getD, hz] at h
        exact h
      have gl := Gr.lt hG hgl
      have HNS := Lib.hid (nameF_succ hz)
      clear hgc hz hzw
      have hconv : (convert 47 9 (.slice (some ⟨wr.heap.size, 0, none⟩) 1 1)).run Try.prog (wr.alloc (.cells #[.int .u8 (97 + z % 26)] 5)) = .ok (.string (bs [letF z])) (wr.alloc (.cells #[.int .u8 (97 + z % 26)] 5)) :=
        (run_convert_bytes_arg _ 47 5 Try.underlying47 Try.underlying5 wr.heap.size 0 1 1 [97 + z % 26] rfl (fun j hj => by
          have hj0 : j = 0 := by omega
          subst hj0
          exact cell_of_cells (heap_alloc_new wr _) 0) 9 Try.underlying9)
      have hs1 : (bs (nameF zs i)).size = i := by
        show (nameF zs i).length = i
        unfold nameF
        rw [List.length_map, List.length_take, HZ.out.1]
        omega
      have hs2 : (bs [letF z]).size = 1 := rfl
      have hadd : bs (nameF zs i) ++ bs [letF z] = bs (nameF zs (i + 1)) := by rw [bs_append, HNS.out]
      go_wp2_with fail
      exact ⟨⟨i + 1, by omega, by omega, by go_num, rfl, hG.alloc _⟩, by simp [intOf]; omega⟩
    · have hnl : (nameF zs i).length = i := by
        unfold nameF
        rw [List.length_map, List.length_take, HZ.out.1]
        omega
      have hall : (nameF zs i).all ncB = true := by
        rw [List.all_eq_true]
        intro c hc
        unfold nameF at hc
        obtain ⟨z, _, rfl⟩ := List.mem_map.1 hc
        exact letF_ok z
      have HALL := Lib.hid hall
      have HNL := Lib.hid hnl
      clear hall hnl
      by_cases hi0 : i = 0
      · have hn0 : ¬ i < n := fun h => hlt ⟨h, by omega⟩
        have hem : (bs (nameF zs i)).toList.isEmpty = true := by
          have h := HNL.out
          rw [hi0] at h ⊢
          rw [bs_list, List.eq_nil_of_length_eq_zero h]
          rfl
        obtain ⟨nm, hnm⟩ : ∃ nm : List UInt8, nm = [120] := ⟨_, rfl⟩
        have HGN : Hid (GoodN nm) := Lib.hid (by rw [hnm]; exact ⟨by simp, by simp, by decide⟩)
        have hbn : (⟨#[120]⟩ : ByteArray) = bs nm := by rw [hnm]; rfl
        clear hlt hnm hi0
        have hkn : (bs nm).size ≤ 64 := HGN.out.le
        have hs42 : (⟨#[42]⟩ : ByteArray).size = 1 := rfl
        have hs38 : (⟨#[38]⟩ : ByteArray).size = 1 := rfl
        have ha42 : (⟨#[42]⟩ : ByteArray) ++ bs nm = bs (42 :: nm) := bs_append [42] nm
        have ha38 : (⟨#[38]⟩ : ByteArray) ++ bs nm = bs (38 :: nm) := bs_append [38] nm
        have hk0 : (nm.length : Int) ≤ 64 := by have h := HGN.out.le; omega
        go_wp2_with fail
        try rw [hbn]
        try clear hbn
        refine (usualR_any _).mono ?_
        rintro e w2 ⟨rfl, hb2⟩
        have hg2 : Gr w w2 := hG.trans hb2
        clear hb2 hem
        go_wp2_with fail
        obtain ⟨z, hz⟩ : ∃ z, z = w2.heap.size := ⟨_, rfl⟩
        have hwz : w.heap.size ≤ z := by rw [hz]; exact Below.size hg2
        rw [← hz]
        have hst0 := WSt.start hz hg2 HGN.out
        generalize ((((w2.alloc (.cells #[.int .i64 usual.d, .int .i64 usual.n, .int .i64 usual.b, .int .i64 usual.a, .int .i64 usual.x] 35)).alloc (.cells #[.int .i64 10, .string ⟨#[]⟩, .string (bs (42 :: nm)), .slice none 0 0, .string ⟨#[]⟩] 24)).alloc (.cells #[.int .i64 2, .string ⟨#[]⟩, .string ⟨#[49]⟩, .slice none 0 0, .string ⟨#[]⟩] 24)).alloc (.cells #[.int .i64 9, .string ⟨#[]⟩, .string (bs (38 :: nm)), .slice (some ⟨z + 1 + 1, 0, none⟩) 1 1, .string ⟨#[]⟩] 24)) = W5 at *
        have HST0 := Lib.hid hst0
        have HD := Lib.hid hd
        obtain ⟨dd, hdd⟩ : ∃ dd, dd = deep % 20 := ⟨_, rfl⟩
        have hdI : (wrap64 (deep : Int)).tmod 20 = (dd : Int) := by rw [hdd]; exact deep_mod hd
        have hdd20 : dd ≤ 20 := by rw [hdd]; exact deep_le
        clear hz hst0 hdd hd hg2
        go_loopw [10] (fun iv wr => ∃ j : Nat, j ≤ dd ∧ iv = .int .i64 j ∧ WSt nm z w j wr) (fun iv _ => dd - (intOf iv).toNat)
        case atStart => exact ⟨0, Nat.zero_le _, rfl, HST0.out⟩
        case round =>
          obtain ⟨j, hj, rfl, hst⟩ := hrel
          have HST := Lib.hid hst
          obtain ⟨d, hdn, hdr⟩ := hst.inn
          obtain ⟨k0, k1, k2, k3, k4⟩ := hdn.cells
          have kf0 := free_of_cells hdn 0
          have kf1 := free_of_cells hdn 1
          have kf2 := free_of_cells hdn 2
          have kf3 := free_of_cells hdn 3
          have kf4 := free_of_cells hdn 4
          have kl := lt_of_block hdn
          have HDN := Lib.hid hdn
          have HDR := Lib.hid hdr
          clear hst hdn hdr
          by_cases hlj : j < dd
          · go_wp2_with fail
            refine (leafW_any (P := fun b => b ≠ z + 1) (1 + 2 * j) d (innT nm j) _ (fun b hb => by omega) HDR.out).mono ?_
            rintro e w3 ⟨b, rfl, hr3, hb3⟩
            have hdn3 := HDN.out.gr hb3
            clear k0 k1 k2 k3 k4 kf0 kf1 kf2 kf3 kf4 kl
            obtain ⟨k0, k1, k2, k3, k4⟩ := hdn3.cells
            have kf0 := free_of_cells hdn3 0
            have kf1 := free_of_cells hdn3 1
            have kf2 := free_of_cells hdn3 2
            have kf3 := free_of_cells hdn3 3
            have kf4 := free_of_cells hdn3 4
            have kl := lt_of_block hdn3
            have hnext := HST.out.next hb3 hwz hr3 _ rfl
            have HNX := Lib.hid hnext
            clear hnext hdn3 hr3 hb3
            go_wp2_with fail
            exact ⟨⟨j + 1, by omega, by go_num, HNX.out⟩, by simp [intOf]; omega⟩
          · have hjd : dd = j := by omega
            subst hjd
            clear hlj hj
            have hE : WEnd nm z dd d wr := ⟨HST.out.lim, HST.out.one, HST.out.oneR.any, HDN.out, HDR.out.any⟩
            have hw0 := HST.out.gr
            clear HST HDR HDN HST0
            obtain ⟨c0, c1, c2, c3, c4⟩ := hE.lim.cells
            have cl := lt_of_block hE.lim
            have hck1 : ∀ W' M p, NRep anyB M W' ⟨9, [], 38 :: nm, some ⟨p, 0, none⟩, 1, 1, []⟩ (wT1 nm dd) → Calls Try.prog 15 #[.agg #[.int .i64 9, .string ⟨#[]⟩, .string (bs (38 :: nm)), .slice (some ⟨p, 0, none⟩) 1 1, .string ⟨#[]⟩], .agg #[.int .i64 usual.d, .int .i64 usual.n, .int .i64 usual.b, .int .i64 usual.a, .int .i64 usual.x]] W' (fun e w' => e = .returned (.tuple #[.agg #[.int .i64 0, .int .i64 0, .int .i64 0, .int .i64 0, .int .i64 0], .int .i64 11]) ∧ Gr W' w') := fun W' M p hr => by
              have h := CheckA_any M ⟨9, [], 38 :: nm, some ⟨p, 0, none⟩, 1, 1, []⟩ (wT1 nm dd) usual W' hr (by rw [w1_len]; have := HGN.out.le; omega) (by rw [w1_count]; omega)
              rw [w1_law HGN.out hdd20] at h
              exact h
            have hnr := NRep.made1 hE.innR (nm := nm) (by have := HGN.out.le; omega)
            have HE := Lib.hid hE
            have HW0 := Lib.hid hw0
            have HCK1 := Lib.hid hck1
            have HNR := Lib.hid hnr
            clear hE hw0 hck1 hnr
            go_wp2_with fail
            refine (HCK1.out _ _ _ HNR.out).mono ?_
            rintro e w6 ⟨rfl, hb6⟩
            clear k0 k1 k2 k3 k4 kf0 kf1 kf2 kf3 kf4 kl c0 c1 c2 c3 c4 cl HNR HCK1
            have hg6 := ((Gr.refl wr).alloc (.cells #[.int .i64 d.k, .string (bs d.l), .string (bs d.x), .slice d.A d.n d.c, .string (bs d.e)] 24)).trans hb6
            have HE6 := Lib.hid (HE.out.gr hg6)
            have HW6 := Lib.hid (HW0.out.trans hg6)
            clear hg6 hb6 HE HW0
            go_wp2_with fail
            generalize w6.heap.size = b6 at *
            obtain ⟨W0, hW0⟩ : ∃ W0, W0 = w6.alloc (.cells #[.int .i64 0, .int .i64 0, .int .i64 0, .int .i64 0, .int .i64 0] 36) := ⟨_, rfl⟩
            rw [← hW0]
            have HE0 : Hid (WEnd nm z dd d W0) := Lib.hid (by rw [hW0]; exact HE6.out.gr ((Gr.refl _).alloc _))
            have HG0 : Hid (Gr w W0) := Lib.hid (by rw [hW0]; exact HW6.out.alloc _)
            clear hW0 HE6 HW6
            have hck : ∀ W' p, NRep anyB 51 W' (twoD p) (wT2 (innT nm dd) (oneT nm)) → Calls Try.prog 15 #[.agg #[.int .i64 3, .string ⟨#[]⟩, .string ⟨#[]⟩, .slice (some ⟨p, 0, none⟩) 2 2, .string ⟨#[]⟩], .agg #[.int .i64 usual.d, .int .i64 usual.n, .int .i64 usual.b, .int .i64 usual.a, .int .i64 usual.x]] W' (fun e w' => e = .returned (.tuple #[.agg #[.int .i64 0, .int .i64 0, .int .i64 0, .int .i64 0, .int .i64 0], .int .i64 11]) ∧ Gr W' w') := fun W' p hr => by
              have h := CheckA_any 51 (twoD p) (wT2 (innT nm dd) (oneT nm)) usual W' hr (by have := HGN.out.le; rw [two_len, inn_len, one_len]; omega) (by rw [two_count, inn_count, one_count]; omega)
              rw [w2_law HGN.out hdd20] at h
              exact h
            have HCK := Lib.hid hck
            clear hck
            obtain ⟨VS, hVS⟩ : ∃ VS : List (Nat × Nat × Value), VS = [(0, 72, .agg #[.int .i64 d.k, .string (bs d.l), .string (bs d.x), .slice d.A d.n d.c, .string (bs d.e)]), (2, 74, .agg #[.int .i64 9, .string ⟨#[]⟩, .string (bs (38 :: nm)), .slice (some ⟨z + 1 + 1, 0, none⟩) 1 1, .string ⟨#[]⟩]), (6, 78, .agg #[.int .i64 usual.d, .int .i64 usual.n, .int .i64 usual.b, .int .i64 usual.a, .int .i64 usual.x]), (7, 79, .tuple #[.agg #[.int .i64 0, .int .i64 0, .int .i64 0, .int .i64 0, .int .i64 0], .int .i64 11]), (8, 71, .tuple #[.agg #[.int .i64 0, .int .i64 0, .int .i64 0, .int .i64 0, .int .i64 0], .int .i64 11]), (9, 80, .agg #[.int .i64 0, .int .i64 0, .int .i64 0, .int .i64 0, .int .i64 0]), (10, 81, .int .i64 11), (13, 14, .int .i64 11)] := ⟨_, rfl⟩
            obtain ⟨US, hUS⟩ : ∃ US : List (Nat × Value), US = [(7, .pointer (some ⟨z, 0, none⟩)), (8, .pointer (some ⟨z + 1, 0, none⟩)), (9, .pointer (some ⟨z + 1 + 1 + 1, 0, none⟩))] := ⟨_, rfl⟩
            refine wp_region_frame (by kernel_rfl) (by kernel_rfl) [72, 73, 74, 75, 76, 77, 78, 79, 71, 80, 81, 13, 14] (by simp) (Det VS US (RD W0 (innT nm dd) (oneT nm) #[.int .i64 0, .int .i64 0, .int .i64 0, .int .i64 0, .int .i64 0] 73 75 76 77 13)) ?_ ?_ ?_
            · exact Det.start (by rw [hUS]; simp [slot]) (RD.start ((Gr.refl _).drew))
            · intro B a' w' i o hfr hF ho hBi hdp
              have hi8 := (Array.getElem?_eq_some_iff.1 ho).1
              simp only [List.size_toArray, List.length_cons, List.length_nil] at hi8
              have hor : i = 0 ∨ i = 1 ∨ i = 2 ∨ i = 3 ∨ i = 4 ∨ i = 5 ∨ i = 6 ∨ i = 7 ∨ i = 8 ∨ i = 9 ∨ i = 10 ∨ i = 11 ∨ i = 12 ∨ i = 13 := by omega
              clear hi8
              rcases hor with rfl | rfl | rfl | rfl | rfl | rfl | rfl | rfl | rfl | rfl | rfl | rfl | rfl | rfl
              all_goals (
                simp only [List.getElem?_toArray, List.getElem?_cons_zero, List.getElem?_cons_succ, Option.some.injEq] at ho
                subst ho
                rw [if_pos (show Region.wanted _ _ = true from rfl)]
                refine wp_hideK ?_
                intro K hK)
              · have hFW := hF.wd
                have o8 := slot_spell (hF.had (d := 8) (v := .pointer (some ⟨z + 1, 0, none⟩)) (by rw [hUS]; simp))
                have hE1 := HE0.out.gr hFW.gr
                obtain ⟨k0, k1, k2, k3, k4⟩ := hE1.inn.cells
                have kl := lt_of_block hE1.inn
                go_simp
                exact hK.out _ _ (close_put hfr (d := 72) (by decide) (by simp) _ (F := fun u => Det VS US (RD W0 (innT nm dd) (oneT nm) #[.int .i64 0, .int .i64 0, .int .i64 0, .int .i64 0, .int .i64 0] 73 75 76 77 13) (upB B 0) u _) (hF.step (by rw [hVS]; simp) (by rw [hUS]; simp) (hFW.other (Gr.refl _) hBi (by decide) (by decide))))
              · have hFW := hF.wd
                have hB0 : B 0 = true := hdp ⟨0, .data⟩ (by simp) (by rfl)
                have e0 := slot_spell (hF.get (i := 0) (d := 72) (v := .agg #[.int .i64 d.k, .string (bs d.l), .string (bs d.x), .slice d.A d.n d.c, .string (bs d.e)]) (by rw [hVS]; simp) hB0)
                have HFF := Lib.hid hF
                have HFR := Lib.hid hfr
                have HFG := Lib.hid hFW
                have HBI := Lib.hid hBi
                clear hF hfr hFW hdp hBi
                go_simp
                refine (leafW_any (P := anyB) (1 + 2 * dd) d (innT nm dd) _ (fun _ _ => trivial) (HE0.out.gr HFG.out.gr).innR).mono ?_
                rintro e w2 ⟨b, rfl, hr, hb2⟩
                have hF := HFF.out
                have hfr := HFR.out
                have hFW := HFG.out
                have hBi := HBI.out
                exact hK.out _ _ (close_put hfr (d := 73) (by decide) (by simp) _ (F := fun u => Det VS US (RD W0 (innT nm dd) (oneT nm) #[.int .i64 0, .int .i64 0, .int .i64 0, .int .i64 0, .int .i64 0] 73 75 76 77 13) (upB B 1) u _) (hF.step (by rw [hVS]; simp) (by rw [hUS]; simp) (hFW.step hb2 hBi (by decide) (.inl ⟨rfl, rfl, b, rfl, hr.ups 50 (by omega)⟩) (.inr (by decide)) (.inr (by decide)) (.inr (by decide)) (.inr (by decide)))))
              · have hFW := hF.wd
                have o9 := slot_spell (hF.had (d := 9) (v := .pointer (some ⟨z + 1 + 1 + 1, 0, none⟩)) (by rw [hUS]; simp))
                have hE1 := HE0.out.gr hFW.gr
                obtain ⟨k0, k1, k2, k3, k4⟩ := hE1.one.cells
                have kl := lt_of_block hE1.one
                simp only [oneD, show bs [] = ⟨#[]⟩ from rfl] at k0 k1 k2 k3 k4
                go_simp
                exact hK.out _ _ (close_put hfr (d := 74) (by decide) (by simp) _ (F := fun u => Det VS US (RD W0 (innT nm dd) (oneT nm) #[.int .i64 0, .int .i64 0, .int .i64 0, .int .i64 0, .int .i64 0] 73 75 76 77 13) (upB B 2) u _) (hF.step (by rw [hVS]; simp) (by rw [hUS]; simp) (hFW.other (Gr.refl _) hBi (by decide) (by decide))))
              · have hFW := hF.wd
                have hB2 : B 2 = true := hdp ⟨2, .data⟩ (by simp) (by rfl)
                have e2 := slot_spell (hF.get (i := 2) (d := 74) (v := .agg #[.int .i64 9, .string ⟨#[]⟩, .string (bs (38 :: nm)), .slice (some ⟨z + 1 + 1, 0, none⟩) 1 1, .string ⟨#[]⟩]) (by rw [hVS]; simp) hB2)
                have HFF := Lib.hid hF
                have HFR := Lib.hid hfr
                have HFG := Lib.hid hFW
                have HBI := Lib.hid hBi
                clear hF hfr hFW hdp hBi
                go_simp
                refine (leafW_any (P := anyB) 2 (oneD z nm) (oneT nm) _ (fun _ _ => trivial) (HE0.out.gr HFG.out.gr).oneR).mono ?_
                rintro e w2 ⟨b, rfl, hr, hb2⟩
                have hF := HFF.out
                have hfr := HFR.out
                have hFW := HFG.out
                have hBi := HBI.out
                exact hK.out _ _ (close_put hfr (d := 75) (by decide) (by simp) _ (F := fun u => Det VS US (RD W0 (innT nm dd) (oneT nm) #[.int .i64 0, .int .i64 0, .int .i64 0, .int .i64 0, .int .i64 0] 73 75 76 77 13) (upB B 3) u _) (hF.step (by rw [hVS]; simp) (by rw [hUS]; simp) (hFW.step hb2 hBi (by decide) (.inr (by decide)) (.inl ⟨rfl, rfl, b, rfl, hr.ups 50 (by omega)⟩) (.inr (by decide)) (.inr (by decide)) (.inr (by decide)))))
              · have hFW := hF.wd
                have hB1 : B 1 = true := hdp ⟨1, .data⟩ (by simp) (by rfl)
                have hB3 : B 3 = true := hdp ⟨3, .data⟩ (by simp) (by rfl)
                have h12 : B 12 = false := by
                  cases hx : B 12 with
                  | false => rfl
                  | true => exact absurd (hFW.done hx).1 (by rw [hBi]; decide)
                obtain ⟨b1, q1, r1⟩ := hFW.c1 h12 hB1
                obtain ⟨b2, q2, r2⟩ := hFW.c3 h12 hB3
                have t1 := slot_spell q1
                have t2 := slot_spell q2
                go_simp
                exact hK.out _ _ (close_put hfr (d := 76) (by decide) (by simp) _ (F := fun u => Det VS US (RD W0 (innT nm dd) (oneT nm) #[.int .i64 0, .int .i64 0, .int .i64 0, .int .i64 0, .int .i64 0] 73 75 76 77 13) (upB B 4) u _) (hF.step (by rw [hVS]; simp) (by rw [hUS]; simp) (hFW.step ((Gr.refl _).alloc _) hBi (by decide) (.inr (by decide)) (.inr (by decide)) (.inl ⟨rfl, rfl, _, rfl, NRep.made2 r1 r2⟩) (.inr (by decide)) (.inr (by decide)))))
              · have hFW := hF.wd
                have hB4 : B 4 = true := hdp ⟨4, .data⟩ (by simp) (by rfl)
                have h12 : B 12 = false := by
                  cases hx : B 12 with
                  | false => rfl
                  | true => exact absurd (hFW.done hx).2.1 (by rw [hBi]; decide)
                obtain ⟨p, q1, r1⟩ := hFW.c4 h12 hB4
                have t1 := slot_spell q1
                go_simp
                exact hK.out _ _ (close_put hfr (d := 77) (by decide) (by simp) _ (F := fun u => Det VS US (RD W0 (innT nm dd) (oneT nm) #[.int .i64 0, .int .i64 0, .int .i64 0, .int .i64 0, .int .i64 0] 73 75 76 77 13) (upB B 5) u _) (hF.step (by rw [hVS]; simp) (by rw [hUS]; simp) (hFW.step (Gr.refl _) hBi (by decide) (.inr (by decide)) (.inr (by decide)) (.inr (by decide)) (.inl ⟨rfl, rfl, _, rfl, r1⟩) (.inr (by decide)))))
              · have hFW := hF.wd
                have o7 := slot_spell (hF.had (d := 7) (v := .pointer (some ⟨z, 0, none⟩)) (by rw [hUS]; simp))
                have hE1 := HE0.out.gr hFW.gr
                obtain ⟨k0, k1, k2, k3, k4⟩ := hE1.lim.cells
                have kl := lt_of_block hE1.lim
                go_simp
                exact hK.out _ _ (close_put hfr (d := 78) (by decide) (by simp) _ (F := fun u => Det VS US (RD W0 (innT nm dd) (oneT nm) #[.int .i64 0, .int .i64 0, .int .i64 0, .int .i64 0, .int .i64 0] 73 75 76 77 13) (upB B 6) u _) (hF.step (by rw [hVS]; simp) (by rw [hUS]; simp) (hFW.other (Gr.refl _) hBi (by decide) (by decide))))
              · have hFW := hF.wd
                have hB5 : B 5 = true := hdp ⟨5, .data⟩ (by simp) (by rfl)
                have hB6 : B 6 = true := hdp ⟨6, .data⟩ (by simp) (by rfl)
                have e6 := slot_spell (hF.get (i := 6) (d := 78) (v := .agg #[.int .i64 usual.d, .int .i64 usual.n, .int .i64 usual.b, .int .i64 usual.a, .int .i64 usual.x]) (by rw [hVS]; simp) hB6)
                have h12 : B 12 = false := by
                  cases hx : B 12 with
                  | false => rfl
                  | true => exact absurd (hFW.done hx).2.2 (by rw [hBi]; decide)
                obtain ⟨p, q1, r1⟩ := hFW.c5 h12 hB5
                have t1 := slot_spell q1
                have HR1 := Lib.hid r1
                clear r1
                have HFF := Lib.hid hF
                have HFR := Lib.hid hfr
                have HFG := Lib.hid hFW
                have HBI := Lib.hid hBi
                clear hF hfr hFW hdp hBi
                go_simp
                refine (HCK.out _ _ HR1.out).mono ?_
                rintro e w2 ⟨rfl, hb2⟩
                have hF := HFF.out
                have hfr := HFR.out
                have hFW := HFG.out
                have hBi := HBI.out
                exact hK.out _ _ (close_put hfr (d := 79) (by decide) (by simp) _ (F := fun u => Det VS US (RD W0 (innT nm dd) (oneT nm) #[.int .i64 0, .int .i64 0, .int .i64 0, .int .i64 0, .int .i64 0] 73 75 76 77 13) (upB B 7) u _) (hF.step (by rw [hVS]; simp) (by rw [hUS]; simp) (hFW.other hb2 hBi (by decide) (by decide))))
              · have hFW := hF.wd
                have hB7 : B 7 = true := hdp ⟨7, .data⟩ (by simp) (by rfl)
                have e7 := slot_spell (hF.get (i := 7) (d := 79) (v := .tuple #[.agg #[.int .i64 0, .int .i64 0, .int .i64 0, .int .i64 0, .int .i64 0], .int .i64 11]) (by rw [hVS]; simp) hB7)
                go_simp
                exact hK.out _ _ (close_put hfr (d := 71) (by decide) (by simp) _ (F := fun u => Det VS US (RD W0 (innT nm dd) (oneT nm) #[.int .i64 0, .int .i64 0, .int .i64 0, .int .i64 0, .int .i64 0] 73 75 76 77 13) (upB B 8) u _) (hF.step (by rw [hVS]; simp) (by rw [hUS]; simp) (hFW.other (Gr.refl _) hBi (by decide) (by decide))))
              · have hFW := hF.wd
                have hB8 : B 8 = true := hdp ⟨8, .data⟩ (by simp) (by rfl)
                have e8 := slot_spell (hF.get (i := 8) (d := 71) (v := .tuple #[.agg #[.int .i64 0, .int .i64 0, .int .i64 0, .int .i64 0, .int .i64 0], .int .i64 11]) (by rw [hVS]; simp) hB8)
                go_simp
                exact hK.out _ _ (close_put hfr (d := 80) (by decide) (by simp) _ (F := fun u => Det VS US (RD W0 (innT nm dd) (oneT nm) #[.int .i64 0, .int .i64 0, .int .i64 0, .int .i64 0, .int .i64 0] 73 75 76 77 13) (upB B 9) u _) (hF.step (by rw [hVS]; simp) (by rw [hUS]; simp) (hFW.other (Gr.refl _) hBi (by decide) (by decide))))
              · have hFW := hF.wd
                have hB8 : B 8 = true := hdp ⟨8, .data⟩ (by simp) (by rfl)
                have e8 := slot_spell (hF.get (i := 8) (d := 71) (v := .tuple #[.agg #[.int .i64 0, .int .i64 0, .int .i64 0, .int .i64 0, .int .i64 0], .int .i64 11]) (by rw [hVS]; simp) hB8)
                go_simp
                exact hK.out _ _ (close_put hfr (d := 81) (by decide) (by simp) _ (F := fun u => Det VS US (RD W0 (innT nm dd) (oneT nm) #[.int .i64 0, .int .i64 0, .int .i64 0, .int .i64 0, .int .i64 0] 73 75 76 77 13) (upB B 10) u _) (hF.step (by rw [hVS]; simp) (by rw [hUS]; simp) (hFW.other (Gr.refl _) hBi (by decide) (by decide))))
              · have hFW := hF.wd
                go_simp
                exact hK.out _ _ (close_put hfr (d := 13) (by decide) (by simp) _ (F := fun u => Det VS US (RD W0 (innT nm dd) (oneT nm) #[.int .i64 0, .int .i64 0, .int .i64 0, .int .i64 0, .int .i64 0] 73 75 76 77 13) (upB B 11) u _) (hF.step (by rw [hVS]; simp) (by rw [hUS]; simp) (hFW.step ((Gr.refl _).alloc _) hBi (by decide) (.inr (by decide)) (.inr (by decide)) (.inr (by decide)) (.inr (by decide)) (.inl ⟨rfl, rfl, _, Below.size hFW.gr, rfl, heap_alloc_new _ _⟩))))
              · have hFW := hF.wd
                have hB9 : B 9 = true := hdp ⟨9, .data⟩ (by simp) (by rfl)
                have e9 := slot_spell (hF.get (i := 9) (d := 80) (v := .agg #[.int .i64 0, .int .i64 0, .int .i64 0, .int .i64 0, .int .i64 0]) (by rw [hVS]; simp) hB9)
                have hB11 : B 11 = true := hdp ⟨11, .data⟩ (by simp) (by rfl)
                obtain ⟨p, c, q1, q2, q3, q4⟩ := hFW.c11 hB11
                rw [if_neg (by rw [hBi]; decide)] at q4
                subst q4
                have t2 := slot_spell q2
                have y0 := cell_of_cells q3 0
                have f0 := free_of_cells q3 0
                have y1 := cell_of_cells q3 1
                have f1 := free_of_cells q3 1
                have y2 := cell_of_cells q3 2
                have f2 := free_of_cells q3 2
                have y3 := cell_of_cells q3 3
                have f3 := free_of_cells q3 3
                have y4 := cell_of_cells q3 4
                have f4 := free_of_cells q3 4
                have pl := lt_of_block q3
                have p4 : B 4 = true := by first | assumption | exact hdp ⟨4, .phase⟩ (by simp) (by rfl) | exact hdp ⟨4, .chain⟩ (by simp) (by rfl)
                have p5 : B 5 = true := by first | assumption | exact hdp ⟨5, .phase⟩ (by simp) (by rfl) | exact hdp ⟨5, .chain⟩ (by simp) (by rfl)
                have p7 : B 7 = true := by first | assumption | exact hdp ⟨7, .phase⟩ (by simp) (by rfl) | exact hdp ⟨7, .chain⟩ (by simp) (by rfl)
                go_simp
                exact hK.out _ _ (close_none hfr undef (F := fun u => Det VS US (RD W0 (innT nm dd) (oneT nm) #[.int .i64 0, .int .i64 0, .int .i64 0, .int .i64 0, .int .i64 0] 73 75 76 77 13) (upB B 12) u _) (hF.none (by rw [hVS]; simp) (hFW.store hB11 p4 p5 p7 q1 q2 q3 rfl)))
              · have hFW := hF.wd
                have hB10 : B 10 = true := hdp ⟨10, .data⟩ (by simp) (by rfl)
                have e10 := slot_spell (hF.get (i := 10) (d := 81) (v := .int .i64 11) (by rw [hVS]; simp) hB10)
                go_simp
                exact hK.out _ _ (close_put hfr (d := 14) (by decide) (by simp) _ (F := fun u => Det VS US (RD W0 (innT nm dd) (oneT nm) #[.int .i64 0, .int .i64 0, .int .i64 0, .int .i64 0, .int .i64 0] 73 75 76 77 13) (upB B 13) u _) (hF.step (by rw [hVS]; simp) (by rw [hUS]; simp) (hFW.other (Gr.refl _) hBi (by decide) (by decide))))
            · intro B u w' hall hF
              have z0 := hF.get (i := 0) (d := 72) (v := .agg #[.int .i64 d.k, .string (bs d.l), .string (bs d.x), .slice d.A d.n d.c, .string (bs d.e)]) (by rw [hVS]; simp) (hall 0 (by simp))
              have z2 := hF.get (i := 2) (d := 74) (v := .agg #[.int .i64 9, .string ⟨#[]⟩, .string (bs (38 :: nm)), .slice (some ⟨z + 1 + 1, 0, none⟩) 1 1, .string ⟨#[]⟩]) (by rw [hVS]; simp) (hall 2 (by simp))
              have z6 := hF.get (i := 6) (d := 78) (v := .agg #[.int .i64 usual.d, .int .i64 usual.n, .int .i64 usual.b, .int .i64 usual.a, .int .i64 usual.x]) (by rw [hVS]; simp) (hall 6 (by simp))
              have z7 := hF.get (i := 7) (d := 79) (v := .tuple #[.agg #[.int .i64 0, .int .i64 0, .int .i64 0, .int .i64 0, .int .i64 0], .int .i64 11]) (by rw [hVS]; simp) (hall 7 (by simp))
              have z8 := hF.get (i := 8) (d := 71) (v := .tuple #[.agg #[.int .i64 0, .int .i64 0, .int .i64 0, .int .i64 0, .int .i64 0], .int .i64 11]) (by rw [hVS]; simp) (hall 8 (by simp))
              have z9 := hF.get (i := 9) (d := 80) (v := .agg #[.int .i64 0, .int .i64 0, .int .i64 0, .int .i64 0, .int .i64 0]) (by rw [hVS]; simp) (hall 9 (by simp))
              have z10 := hF.get (i := 10) (d := 81) (v := .int .i64 11) (by rw [hVS]; simp) (hall 10 (by simp))
              have z13 := hF.get (i := 13) (d := 14) (v := .int .i64 11) (by rw [hVS]; simp) (hall 13 (by simp))
              have hFW := hF.wd
              clear hF hVS hUS
              simp only [List.foldl_cons, List.foldl_nil, Act.put, List.setIfInBounds_toArray, List.set_cons_zero, List.set_cons_succ, z0, z2, z6, z7, z8, z9, z10, z13]
              clear z0 z2 z6 z7 z8 z9 z10 z13
        
              obtain ⟨bo, co, qo1, qo2, qo3, qo4⟩ := hFW.c11 (hall 11 (by simp))
              rw [if_pos (hall 12 (by simp))] at qo4
              subst qo4
              have hgo := hFW.gr
              rw [qo2]
              clear hFW hall qo2 HCK
              have HEN := Lib.hid (HE0.out.gr hgo)
              have HGN2 := Lib.hid (HG0.out.trans hgo)
              clear HE0 HG0 qo1 qo3 hgo W0
              rename World => W0
              have HE0 := HEN
              have HG0 := HGN2
              clear HEN HGN2
              go_wp2_with fail
              have hck : ∀ W' p, NRep anyB 51 W' (twoD p) (wT2 (oneT nm) (innT nm dd)) → Calls Try.prog 15 #[.agg #[.int .i64 3, .string ⟨#[]⟩, .string ⟨#[]⟩, .slice (some ⟨p, 0, none⟩) 2 2, .string ⟨#[]⟩], .agg #[.int .i64 usual.d, .int .i64 usual.n, .int .i64 usual.b, .int .i64 usual.a, .int .i64 usual.x]] W' (fun e w' => e = .returned (.tuple #[.agg #[.int .i64 0, .int .i64 0, .int .i64 0, .int .i64 1, .int .i64 1], .int .i64 0]) ∧ Gr W' w') := fun W' p hr => by
                have h := CheckA_any 51 (twoD p) (wT2 (oneT nm) (innT nm dd)) usual W' hr (by have := HGN.out.le; rw [two_len, inn_len, one_len]; omega) (by rw [two_count, inn_count, one_count]; omega)
                rw [w3_law HGN.out hdd20] at h
                exact h
              have HCK := Lib.hid hck
              clear hck
              obtain ⟨VS, hVS⟩ : ∃ VS : List (Nat × Nat × Value), VS = [(0, 83, .agg #[.int .i64 9, .string ⟨#[]⟩, .string (bs (38 :: nm)), .slice (some ⟨z + 1 + 1, 0, none⟩) 1 1, .string ⟨#[]⟩]), (2, 85, .agg #[.int .i64 d.k, .string (bs d.l), .string (bs d.x), .slice d.A d.n d.c, .string (bs d.e)]), (6, 89, .agg #[.int .i64 usual.d, .int .i64 usual.n, .int .i64 usual.b, .int .i64 usual.a, .int .i64 usual.x]), (7, 90, .tuple #[.agg #[.int .i64 0, .int .i64 0, .int .i64 0, .int .i64 1, .int .i64 1], .int .i64 0]), (8, 82, .tuple #[.agg #[.int .i64 0, .int .i64 0, .int .i64 0, .int .i64 1, .int .i64 1], .int .i64 0]), (9, 91, .agg #[.int .i64 0, .int .i64 0, .int .i64 0, .int .i64 1, .int .i64 1]), (10, 92, .int .i64 0), (13, 16, .int .i64 0)] := ⟨_, rfl⟩
              obtain ⟨US, hUS⟩ : ∃ US : List (Nat × Value), US = [(7, .pointer (some ⟨z, 0, none⟩)), (8, .pointer (some ⟨z + 1, 0, none⟩)), (9, .pointer (some ⟨z + 1 + 1 + 1, 0, none⟩))] := ⟨_, rfl⟩
              refine wp_region_frame (by kernel_rfl) (by kernel_rfl) [83, 84, 85, 86, 87, 88, 89, 90, 82, 91, 92, 15, 16] (by simp) (Det VS US (RD W0 (oneT nm) (innT nm dd) #[.int .i64 0, .int .i64 0, .int .i64 0, .int .i64 1, .int .i64 1] 84 86 87 88 15)) ?_ ?_ ?_
              · exact Det.start (by rw [hUS]; simp [slot]) (RD.start ((Gr.refl _).drew))
              · intro B a' w' i o hfr hF ho hBi hdp
                have hi8 := (Array.getElem?_eq_some_iff.1 ho).1
                simp only [List.size_toArray, List.length_cons, List.length_nil] at hi8
                have hor : i = 0 ∨ i = 1 ∨ i = 2 ∨ i = 3 ∨ i = 4 ∨ i = 5 ∨ i = 6 ∨ i = 7 ∨ i = 8 ∨ i = 9 ∨ i = 10 ∨ i = 11 ∨ i = 12 ∨ i = 13 := by omega
                clear hi8
                rcases hor with rfl | rfl | rfl | rfl | rfl | rfl | rfl | rfl | rfl | rfl | rfl | rfl | rfl | rfl
                all_goals (
                  simp only [List.getElem?_toArray, List.getElem?_cons_zero, List.getElem?_cons_succ, Option.some.injEq] at ho
                  subst ho
                  rw [if_pos (show Region.wanted _ _ = true from rfl)]
                  refine wp_hideK ?_
                  intro K hK)
                · have hFW := hF.wd
                  have o9 := slot_spell (hF.had (d := 9) (v := .pointer (some ⟨z + 1 + 1 + 1, 0, none⟩)) (by rw [hUS]; simp))
                  have hE1 := HE0.out.gr hFW.gr
                  obtain ⟨k0, k1, k2, k3, k4⟩ := hE1.one.cells
                  have kl := lt_of_block hE1.one
                  simp only [oneD, show bs [] = ⟨#[]⟩ from rfl] at k0 k1 k2 k3 k4
                  go_simp
                  exact hK.out _ _ (close_put hfr (d := 83) (by decide) (by simp) _ (F := fun u => Det VS US (RD W0 (oneT nm) (innT nm dd) #[.int .i64 0, .int .i64 0, .int .i64 0, .int .i64 1, .int .i64 1] 84 86 87 88 15) (upB B 0) u _) (hF.step (by rw [hVS]; simp) (by rw [hUS]; simp) (hFW.other (Gr.refl _) hBi (by decide) (by decide))))
                · have hFW := hF.wd
                  have hB0 : B 0 = true := hdp ⟨0, .data⟩ (by simp) (by rfl)
                  have e0 := slot_spell (hF.get (i := 0) (d := 83) (v := .agg #[.int .i64 9, .string ⟨#[]⟩, .string (bs (38 :: nm)), .slice (some ⟨z + 1 + 1, 0, none⟩) 1 1, .string ⟨#[]⟩]) (by rw [hVS]; simp) hB0)
                  have HFF := Lib.hid hF
                  have HFR := Lib.hid hfr
                  have HFG := Lib.hid hFW
                  have HBI := Lib.hid hBi
                  clear hF hfr hFW hdp hBi
                  go_simp
                  refine (leafW_any (P := anyB) 2 (oneD z nm) (oneT nm) _ (fun _ _ => trivial) (HE0.out.gr HFG.out.gr).oneR).mono ?_
                  rintro e w2 ⟨b, rfl, hr, hb2⟩
                  have hF := HFF.out
                  have hfr := HFR.out
                  have hFW := HFG.out
                  have hBi := HBI.out
                  exact hK.out _ _ (close_put hfr (d := 84) (by decide) (by simp) _ (F := fun u => Det VS US (RD W0 (oneT nm) (innT nm dd) #[.int .i64 0, .int .i64 0, .int .i64 0, .int .i64 1, .int .i64 1] 84 86 87 88 15) (upB B 1) u _) (hF.step (by rw [hVS]; simp) (by rw [hUS]; simp) (hFW.step hb2 hBi (by decide) (.inl ⟨rfl, rfl, b, rfl, hr.ups 50 (by omega)⟩) (.inr (by decide)) (.inr (by decide)) (.inr (by decide)) (.inr (by decide)))))
                · have hFW := hF.wd
                  have o8 := slot_spell (hF.had (d := 8) (v := .pointer (some ⟨z + 1, 0, none⟩)) (by rw [hUS]; simp))
                  have hE1 := HE0.out.gr hFW.gr
                  obtain ⟨k0, k1, k2, k3, k4⟩ := hE1.inn.cells
                  have kl := lt_of_block hE1.inn
                  go_simp
                  exact hK.out _ _ (close_put hfr (d := 85) (by decide) (by simp) _ (F := fun u => Det VS US (RD W0 (oneT nm) (innT nm dd) #[.int .i64 0, .int .i64 0, .int .i64 0, .int .i64 1, .int .i64 1] 84 86 87 88 15) (upB B 2) u _) (hF.step (by rw [hVS]; simp) (by rw [hUS]; simp) (hFW.other (Gr.refl _) hBi (by decide) (by decide))))
                · have hFW := hF.wd
                  have hB2 : B 2 = true := hdp ⟨2, .data⟩ (by simp) (by rfl)
                  have e2 := slot_spell (hF.get (i := 2) (d := 85) (v := .agg #[.int .i64 d.k, .string (bs d.l), .string (bs d.x), .slice d.A d.n d.c, .string (bs d.e)]) (by rw [hVS]; simp) hB2)
                  have HFF := Lib.hid hF
                  have HFR := Lib.hid hfr
                  have HFG := Lib.hid hFW
                  have HBI := Lib.hid hBi
                  clear hF hfr hFW hdp hBi
                  go_simp
                  refine (leafW_any (P := anyB) (1 + 2 * dd) d (innT nm dd) _ (fun _ _ => trivial) (HE0.out.gr HFG.out.gr).innR).mono ?_
                  rintro e w2 ⟨b, rfl, hr, hb2⟩
                  have hF := HFF.out
                  have hfr := HFR.out
                  have hFW := HFG.out
                  have hBi := HBI.out
                  exact hK.out _ _ (close_put hfr (d := 86) (by decide) (by simp) _ (F := fun u => Det VS US (RD W0 (oneT nm) (innT nm dd) #[.int .i64 0, .int .i64 0, .int .i64 0, .int .i64 1, .int .i64 1] 84 86 87 88 15) (upB B 3) u _) (hF.step (by rw [hVS]; simp) (by rw [hUS]; simp) (hFW.step hb2 hBi (by decide) (.inr (by decide)) (.inl ⟨rfl, rfl, b, rfl, hr.ups 50 (by omega)⟩) (.inr (by decide)) (.inr (by decide)) (.inr (by decide)))))
                · have hFW := hF.wd
                  have hB1 : B 1 = true := hdp ⟨1, .data⟩ (by simp) (by rfl)
                  have hB3 : B 3 = true := hdp ⟨3, .data⟩ (by simp) (by rfl)
                  have h12 : B 12 = false := by
                    cases hx : B 12 with
                    | false => rfl
                    | true => exact absurd (hFW.done hx).1 (by rw [hBi]; decide)
                  obtain ⟨b1, q1, r1⟩ := hFW.c1 h12 hB1
                  obtain ⟨b2, q2, r2⟩ := hFW.c3 h12 hB3
                  have t1 := slot_spell q1
                  have t2 := slot_spell q2
                  go_simp
                  exact hK.out _ _ (close_put hfr (d := 87) (by decide) (by simp) _ (F := fun u => Det VS US (RD W0 (oneT nm) (innT nm dd) #[.int .i64 0, .int .i64 0, .int .i64 0, .int .i64 1, .int .i64 1] 84 86 87 88 15) (upB B 4) u _) (hF.step (by rw [hVS]; simp) (by rw [hUS]; simp) (hFW.step ((Gr.refl _).alloc _) hBi (by decide) (.inr (by decide)) (.inr (by decide)) (.inl ⟨rfl, rfl, _, rfl, NRep.made2 r1 r2⟩) (.inr (by decide)) (.inr (by decide)))))
                · have hFW := hF.wd
                  have hB4 : B 4 = true := hdp ⟨4, .data⟩ (by simp) (by rfl)
                  have h12 : B 12 = false := by
                    cases hx : B 12 with
                    | false => rfl
                    | true => exact absurd (hFW.done hx).2.1 (by rw [hBi]; decide)
                  obtain ⟨p, q1, r1⟩ := hFW.c4 h12 hB4
                  have t1 := slot_spell q1
                  go_simp
                  exact hK.out _ _ (close_put hfr (d := 88) (by decide) (by simp) _ (F := fun u => Det VS US (RD W0 (oneT nm) (innT nm dd) #[.int .i64 0, .int .i64 0, .int .i64 0, .int .i64 1, .int .i64 1] 84 86 87 88 15) (upB B 5) u _) (hF.step (by rw [hVS]; simp) (by rw [hUS]; simp) (hFW.step (Gr.refl _) hBi (by decide) (.inr (by decide)) (.inr (by decide)) (.inr (by decide)) (.inl ⟨rfl, rfl, _, rfl, r1⟩) (.inr (by decide)))))
                · have hFW := hF.wd
                  have o7 := slot_spell (hF.had (d := 7) (v := .pointer (some ⟨z, 0, none⟩)) (by rw [hUS]; simp))
                  have hE1 := HE0.out.gr hFW.gr
                  obtain ⟨k0, k1, k2, k3, k4⟩ := hE1.lim.cells
                  have kl := lt_of_block hE1.lim
                  go_simp
                  exact hK.out _ _ (close_put hfr (d := 89) (by decide) (by simp) _ (F := fun u => Det VS US (RD W0 (oneT nm) (innT nm dd) #[.int .i64 0, .int .i64 0, .int .i64 0, .int .i64 1, .int .i64 1] 84 86 87 88 15) (upB B 6) u _) (hF.step (by rw [hVS]; simp) (by rw [hUS]; simp) (hFW.other (Gr.refl _) hBi (by decide) (by decide))))
                · have hFW := hF.wd
                  have hB5 : B 5 = true := hdp ⟨5, .data⟩ (by simp) (by rfl)
                  have hB6 : B 6 = true := hdp ⟨6, .data⟩ (by simp) (by rfl)
                  have e6 := slot_spell (hF.get (i := 6) (d := 89) (v := .agg #[.int .i64 usual.d, .int .i64 usual.n, .int .i64 usual.b, .int .i64 usual.a, .int .i64 usual.x]) (by rw [hVS]; simp) hB6)
                  have h12 : B 12 = false := by
                    cases hx : B 12 with
                    | false => rfl
                    | true => exact absurd (hFW.done hx).2.2 (by rw [hBi]; decide)
                  obtain ⟨p, q1, r1⟩ := hFW.c5 h12 hB5
                  have t1 := slot_spell q1
                  have HR1 := Lib.hid r1
                  clear r1
                  have HFF := Lib.hid hF
                  have HFR := Lib.hid hfr
                  have HFG := Lib.hid hFW
                  have HBI := Lib.hid hBi
                  clear hF hfr hFW hdp hBi
                  go_simp
                  refine (HCK.out _ _ HR1.out).mono ?_
                  rintro e w2 ⟨rfl, hb2⟩
                  have hF := HFF.out
                  have hfr := HFR.out
                  have hFW := HFG.out
                  have hBi := HBI.out
                  exact hK.out _ _ (close_put hfr (d := 90) (by decide) (by simp) _ (F := fun u => Det VS US (RD W0 (oneT nm) (innT nm dd) #[.int .i64 0, .int .i64 0, .int .i64 0, .int .i64 1, .int .i64 1] 84 86 87 88 15) (upB B 7) u _) (hF.step (by rw [hVS]; simp) (by rw [hUS]; simp) (hFW.other hb2 hBi (by decide) (by decide))))
                · have hFW := hF.wd
                  have hB7 : B 7 = true := hdp ⟨7, .data⟩ (by simp) (by rfl)
                  have e7 := slot_spell (hF.get (i := 7) (d := 90) (v := .tuple #[.agg #[.int .i64 0, .int .i64 0, .int .i64 0, .int .i64 1, .int .i64 1], .int .i64 0]) (by rw [hVS]; simp) hB7)
                  go_simp
                  exact hK.out _ _ (close_put hfr (d := 82) (by decide) (by simp) _ (F := fun u => Det VS US (RD W0 (oneT nm) (innT nm dd) #[.int .i64 0, .int .i64 0, .int .i64 0, .int .i64 1, .int .i64 1] 84 86 87 88 15) (upB B 8) u _) (hF.step (by rw [hVS]; simp) (by rw [hUS]; simp) (hFW.other (Gr.refl _) hBi (by decide) (by decide))))
                · have hFW := hF.wd
                  have hB8 : B 8 = true := hdp ⟨8, .data⟩ (by simp) (by rfl)
                  have e8 := slot_spell (hF.get (i := 8) (d := 82) (v := .tuple #[.agg #[.int .i64 0, .int .i64 0, .int .i64 0, .int .i64 1, .int .i64 1], .int .i64 0]) (by rw [hVS]; simp) hB8)
                  go_simp
                  exact hK.out _ _ (close_put hfr (d := 91) (by decide) (by simp) _ (F := fun u => Det VS US (RD W0 (oneT nm) (innT nm dd) #[.int .i64 0, .int .i64 0, .int .i64 0, .int .i64 1, .int .i64 1] 84 86 87 88 15) (upB B 9) u _) (hF.step (by rw [hVS]; simp) (by rw [hUS]; simp) (hFW.other (Gr.refl _) hBi (by decide) (by decide))))
                · have hFW := hF.wd
                  have hB8 : B 8 = true := hdp ⟨8, .data⟩ (by simp) (by rfl)
                  have e8 := slot_spell (hF.get (i := 8) (d := 82) (v := .tuple #[.agg #[.int .i64 0, .int .i64 0, .int .i64 0, .int .i64 1, .int .i64 1], .int .i64 0]) (by rw [hVS]; simp) hB8)
                  go_simp
                  exact hK.out _ _ (close_put hfr (d := 92) (by decide) (by simp) _ (F := fun u => Det VS US (RD W0 (oneT nm) (innT nm dd) #[.int .i64 0, .int .i64 0, .int .i64 0, .int .i64 1, .int .i64 1] 84 86 87 88 15) (upB B 10) u _) (hF.step (by rw [hVS]; simp) (by rw [hUS]; simp) (hFW.other (Gr.refl _) hBi (by decide) (by decide))))
                · have hFW := hF.wd
                  go_simp
                  exact hK.out _ _ (close_put hfr (d := 15) (by decide) (by simp) _ (F := fun u => Det VS US (RD W0 (oneT nm) (innT nm dd) #[.int .i64 0, .int .i64 0, .int .i64 0, .int .i64 1, .int .i64 1] 84 86 87 88 15) (upB B 11) u _) (hF.step (by rw [hVS]; simp) (by rw [hUS]; simp) (hFW.step ((Gr.refl _).alloc _) hBi (by decide) (.inr (by decide)) (.inr (by decide)) (.inr (by decide)) (.inr (by decide)) (.inl ⟨rfl, rfl, _, Below.size hFW.gr, rfl, heap_alloc_new _ _⟩))))
                · have hFW := hF.wd
                  have hB9 : B 9 = true := hdp ⟨9, .data⟩ (by simp) (by rfl)
                  have e9 := slot_spell (hF.get (i := 9) (d := 91) (v := .agg #[.int .i64 0, .int .i64 0, .int .i64 0, .int .i64 1, .int .i64 1]) (by rw [hVS]; simp) hB9)
                  have hB11 : B 11 = true := hdp ⟨11, .data⟩ (by simp) (by rfl)
                  obtain ⟨p, c, q1, q2, q3, q4⟩ := hFW.c11 hB11
                  rw [if_neg (by rw [hBi]; decide)] at q4
                  subst q4
                  have t2 := slot_spell q2
                  have y0 := cell_of_cells q3 0
                  have f0 := free_of_cells q3 0
                  have y1 := cell_of_cells q3 1
                  have f1 := free_of_cells q3 1
                  have y2 := cell_of_cells q3 2
                  have f2 := free_of_cells q3 2
                  have y3 := cell_of_cells q3 3
                  have f3 := free_of_cells q3 3
                  have y4 := cell_of_cells q3 4
                  have f4 := free_of_cells q3 4
                  have pl := lt_of_block q3
                  have p4 : B 4 = true := by first | assumption | exact hdp ⟨4, .phase⟩ (by simp) (by rfl) | exact hdp ⟨4, .chain⟩ (by simp) (by rfl)
                  have p5 : B 5 = true := by first | assumption | exact hdp ⟨5, .phase⟩ (by simp) (by rfl) | exact hdp ⟨5, .chain⟩ (by simp) (by rfl)
                  have p7 : B 7 = true := by first | assumption | exact hdp ⟨7, .phase⟩ (by simp) (by rfl) | exact hdp ⟨7, .chain⟩ (by simp) (by rfl)
                  go_simp
                  exact hK.out _ _ (close_none hfr undef (F := fun u => Det VS US (RD W0 (oneT nm) (innT nm dd) #[.int .i64 0, .int .i64 0, .int .i64 0, .int .i64 1, .int .i64 1] 84 86 87 88 15) (upB B 12) u _) (hF.none (by rw [hVS]; simp) (hFW.store hB11 p4 p5 p7 q1 q2 q3 rfl)))
                · have hFW := hF.wd
                  have hB10 : B 10 = true := hdp ⟨10, .data⟩ (by simp) (by rfl)
                  have e10 := slot_spell (hF.get (i := 10) (d := 92) (v := .int .i64 0) (by rw [hVS]; simp) hB10)
                  go_simp
                  exact hK.out _ _ (close_put hfr (d := 16) (by decide) (by simp) _ (F := fun u => Det VS US (RD W0 (oneT nm) (innT nm dd) #[.int .i64 0, .int .i64 0, .int .i64 0, .int .i64 1, .int .i64 1] 84 86 87 88 15) (upB B 13) u _) (hF.step (by rw [hVS]; simp) (by rw [hUS]; simp) (hFW.other (Gr.refl _) hBi (by decide) (by decide))))
              · intro B u w' hall hF
                have z0 := hF.get (i := 0) (d := 83) (v := .agg #[.int .i64 9, .string ⟨#[]⟩, .string (bs (38 :: nm)), .slice (some ⟨z + 1 + 1, 0, none⟩) 1 1, .string ⟨#[]⟩]) (by rw [hVS]; simp) (hall 0 (by simp))
                have z2 := hF.get (i := 2) (d := 85) (v := .agg #[.int .i64 d.k, .string (bs d.l), .string (bs d.x), .slice d.A d.n d.c, .string (bs d.e)]) (by rw [hVS]; simp) (hall 2 (by simp))
                have z6 := hF.get (i := 6) (d := 89) (v := .agg #[.int .i64 usual.d, .int .i64 usual.n, .int .i64 usual.b, .int .i64 usual.a, .int .i64 usual.x]) (by rw [hVS]; simp) (hall 6 (by simp))
                have z7 := hF.get (i := 7) (d := 90) (v := .tuple #[.agg #[.int .i64 0, .int .i64 0, .int .i64 0, .int .i64 1, .int .i64 1], .int .i64 0]) (by rw [hVS]; simp) (hall 7 (by simp))
                have z8 := hF.get (i := 8) (d := 82) (v := .tuple #[.agg #[.int .i64 0, .int .i64 0, .int .i64 0, .int .i64 1, .int .i64 1], .int .i64 0]) (by rw [hVS]; simp) (hall 8 (by simp))
                have z9 := hF.get (i := 9) (d := 91) (v := .agg #[.int .i64 0, .int .i64 0, .int .i64 0, .int .i64 1, .int .i64 1]) (by rw [hVS]; simp) (hall 9 (by simp))
                have z10 := hF.get (i := 10) (d := 92) (v := .int .i64 0) (by rw [hVS]; simp) (hall 10 (by simp))
                have z13 := hF.get (i := 13) (d := 16) (v := .int .i64 0) (by rw [hVS]; simp) (hall 13 (by simp))
                have hFW := hF.wd
                clear hF hVS hUS
                simp only [List.foldl_cons, List.foldl_nil, Act.put, List.setIfInBounds_toArray, List.set_cons_zero, List.set_cons_succ, z0, z2, z6, z7, z8, z9, z10, z13]
                clear z0 z2 z6 z7 z8 z9 z10 z13
        
                obtain ⟨bo, co, qo1, qo2, qo3, qo4⟩ := hFW.c11 (hall 11 (by simp))
                rw [if_pos (hall 12 (by simp))] at qo4
                subst qo4
                have hgo := hFW.gr
                rw [qo2]
                clear hFW hall qo2 HCK
                have HEN := Lib.hid (HE0.out.gr hgo)
                have HGN2 := Lib.hid (HG0.out.trans hgo)
                have HUB := Lib.hid qo3
                clear HE0 HG0 qo1 qo3 hgo W0
                rename World => W0
                have HE0 := HEN
                have HG0 := HGN2
                clear HEN HGN2
                go_wp2_with fail
                have hck : ∀ W' p, NRep anyB 51 W' (twoD p) (wT2 (oneT nm) (oneT nm)) → Calls Try.prog 15 #[.agg #[.int .i64 3, .string ⟨#[]⟩, .string ⟨#[]⟩, .slice (some ⟨p, 0, none⟩) 2 2, .string ⟨#[]⟩], .agg #[.int .i64 usual.d, .int .i64 usual.n, .int .i64 usual.b, .int .i64 usual.a, .int .i64 usual.x]] W' (fun e w' => e = .returned (.tuple #[.agg #[.int .i64 0, .int .i64 0, .int .i64 0, .int .i64 0, .int .i64 0], .int .i64 8]) ∧ Gr W' w') := fun W' p hr => by
                  have h := CheckA_any 51 (twoD p) (wT2 (oneT nm) (oneT nm)) usual W' hr (by have := HGN.out.le; rw [two_len, one_len]; omega) (by rw [two_count, one_count]; omega)
                  rw [w4_law HGN.out] at h
                  exact h
                have HCK := Lib.hid hck
                clear hck
                obtain ⟨VS, hVS⟩ : ∃ VS : List (Nat × Nat × Value), VS = [(0, 94, .agg #[.int .i64 9, .string ⟨#[]⟩, .string (bs (38 :: nm)), .slice (some ⟨z + 1 + 1, 0, none⟩) 1 1, .string ⟨#[]⟩]), (2, 96, .agg #[.int .i64 9, .string ⟨#[]⟩, .string (bs (38 :: nm)), .slice (some ⟨z + 1 + 1, 0, none⟩) 1 1, .string ⟨#[]⟩]), (6, 100, .agg #[.int .i64 usual.d, .int .i64 usual.n, .int .i64 usual.b, .int .i64 usual.a, .int .i64 usual.x]), (7, 101, .tuple #[.agg #[.int .i64 0, .int .i64 0, .int .i64 0, .int .i64 0, .int .i64 0], .int .i64 8]), (8, 93, .tuple #[.agg #[.int .i64 0, .int .i64 0, .int .i64 0, .int .i64 0, .int .i64 0], .int .i64 8]), (9, 102, .agg #[.int .i64 0, .int .i64 0, .int .i64 0, .int .i64 0, .int .i64 0]), (10, 103, .int .i64 8), (13, 18, .int .i64 8)] := ⟨_, rfl⟩
                obtain ⟨US, hUS⟩ : ∃ US : List (Nat × Value), US = [(7, .pointer (some ⟨z, 0, none⟩)), (8, .pointer (some ⟨z + 1, 0, none⟩)), (9, .pointer (some ⟨z + 1 + 1 + 1, 0, none⟩))] := ⟨_, rfl⟩
                refine wp_region_frame (by kernel_rfl) (by kernel_rfl) [94, 95, 96, 97, 98, 99, 100, 101, 93, 102, 103, 17, 18] (by simp) (Det VS US (RD W0 (oneT nm) (oneT nm) #[.int .i64 0, .int .i64 0, .int .i64 0, .int .i64 0, .int .i64 0] 95 97 98 99 17)) ?_ ?_ ?_
                · exact Det.start (by rw [hUS]; simp [slot]) (RD.start ((Gr.refl _).drew))
                · intro B a' w' i o hfr hF ho hBi hdp
                  have hi8 := (Array.getElem?_eq_some_iff.1 ho).1
                  simp only [List.size_toArray, List.length_cons, List.length_nil] at hi8
                  have hor : i = 0 ∨ i = 1 ∨ i = 2 ∨ i = 3 ∨ i = 4 ∨ i = 5 ∨ i = 6 ∨ i = 7 ∨ i = 8 ∨ i = 9 ∨ i = 10 ∨ i = 11 ∨ i = 12 ∨ i = 13 := by omega
                  clear hi8
                  rcases hor with rfl | rfl | rfl | rfl | rfl | rfl | rfl | rfl | rfl | rfl | rfl | rfl | rfl | rfl
                  all_goals (
                    simp only [List.getElem?_toArray, List.getElem?_cons_zero, List.getElem?_cons_succ, Option.some.injEq] at ho
                    subst ho
                    rw [if_pos (show Region.wanted _ _ = true from rfl)]
                    refine wp_hideK ?_
                    intro K hK)
                  · have hFW := hF.wd
                    have o9 := slot_spell (hF.had (d := 9) (v := .pointer (some ⟨z + 1 + 1 + 1, 0, none⟩)) (by rw [hUS]; simp))
                    have hE1 := HE0.out.gr hFW.gr
                    obtain ⟨k0, k1, k2, k3, k4⟩ := hE1.one.cells
                    have kl := lt_of_block hE1.one
                    simp only [oneD, show bs [] = ⟨#[]⟩ from rfl] at k0 k1 k2 k3 k4
                    go_simp
                    exact hK.out _ _ (close_put hfr (d := 94) (by decide) (by simp) _ (F := fun u => Det VS US (RD W0 (oneT nm) (oneT nm) #[.int .i64 0, .int .i64 0, .int .i64 0, .int .i64 0, .int .i64 0] 95 97 98 99 17) (upB B 0) u _) (hF.step (by rw [hVS]; simp) (by rw [hUS]; simp) (hFW.other (Gr.refl _) hBi (by decide) (by decide))))
                  · have hFW := hF.wd
                    have hB0 : B 0 = true := hdp ⟨0, .data⟩ (by simp) (by rfl)
                    have e0 := slot_spell (hF.get (i := 0) (d := 94) (v := .agg #[.int .i64 9, .string ⟨#[]⟩, .string (bs (38 :: nm)), .slice (some ⟨z + 1 + 1, 0, none⟩) 1 1, .string ⟨#[]⟩]) (by rw [hVS]; simp) hB0)
                    have HFF := Lib.hid hF
                    have HFR := Lib.hid hfr
                    have HFG := Lib.hid hFW
                    have HBI := Lib.hid hBi
                    clear hF hfr hFW hdp hBi
                    go_simp
                    refine (leafW_any (P := anyB) 2 (oneD z nm) (oneT nm) _ (fun _ _ => trivial) (HE0.out.gr HFG.out.gr).oneR).mono ?_
                    rintro e w2 ⟨b, rfl, hr, hb2⟩
                    have hF := HFF.out
                    have hfr := HFR.out
                    have hFW := HFG.out
                    have hBi := HBI.out
                    exact hK.out _ _ (close_put hfr (d := 95) (by decide) (by simp) _ (F := fun u => Det VS US (RD W0 (oneT nm) (oneT nm) #[.int .i64 0, .int .i64 0, .int .i64 0, .int .i64 0, .int .i64 0] 95 97 98 99 17) (upB B 1) u _) (hF.step (by rw [hVS]; simp) (by rw [hUS]; simp) (hFW.step hb2 hBi (by decide) (.inl ⟨rfl, rfl, b, rfl, hr.ups 50 (by omega)⟩) (.inr (by decide)) (.inr (by decide)) (.inr (by decide)) (.inr (by decide)))))
                  · have hFW := hF.wd
                    have o9 := slot_spell (hF.had (d := 9) (v := .pointer (some ⟨z + 1 + 1 + 1, 0, none⟩)) (by rw [hUS]; simp))
                    have hE1 := HE0.out.gr hFW.gr
                    obtain ⟨k0, k1, k2, k3, k4⟩ := hE1.one.cells
                    have kl := lt_of_block hE1.one
                    simp only [oneD, show bs [] = ⟨#[]⟩ from rfl] at k0 k1 k2 k3 k4
                    go_simp
                    exact hK.out _ _ (close_put hfr (d := 96) (by decide) (by simp) _ (F := fun u => Det VS US (RD W0 (oneT nm) (oneT nm) #[.int .i64 0, .int .i64 0, .int .i64 0, .int .i64 0, .int .i64 0] 95 97 98 99 17) (upB B 2) u _) (hF.step (by rw [hVS]; simp) (by rw [hUS]; simp) (hFW.other (Gr.refl _) hBi (by decide) (by decide))))
                  · have hFW := hF.wd
                    have hB2 : B 2 = true := hdp ⟨2, .data⟩ (by simp) (by rfl)
                    have e2 := slot_spell (hF.get (i := 2) (d := 96) (v := .agg #[.int .i64 9, .string ⟨#[]⟩, .string (bs (38 :: nm)), .slice (some ⟨z + 1 + 1, 0, none⟩) 1 1, .string ⟨#[]⟩]) (by rw [hVS]; simp) hB2)
                    have HFF := Lib.hid hF
                    have HFR := Lib.hid hfr
                    have HFG := Lib.hid hFW
                    have HBI := Lib.hid hBi
                    clear hF hfr hFW hdp hBi
                    go_simp
                    refine (leafW_any (P := anyB) 2 (oneD z nm) (oneT nm) _ (fun _ _ => trivial) (HE0.out.gr HFG.out.gr).oneR).mono ?_
                    rintro e w2 ⟨b, rfl, hr, hb2⟩
                    have hF := HFF.out
                    have hfr := HFR.out
                    have hFW := HFG.out
                    have hBi := HBI.out
                    exact hK.out _ _ (close_put hfr (d := 97) (by decide) (by simp) _ (F := fun u => Det VS US (RD W0 (oneT nm) (oneT nm) #[.int .i64 0, .int .i64 0, .int .i64 0, .int .i64 0, .int .i64 0] 95 97 98 99 17) (upB B 3) u _) (hF.step (by rw [hVS]; simp) (by rw [hUS]; simp) (hFW.step hb2 hBi (by decide) (.inr (by decide)) (.inl ⟨rfl, rfl, b, rfl, hr.ups 50 (by omega)⟩) (.inr (by decide)) (.inr (by decide)) (.inr (by decide)))))
                  · have hFW := hF.wd
                    have hB1 : B 1 = true := hdp ⟨1, .data⟩ (by simp) (by rfl)
                    have hB3 : B 3 = true := hdp ⟨3, .data⟩ (by simp) (by rfl)
                    have h12 : B 12 = false := by
                      cases hx : B 12 with
                      | false => rfl
                      | true => exact absurd (hFW.done hx).1 (by rw [hBi]; decide)
                    obtain ⟨b1, q1, r1⟩ := hFW.c1 h12 hB1
                    obtain ⟨b2, q2, r2⟩ := hFW.c3 h12 hB3
                    have t1 := slot_spell q1
                    have t2 := slot_spell q2
                    go_simp
                    exact hK.out _ _ (close_put hfr (d := 98) (by decide) (by simp) _ (F := fun u => Det VS US (RD W0 (oneT nm) (oneT nm) #[.int .i64 0, .int .i64 0, .int .i64 0, .int .i64 0, .int .i64 0] 95 97 98 99 17) (upB B 4) u _) (hF.step (by rw [hVS]; simp) (by rw [hUS]; simp) (hFW.step ((Gr.refl _).alloc _) hBi (by decide) (.inr (by decide)) (.inr (by decide)) (.inl ⟨rfl, rfl, _, rfl, NRep.made2 r1 r2⟩) (.inr (by decide)) (.inr (by decide)))))
                  · have hFW := hF.wd
                    have hB4 : B 4 = true := hdp ⟨4, .data⟩ (by simp) (by rfl)
                    have h12 : B 12 = false := by
                      cases hx : B 12 with
                      | false => rfl
                      | true => exact absurd (hFW.done hx).2.1 (by rw [hBi]; decide)
                    obtain ⟨p, q1, r1⟩ := hFW.c4 h12 hB4
                    have t1 := slot_spell q1
                    go_simp
                    exact hK.out _ _ (close_put hfr (d := 99) (by decide) (by simp) _ (F := fun u => Det VS US (RD W0 (oneT nm) (oneT nm) #[.int .i64 0, .int .i64 0, .int .i64 0, .int .i64 0, .int .i64 0] 95 97 98 99 17) (upB B 5) u _) (hF.step (by rw [hVS]; simp) (by rw [hUS]; simp) (hFW.step (Gr.refl _) hBi (by decide) (.inr (by decide)) (.inr (by decide)) (.inr (by decide)) (.inl ⟨rfl, rfl, _, rfl, r1⟩) (.inr (by decide)))))
                  · have hFW := hF.wd
                    have o7 := slot_spell (hF.had (d := 7) (v := .pointer (some ⟨z, 0, none⟩)) (by rw [hUS]; simp))
                    have hE1 := HE0.out.gr hFW.gr
                    obtain ⟨k0, k1, k2, k3, k4⟩ := hE1.lim.cells
                    have kl := lt_of_block hE1.lim
                    go_simp
                    exact hK.out _ _ (close_put hfr (d := 100) (by decide) (by simp) _ (F := fun u => Det VS US (RD W0 (oneT nm) (oneT nm) #[.int .i64 0, .int .i64 0, .int .i64 0, .int .i64 0, .int .i64 0] 95 97 98 99 17) (upB B 6) u _) (hF.step (by rw [hVS]; simp) (by rw [hUS]; simp) (hFW.other (Gr.refl _) hBi (by decide) (by decide))))
                  · have hFW := hF.wd
                    have hB5 : B 5 = true := hdp ⟨5, .data⟩ (by simp) (by rfl)
                    have hB6 : B 6 = true := hdp ⟨6, .data⟩ (by simp) (by rfl)
                    have e6 := slot_spell (hF.get (i := 6) (d := 100) (v := .agg #[.int .i64 usual.d, .int .i64 usual.n, .int .i64 usual.b, .int .i64 usual.a, .int .i64 usual.x]) (by rw [hVS]; simp) hB6)
                    have h12 : B 12 = false := by
                      cases hx : B 12 with
                      | false => rfl
                      | true => exact absurd (hFW.done hx).2.2 (by rw [hBi]; decide)
                    obtain ⟨p, q1, r1⟩ := hFW.c5 h12 hB5
                    have t1 := slot_spell q1
                    have HR1 := Lib.hid r1
                    clear r1
                    have HFF := Lib.hid hF
                    have HFR := Lib.hid hfr
                    have HFG := Lib.hid hFW
                    have HBI := Lib.hid hBi
                    clear hF hfr hFW hdp hBi
                    go_simp
                    refine (HCK.out _ _ HR1.out).mono ?_
                    rintro e w2 ⟨rfl, hb2⟩
                    have hF := HFF.out
                    have hfr := HFR.out
                    have hFW := HFG.out
                    have hBi := HBI.out
                    exact hK.out _ _ (close_put hfr (d := 101) (by decide) (by simp) _ (F := fun u => Det VS US (RD W0 (oneT nm) (oneT nm) #[.int .i64 0, .int .i64 0, .int .i64 0, .int .i64 0, .int .i64 0] 95 97 98 99 17) (upB B 7) u _) (hF.step (by rw [hVS]; simp) (by rw [hUS]; simp) (hFW.other hb2 hBi (by decide) (by decide))))
                  · have hFW := hF.wd
                    have hB7 : B 7 = true := hdp ⟨7, .data⟩ (by simp) (by rfl)
                    have e7 := slot_spell (hF.get (i := 7) (d := 101) (v := .tuple #[.agg #[.int .i64 0, .int .i64 0, .int .i64 0, .int .i64 0, .int .i64 0], .int .i64 8]) (by rw [hVS]; simp) hB7)
                    go_simp
                    exact hK.out _ _ (close_put hfr (d := 93) (by decide) (by simp) _ (F := fun u => Det VS US (RD W0 (oneT nm) (oneT nm) #[.int .i64 0, .int .i64 0, .int .i64 0, .int .i64 0, .int .i64 0] 95 97 98 99 17) (upB B 8) u _) (hF.step (by rw [hVS]; simp) (by rw [hUS]; simp) (hFW.other (Gr.refl _) hBi (by decide) (by decide))))
                  · have hFW := hF.wd
                    have hB8 : B 8 = true := hdp ⟨8, .data⟩ (by simp) (by rfl)
                    have e8 := slot_spell (hF.get (i := 8) (d := 93) (v := .tuple #[.agg #[.int .i64 0, .int .i64 0, .int .i64 0, .int .i64 0, .int .i64 0], .int .i64 8]) (by rw [hVS]; simp) hB8)
                    go_simp
                    exact hK.out _ _ (close_put hfr (d := 102) (by decide) (by simp) _ (F := fun u => Det VS US (RD W0 (oneT nm) (oneT nm) #[.int .i64 0, .int .i64 0, .int .i64 0, .int .i64 0, .int .i64 0] 95 97 98 99 17) (upB B 9) u _) (hF.step (by rw [hVS]; simp) (by rw [hUS]; simp) (hFW.other (Gr.refl _) hBi (by decide) (by decide))))
                  · have hFW := hF.wd
                    have hB8 : B 8 = true := hdp ⟨8, .data⟩ (by simp) (by rfl)
                    have e8 := slot_spell (hF.get (i := 8) (d := 93) (v := .tuple #[.agg #[.int .i64 0, .int .i64 0, .int .i64 0, .int .i64 0, .int .i64 0], .int .i64 8]) (by rw [hVS]; simp) hB8)
                    go_simp
                    exact hK.out _ _ (close_put hfr (d := 103) (by decide) (by simp) _ (F := fun u => Det VS US (RD W0 (oneT nm) (oneT nm) #[.int .i64 0, .int .i64 0, .int .i64 0, .int .i64 0, .int .i64 0] 95 97 98 99 17) (upB B 10) u _) (hF.step (by rw [hVS]; simp) (by rw [hUS]; simp) (hFW.other (Gr.refl _) hBi (by decide) (by decide))))
                  · have hFW := hF.wd
                    go_simp
                    exact hK.out _ _ (close_put hfr (d := 17) (by decide) (by simp) _ (F := fun u => Det VS US (RD W0 (oneT nm) (oneT nm) #[.int .i64 0, .int .i64 0, .int .i64 0, .int .i64 0, .int .i64 0] 95 97 98 99 17) (upB B 11) u _) (hF.step (by rw [hVS]; simp) (by rw [hUS]; simp) (hFW.step ((Gr.refl _).alloc _) hBi (by decide) (.inr (by decide)) (.inr (by decide)) (.inr (by decide)) (.inr (by decide)) (.inl ⟨rfl, rfl, _, Below.size hFW.gr, rfl, heap_alloc_new _ _⟩))))
                  · have hFW := hF.wd
                    have hB9 : B 9 = true := hdp ⟨9, .data⟩ (by simp) (by rfl)
                    have e9 := slot_spell (hF.get (i := 9) (d := 102) (v := .agg #[.int .i64 0, .int .i64 0, .int .i64 0, .int .i64 0, .int .i64 0]) (by rw [hVS]; simp) hB9)
                    have hB11 : B 11 = true := hdp ⟨11, .data⟩ (by simp) (by rfl)
                    obtain ⟨p, c, q1, q2, q3, q4⟩ := hFW.c11 hB11
                    rw [if_neg (by rw [hBi]; decide)] at q4
                    subst q4
                    have t2 := slot_spell q2
                    have y0 := cell_of_cells q3 0
                    have f0 := free_of_cells q3 0
                    have y1 := cell_of_cells q3 1
                    have f1 := free_of_cells q3 1
                    have y2 := cell_of_cells q3 2
                    have f2 := free_of_cells q3 2
                    have y3 := cell_of_cells q3 3
                    have f3 := free_of_cells q3 3
                    have y4 := cell_of_cells q3 4
                    have f4 := free_of_cells q3 4
                    have pl := lt_of_block q3
                    have p4 : B 4 = true := by first | assumption | exact hdp ⟨4, .phase⟩ (by simp) (by rfl) | exact hdp ⟨4, .chain⟩ (by simp) (by rfl)
                    have p5 : B 5 = true := by first | assumption | exact hdp ⟨5, .phase⟩ (by simp) (by rfl) | exact hdp ⟨5, .chain⟩ (by simp) (by rfl)
                    have p7 : B 7 = true := by first | assumption | exact hdp ⟨7, .phase⟩ (by simp) (by rfl) | exact hdp ⟨7, .chain⟩ (by simp) (by rfl)
                    go_simp
                    exact hK.out _ _ (close_none hfr undef (F := fun u => Det VS US (RD W0 (oneT nm) (oneT nm) #[.int .i64 0, .int .i64 0, .int .i64 0, .int .i64 0, .int .i64 0] 95 97 98 99 17) (upB B 12) u _) (hF.none (by rw [hVS]; simp) (hFW.store hB11 p4 p5 p7 q1 q2 q3 rfl)))
                  · have hFW := hF.wd
                    have hB10 : B 10 = true := hdp ⟨10, .data⟩ (by simp) (by rfl)
                    have e10 := slot_spell (hF.get (i := 10) (d := 103) (v := .int .i64 8) (by rw [hVS]; simp) hB10)
                    go_simp
                    exact hK.out _ _ (close_put hfr (d := 18) (by decide) (by simp) _ (F := fun u => Det VS US (RD W0 (oneT nm) (oneT nm) #[.int .i64 0, .int .i64 0, .int .i64 0, .int .i64 0, .int .i64 0] 95 97 98 99 17) (upB B 13) u _) (hF.step (by rw [hVS]; simp) (by rw [hUS]; simp) (hFW.other (Gr.refl _) hBi (by decide) (by decide))))
                · intro B u w' hall hF
                  have z0 := hF.get (i := 0) (d := 94) (v := .agg #[.int .i64 9, .string ⟨#[]⟩, .string (bs (38 :: nm)), .slice (some ⟨z + 1 + 1, 0, none⟩) 1 1, .string ⟨#[]⟩]) (by rw [hVS]; simp) (hall 0 (by simp))
                  have z2 := hF.get (i := 2) (d := 96) (v := .agg #[.int .i64 9, .string ⟨#[]⟩, .string (bs (38 :: nm)), .slice (some ⟨z + 1 + 1, 0, none⟩) 1 1, .string ⟨#[]⟩]) (by rw [hVS]; simp) (hall 2 (by simp))
                  have z6 := hF.get (i := 6) (d := 100) (v := .agg #[.int .i64 usual.d, .int .i64 usual.n, .int .i64 usual.b, .int .i64 usual.a, .int .i64 usual.x]) (by rw [hVS]; simp) (hall 6 (by simp))
                  have z7 := hF.get (i := 7) (d := 101) (v := .tuple #[.agg #[.int .i64 0, .int .i64 0, .int .i64 0, .int .i64 0, .int .i64 0], .int .i64 8]) (by rw [hVS]; simp) (hall 7 (by simp))
                  have z8 := hF.get (i := 8) (d := 93) (v := .tuple #[.agg #[.int .i64 0, .int .i64 0, .int .i64 0, .int .i64 0, .int .i64 0], .int .i64 8]) (by rw [hVS]; simp) (hall 8 (by simp))
                  have z9 := hF.get (i := 9) (d := 102) (v := .agg #[.int .i64 0, .int .i64 0, .int .i64 0, .int .i64 0, .int .i64 0]) (by rw [hVS]; simp) (hall 9 (by simp))
                  have z10 := hF.get (i := 10) (d := 103) (v := .int .i64 8) (by rw [hVS]; simp) (hall 10 (by simp))
                  have z13 := hF.get (i := 13) (d := 18) (v := .int .i64 8) (by rw [hVS]; simp) (hall 13 (by simp))
                  have hFW := hF.wd
                  clear hF hVS hUS
                  simp only [List.foldl_cons, List.foldl_nil, Act.put, List.setIfInBounds_toArray, List.set_cons_zero, List.set_cons_succ, z0, z2, z6, z7, z8, z9, z10, z13]
                  clear z0 z2 z6 z7 z8 z9 z10 z13
        
                  obtain ⟨bo, co, qo1, qo2, qo3, qo4⟩ := hFW.c11 (hall 11 (by simp))
                  rw [if_pos (hall 12 (by simp))] at qo4
                  subst qo4
                  have hgo := hFW.gr
                  rw [qo2]
                  clear hFW hall qo2 HCK
                  have HEN := Lib.hid (HE0.out.gr hgo)
                  have HGN2 := Lib.hid (HG0.out.trans hgo)
                  have HUB2 := Lib.hid ((hgo.block _ (lt_of_block HUB.out)).trans HUB.out)
                  clear HUB
                  clear HE0 HG0 qo1 qo3 hgo W0
                  rename World => W0
                  have HE0 := HEN
                  have HG0 := HGN2
                  clear HEN HGN2
                  have y0 := cell_of_cells HUB2.out 0
                  have y1 := cell_of_cells HUB2.out 1
                  have y2 := cell_of_cells HUB2.out 2
                  have y3 := cell_of_cells HUB2.out 3
                  have y4 := cell_of_cells HUB2.out 4
                  have yl := lt_of_block HUB2.out
                  go_wp2_with fail
                  refine (awake_any _).mono ?_
                  rintro e w9 ⟨rfl, hb9⟩
                  go_wp2_with fail
                  go_ret
                  exact ⟨rfl, HG0.out.trans hb9⟩
      · have HGN : Hid (GoodN (nameF zs i)) := Lib.hid ⟨fun h => by have h2 := HNL.out; rw [h] at h2; simp at h2; omega, by rw [HNL.out]; exact hi64, HALL.out⟩
        have hem : (bs (nameF zs i)).toList.isEmpty = false := by
          rw [bs_list]
          have h := HGN.out.ne
          cases hx : nameF zs i with
          | nil => exact absurd hx h
          | cons a l => rfl
        obtain ⟨nm, hnm⟩ : ∃ nm, nm = nameF zs i := ⟨_, rfl⟩
        rw [← hnm] at HGN hem ⊢
        clear hnm HALL HNL hi0
        by_cases hin : i < n
        · have h64 : ¬ i < 64 := fun h => hlt ⟨hin, h⟩
          clear hlt
          have hkn : (bs nm).size ≤ 64 := HGN.out.le
          have hs42 : (⟨#[42]⟩ : ByteArray).size = 1 := rfl
          have hs38 : (⟨#[38]⟩ : ByteArray).size = 1 := rfl
          have ha42 : (⟨#[42]⟩ : ByteArray) ++ bs nm = bs (42 :: nm) := bs_append [42] nm
          have ha38 : (⟨#[38]⟩ : ByteArray) ++ bs nm = bs (38 :: nm) := bs_append [38] nm
          have hk0 : (nm.length : Int) ≤ 64 := by have h := HGN.out.le; omega
          go_wp2_with fail
          try rw [hbn]
          try clear hbn
          refine (usualR_any _).mono ?_
          rintro e w2 ⟨rfl, hb2⟩
          have hg2 : Gr w w2 := hG.trans hb2
          clear hb2 hem
          go_wp2_with fail
          obtain ⟨z, hz⟩ : ∃ z, z = w2.heap.size := ⟨_, rfl⟩
          have hwz : w.heap.size ≤ z := by rw [hz]; exact Below.size hg2
          rw [← hz]
          have hst0 := WSt.start hz hg2 HGN.out
          generalize ((((w2.alloc (.cells #[.int .i64 usual.d, .int .i64 usual.n, .int .i64 usual.b, .int .i64 usual.a, .int .i64 usual.x] 35)).alloc (.cells #[.int .i64 10, .string ⟨#[]⟩, .string (bs (42 :: nm)), .slice none 0 0, .string ⟨#[]⟩] 24)).alloc (.cells #[.int .i64 2, .string ⟨#[]⟩, .string ⟨#[49]⟩, .slice none 0 0, .string ⟨#[]⟩] 24)).alloc (.cells #[.int .i64 9, .string ⟨#[]⟩, .string (bs (38 :: nm)), .slice (some ⟨z + 1 + 1, 0, none⟩) 1 1, .string ⟨#[]⟩] 24)) = W5 at *
          have HST0 := Lib.hid hst0
          have HD := Lib.hid hd
          obtain ⟨dd, hdd⟩ : ∃ dd, dd = deep % 20 := ⟨_, rfl⟩
          have hdI : (wrap64 (deep : Int)).tmod 20 = (dd : Int) := by rw [hdd]; exact deep_mod hd
          have hdd20 : dd ≤ 20 := by rw [hdd]; exact deep_le
          clear hz hst0 hdd hd hg2
          go_loopw [10] (fun iv wr => ∃ j : Nat, j ≤ dd ∧ iv = .int .i64 j ∧ WSt nm z w j wr) (fun iv _ => dd - (intOf iv).toNat)
          case atStart => exact ⟨0, Nat.zero_le _, rfl, HST0.out⟩
          case round =>
            obtain ⟨j, hj, rfl, hst⟩ := hrel
            have HST := Lib.hid hst
            obtain ⟨d, hdn, hdr⟩ := hst.inn
            obtain ⟨k0, k1, k2, k3, k4⟩ := hdn.cells
            have kf0 := free_of_cells hdn 0
            have kf1 := free_of_cells hdn 1
            have kf2 := free_of_cells hdn 2
            have kf3 := free_of_cells hdn 3
            have kf4 := free_of_cells hdn 4
            have kl := lt_of_block hdn
            have HDN := Lib.hid hdn
            have HDR := Lib.hid hdr
            clear hst hdn hdr
            by_cases hlj : j < dd
            · go_wp2_with fail
              refine (leafW_any (P := fun b => b ≠ z + 1) (1 + 2 * j) d (innT nm j) _ (fun b hb => by omega) HDR.out).mono ?_
              rintro e w3 ⟨b, rfl, hr3, hb3⟩
              have hdn3 := HDN.out.gr hb3
              clear k0 k1 k2 k3 k4 kf0 kf1 kf2 kf3 kf4 kl
              obtain ⟨k0, k1, k2, k3, k4⟩ := hdn3.cells
              have kf0 := free_of_cells hdn3 0
              have kf1 := free_of_cells hdn3 1
              have kf2 := free_of_cells hdn3 2
              have kf3 := free_of_cells hdn3 3
              have kf4 := free_of_cells hdn3 4
              have kl := lt_of_block hdn3
              have hnext := HST.out.next hb3 hwz hr3 _ rfl
              have HNX := Lib.hid hnext
              clear hnext hdn3 hr3 hb3
              go_wp2_with fail
              exact ⟨⟨j + 1, by omega, by go_num, HNX.out⟩, by simp [intOf]; omega⟩
            · have hjd : dd = j := by omega
              subst hjd
              clear hlj hj
              have hE : WEnd nm z dd d wr := ⟨HST.out.lim, HST.out.one, HST.out.oneR.any, HDN.out, HDR.out.any⟩
              have hw0 := HST.out.gr
              clear HST HDR HDN HST0
              obtain ⟨c0, c1, c2, c3, c4⟩ := hE.lim.cells
              have cl := lt_of_block hE.lim
              have hck1 : ∀ W' M p, NRep anyB M W' ⟨9, [], 38 :: nm, some ⟨p, 0, none⟩, 1, 1, []⟩ (wT1 nm dd) → Calls Try.prog 15 #[.agg #[.int .i64 9, .string ⟨#[]⟩, .string (bs (38 :: nm)), .slice (some ⟨p, 0, none⟩) 1 1, .string ⟨#[]⟩], .agg #[.int .i64 usual.d, .int .i64 usual.n, .int .i64 usual.b, .int .i64 usual.a, .int .i64 usual.x]] W' (fun e w' => e = .returned (.tuple #[.agg #[.int .i64 0, .int .i64 0, .int .i64 0, .int .i64 0, .int .i64 0], .int .i64 11]) ∧ Gr W' w') := fun W' M p hr => by
                have h := CheckA_any M ⟨9, [], 38 :: nm, some ⟨p, 0, none⟩, 1, 1, []⟩ (wT1 nm dd) usual W' hr (by rw [w1_len]; have := HGN.out.le; omega) (by rw [w1_count]; omega)
                rw [w1_law HGN.out hdd20] at h
                exact h
              have hnr := NRep.made1 hE.innR (nm := nm) (by have := HGN.out.le; omega)
              have HE := Lib.hid hE
              have HW0 := Lib.hid hw0
              have HCK1 := Lib.hid hck1
              have HNR := Lib.hid hnr
              clear hE hw0 hck1 hnr
              go_wp2_with fail
              refine (HCK1.out _ _ _ HNR.out).mono ?_
              rintro e w6 ⟨rfl, hb6⟩
              clear k0 k1 k2 k3 k4 kf0 kf1 kf2 kf3 kf4 kl c0 c1 c2 c3 c4 cl HNR HCK1
              have hg6 := ((Gr.refl wr).alloc (.cells #[.int .i64 d.k, .string (bs d.l), .string (bs d.x), .slice d.A d.n d.c, .string (bs d.e)] 24)).trans hb6
              have HE6 := Lib.hid (HE.out.gr hg6)
              have HW6 := Lib.hid (HW0.out.trans hg6)
              clear hg6 hb6 HE HW0
              go_wp2_with fail
              generalize w6.heap.size = b6 at *
              obtain ⟨W0, hW0⟩ : ∃ W0, W0 = w6.alloc (.cells #[.int .i64 0, .int .i64 0, .int .i64 0, .int .i64 0, .int .i64 0] 36) := ⟨_, rfl⟩
              rw [← hW0]
              have HE0 : Hid (WEnd nm z dd d W0) := Lib.hid (by rw [hW0]; exact HE6.out.gr ((Gr.refl _).alloc _))
              have HG0 : Hid (Gr w W0) := Lib.hid (by rw [hW0]; exact HW6.out.alloc _)
              clear hW0 HE6 HW6
              have hck : ∀ W' p, NRep anyB 51 W' (twoD p) (wT2 (innT nm dd) (oneT nm)) → Calls Try.prog 15 #[.agg #[.int .i64 3, .string ⟨#[]⟩, .string ⟨#[]⟩, .slice (some ⟨p, 0, none⟩) 2 2, .string ⟨#[]⟩], .agg #[.int .i64 usual.d, .int .i64 usual.n, .int .i64 usual.b, .int .i64 usual.a, .int .i64 usual.x]] W' (fun e w' => e = .returned (.tuple #[.agg #[.int .i64 0, .int .i64 0, .int .i64 0, .int .i64 0, .int .i64 0], .int .i64 11]) ∧ Gr W' w') := fun W' p hr => by
                have h := CheckA_any 51 (twoD p) (wT2 (innT nm dd) (oneT nm)) usual W' hr (by have := HGN.out.le; rw [two_len, inn_len, one_len]; omega) (by rw [two_count, inn_count, one_count]; omega)
                rw [w2_law HGN.out hdd20] at h
                exact h
              have HCK := Lib.hid hck
              clear hck
              obtain ⟨VS, hVS⟩ : ∃ VS : List (Nat × Nat × Value), VS = [(0, 72, .agg #[.int .i64 d.k, .string (bs d.l), .string (bs d.x), .slice d.A d.n d.c, .string (bs d.e)]), (2, 74, .agg #[.int .i64 9, .string ⟨#[]⟩, .string (bs (38 :: nm)), .slice (some ⟨z + 1 + 1, 0, none⟩) 1 1, .string ⟨#[]⟩]), (6, 78, .agg #[.int .i64 usual.d, .int .i64 usual.n, .int .i64 usual.b, .int .i64 usual.a, .int .i64 usual.x]), (7, 79, .tuple #[.agg #[.int .i64 0, .int .i64 0, .int .i64 0, .int .i64 0, .int .i64 0], .int .i64 11]), (8, 71, .tuple #[.agg #[.int .i64 0, .int .i64 0, .int .i64 0, .int .i64 0, .int .i64 0], .int .i64 11]), (9, 80, .agg #[.int .i64 0, .int .i64 0, .int .i64 0, .int .i64 0, .int .i64 0]), (10, 81, .int .i64 11), (13, 14, .int .i64 11)] := ⟨_, rfl⟩
              obtain ⟨US, hUS⟩ : ∃ US : List (Nat × Value), US = [(7, .pointer (some ⟨z, 0, none⟩)), (8, .pointer (some ⟨z + 1, 0, none⟩)), (9, .pointer (some ⟨z + 1 + 1 + 1, 0, none⟩))] := ⟨_, rfl⟩
              refine wp_region_frame (by kernel_rfl) (by kernel_rfl) [72, 73, 74, 75, 76, 77, 78, 79, 71, 80, 81, 13, 14] (by simp) (Det VS US (RD W0 (innT nm dd) (oneT nm) #[.int .i64 0, .int .i64 0, .int .i64 0, .int .i64 0, .int .i64 0] 73 75 76 77 13)) ?_ ?_ ?_
              · exact Det.start (by rw [hUS]; simp [slot]) (RD.start ((Gr.refl _).drew))
              · intro B a' w' i o hfr hF ho hBi hdp
                have hi8 := (Array.getElem?_eq_some_iff.1 ho).1
                simp only [List.size_toArray, List.length_cons, List.length_nil] at hi8
                have hor : i = 0 ∨ i = 1 ∨ i = 2 ∨ i = 3 ∨ i = 4 ∨ i = 5 ∨ i = 6 ∨ i = 7 ∨ i = 8 ∨ i = 9 ∨ i = 10 ∨ i = 11 ∨ i = 12 ∨ i = 13 := by omega
                clear hi8
                rcases hor with rfl | rfl | rfl | rfl | rfl | rfl | rfl | rfl | rfl | rfl | rfl | rfl | rfl | rfl
                all_goals (
                  simp only [List.getElem?_toArray, List.getElem?_cons_zero, List.getElem?_cons_succ, Option.some.injEq] at ho
                  subst ho
                  rw [if_pos (show Region.wanted _ _ = true from rfl)]
                  refine wp_hideK ?_
                  intro K hK)
                · have hFW := hF.wd
                  have o8 := slot_spell (hF.had (d := 8) (v := .pointer (some ⟨z + 1, 0, none⟩)) (by rw [hUS]; simp))
                  have hE1 := HE0.out.gr hFW.gr
                  obtain ⟨k0, k1, k2, k3, k4⟩ := hE1.inn.cells
                  have kl := lt_of_block hE1.inn
                  go_simp
                  exact hK.out _ _ (close_put hfr (d := 72) (by decide) (by simp) _ (F := fun u => Det VS US (RD W0 (innT nm dd) (oneT nm) #[.int .i64 0, .int .i64 0, .int .i64 0, .int .i64 0, .int .i64 0] 73 75 76 77 13) (upB B 0) u _) (hF.step (by rw [hVS]; simp) (by rw [hUS]; simp) (hFW.other (Gr.refl _) hBi (by decide) (by decide))))
                · have hFW := hF.wd
                  have hB0 : B 0 = true := hdp ⟨0, .data⟩ (by simp) (by rfl)
                  have e0 := slot_spell (hF.get (i := 0) (d := 72) (v := .agg #[.int .i64 d.k, .string (bs d.l), .string (bs d.x), .slice d.A d.n d.c, .string (bs d.e)]) (by rw [hVS]; simp) hB0)
                  have HFF := Lib.hid hF
                  have HFR := Lib.hid hfr
                  have HFG := Lib.hid hFW
                  have HBI := Lib.hid hBi
                  clear hF hfr hFW hdp hBi
                  go_simp
                  refine (leafW_any (P := anyB) (1 + 2 * dd) d (innT nm dd) _ (fun _ _ => trivial) (HE0.out.gr HFG.out.gr).innR).mono ?_
                  rintro e w2 ⟨b, rfl, hr, hb2⟩
                  have hF := HFF.out
                  have hfr := HFR.out
                  have hFW := HFG.out
                  have hBi := HBI.out
                  exact hK.out _ _ (close_put hfr (d := 73) (by decide) (by simp) _ (F := fun u => Det VS US (RD W0 (innT nm dd) (oneT nm) #[.int .i64 0, .int .i64 0, .int .i64 0, .int .i64 0, .int .i64 0] 73 75 76 77 13) (upB B 1) u _) (hF.step (by rw [hVS]; simp) (by rw [hUS]; simp) (hFW.step hb2 hBi (by decide) (.inl ⟨rfl, rfl, b, rfl, hr.ups 50 (by omega)⟩) (.inr (by decide)) (.inr (by decide)) (.inr (by decide)) (.inr (by decide)))))
                · have hFW := hF.wd
                  have o9 := slot_spell (hF.had (d := 9) (v := .pointer (some ⟨z + 1 + 1 + 1, 0, none⟩)) (by rw [hUS]; simp))
                  have hE1 := HE0.out.gr hFW.gr
                  obtain ⟨k0, k1, k2, k3, k4⟩ := hE1.one.cells
                  have kl := lt_of_block hE1.one
                  simp only [oneD, show bs [] = ⟨#[]⟩ from rfl] at k0 k1 k2 k3 k4
                  go_simp
                  exact hK.out _ _ (close_put hfr (d := 74) (by decide) (by simp) _ (F := fun u => Det VS US (RD W0 (innT nm dd) (oneT nm) #[.int .i64 0, .int .i64 0, .int .i64 0, .int .i64 0, .int .i64 0] 73 75 76 77 13) (upB B 2) u _) (hF.step (by rw [hVS]; simp) (by rw [hUS]; simp) (hFW.other (Gr.refl _) hBi (by decide) (by decide))))
                · have hFW := hF.wd
                  have hB2 : B 2 = true := hdp ⟨2, .data⟩ (by simp) (by rfl)
                  have e2 := slot_spell (hF.get (i := 2) (d := 74) (v := .agg #[.int .i64 9, .string ⟨#[]⟩, .string (bs (38 :: nm)), .slice (some ⟨z + 1 + 1, 0, none⟩) 1 1, .string ⟨#[]⟩]) (by rw [hVS]; simp) hB2)
                  have HFF := Lib.hid hF
                  have HFR := Lib.hid hfr
                  have HFG := Lib.hid hFW
                  have HBI := Lib.hid hBi
                  clear hF hfr hFW hdp hBi
                  go_simp
                  refine (leafW_any (P := anyB) 2 (oneD z nm) (oneT nm) _ (fun _ _ => trivial) (HE0.out.gr HFG.out.gr).oneR).mono ?_
                  rintro e w2 ⟨b, rfl, hr, hb2⟩
                  have hF := HFF.out
                  have hfr := HFR.out
                  have hFW := HFG.out
                  have hBi := HBI.out
                  exact hK.out _ _ (close_put hfr (d := 75) (by decide) (by simp) _ (F := fun u => Det VS US (RD W0 (innT nm dd) (oneT nm) #[.int .i64 0, .int .i64 0, .int .i64 0, .int .i64 0, .int .i64 0] 73 75 76 77 13) (upB B 3) u _) (hF.step (by rw [hVS]; simp) (by rw [hUS]; simp) (hFW.step hb2 hBi (by decide) (.inr (by decide)) (.inl ⟨rfl, rfl, b, rfl, hr.ups 50 (by omega)⟩) (.inr (by decide)) (.inr (by decide)) (.inr (by decide)))))
                · have hFW := hF.wd
                  have hB1 : B 1 = true := hdp ⟨1, .data⟩ (by simp) (by rfl)
                  have hB3 : B 3 = true := hdp ⟨3, .data⟩ (by simp) (by rfl)
                  have h12 : B 12 = false := by
                    cases hx : B 12 with
                    | false => rfl
                    | true => exact absurd (hFW.done hx).1 (by rw [hBi]; decide)
                  obtain ⟨b1, q1, r1⟩ := hFW.c1 h12 hB1
                  obtain ⟨b2, q2, r2⟩ := hFW.c3 h12 hB3
                  have t1 := slot_spell q1
                  have t2 := slot_spell q2
                  go_simp
                  exact hK.out _ _ (close_put hfr (d := 76) (by decide) (by simp) _ (F := fun u => Det VS US (RD W0 (innT nm dd) (oneT nm) #[.int .i64 0, .int .i64 0, .int .i64 0, .int .i64 0, .int .i64 0] 73 75 76 77 13) (upB B 4) u _) (hF.step (by rw [hVS]; simp) (by rw [hUS]; simp) (hFW.step ((Gr.refl _).alloc _) hBi (by decide) (.inr (by decide)) (.inr (by decide)) (.inl ⟨rfl, rfl, _, rfl, NRep.made2 r1 r2⟩) (.inr (by decide)) (.inr (by decide)))))
                · have hFW := hF.wd
                  have hB4 : B 4 = true := hdp ⟨4, .data⟩ (by simp) (by rfl)
                  have h12 : B 12 = false := by
                    cases hx : B 12 with
                    | false => rfl
                    | true => exact absurd (hFW.done hx).2.1 (by rw [hBi]; decide)
                  obtain ⟨p, q1, r1⟩ := hFW.c4 h12 hB4
                  have t1 := slot_spell q1
                  go_simp
                  exact hK.out _ _ (close_put hfr (d := 77) (by decide) (by simp) _ (F := fun u => Det VS US (RD W0 (innT nm dd) (oneT nm) #[.int .i64 0, .int .i64 0, .int .i64 0, .int .i64 0, .int .i64 0] 73 75 76 77 13) (upB B 5) u _) (hF.step (by rw [hVS]; simp) (by rw [hUS]; simp) (hFW.step (Gr.refl _) hBi (by decide) (.inr (by decide)) (.inr (by decide)) (.inr (by decide)) (.inl ⟨rfl, rfl, _, rfl, r1⟩) (.inr (by decide)))))
                · have hFW := hF.wd
                  have o7 := slot_spell (hF.had (d := 7) (v := .pointer (some ⟨z, 0, none⟩)) (by rw [hUS]; simp))
                  have hE1 := HE0.out.gr hFW.gr
                  obtain ⟨k0, k1, k2, k3, k4⟩ := hE1.lim.cells
                  have kl := lt_of_block hE1.lim
                  go_simp
                  exact hK.out _ _ (close_put hfr (d := 78) (by decide) (by simp) _ (F := fun u => Det VS US (RD W0 (innT nm dd) (oneT nm) #[.int .i64 0, .int .i64 0, .int .i64 0, .int .i64 0, .int .i64 0] 73 75 76 77 13) (upB B 6) u _) (hF.step (by rw [hVS]; simp) (by rw [hUS]; simp) (hFW.other (Gr.refl _) hBi (by decide) (by decide))))
                · have hFW := hF.wd
                  have hB5 : B 5 = true := hdp ⟨5, .data⟩ (by simp) (by rfl)
                  have hB6 : B 6 = true := hdp ⟨6, .data⟩ (by simp) (by rfl)
                  have e6 := slot_spell (hF.get (i := 6) (d := 78) (v := .agg #[.int .i64 usual.d, .int .i64 usual.n, .int .i64 usual.b, .int .i64 usual.a, .int .i64 usual.x]) (by rw [hVS]; simp) hB6)
                  have h12 : B 12 = false := by
                    cases hx : B 12 with
                    | false => rfl
                    | true => exact absurd (hFW.done hx).2.2 (by rw [hBi]; decide)
                  obtain ⟨p, q1, r1⟩ := hFW.c5 h12 hB5
                  have t1 := slot_spell q1
                  have HR1 := Lib.hid r1
                  clear r1
                  have HFF := Lib.hid hF
                  have HFR := Lib.hid hfr
                  have HFG := Lib.hid hFW
                  have HBI := Lib.hid hBi
                  clear hF hfr hFW hdp hBi
                  go_simp
                  refine (HCK.out _ _ HR1.out).mono ?_
                  rintro e w2 ⟨rfl, hb2⟩
                  have hF := HFF.out
                  have hfr := HFR.out
                  have hFW := HFG.out
                  have hBi := HBI.out
                  exact hK.out _ _ (close_put hfr (d := 79) (by decide) (by simp) _ (F := fun u => Det VS US (RD W0 (innT nm dd) (oneT nm) #[.int .i64 0, .int .i64 0, .int .i64 0, .int .i64 0, .int .i64 0] 73 75 76 77 13) (upB B 7) u _) (hF.step (by rw [hVS]; simp) (by rw [hUS]; simp) (hFW.other hb2 hBi (by decide) (by decide))))
                · have hFW := hF.wd
                  have hB7 : B 7 = true := hdp ⟨7, .data⟩ (by simp) (by rfl)
                  have e7 := slot_spell (hF.get (i := 7) (d := 79) (v := .tuple #[.agg #[.int .i64 0, .int .i64 0, .int .i64 0, .int .i64 0, .int .i64 0], .int .i64 11]) (by rw [hVS]; simp) hB7)
                  go_simp
                  exact hK.out _ _ (close_put hfr (d := 71) (by decide) (by simp) _ (F := fun u => Det VS US (RD W0 (innT nm dd) (oneT nm) #[.int .i64 0, .int .i64 0, .int .i64 0, .int .i64 0, .int .i64 0] 73 75 76 77 13) (upB B 8) u _) (hF.step (by rw [hVS]; simp) (by rw [hUS]; simp) (hFW.other (Gr.refl _) hBi (by decide) (by decide))))
                · have hFW := hF.wd
                  have hB8 : B 8 = true := hdp ⟨8, .data⟩ (by simp) (by rfl)
                  have e8 := slot_spell (hF.get (i := 8) (d := 71) (v := .tuple #[.agg #[.int .i64 0, .int .i64 0, .int .i64 0, .int .i64 0, .int .i64 0], .int .i64 11]) (by rw [hVS]; simp) hB8)
                  go_simp
                  exact hK.out _ _ (close_put hfr (d := 80) (by decide) (by simp) _ (F := fun u => Det VS US (RD W0 (innT nm dd) (oneT nm) #[.int .i64 0, .int .i64 0, .int .i64 0, .int .i64 0, .int .i64 0] 73 75 76 77 13) (upB B 9) u _) (hF.step (by rw [hVS]; simp) (by rw [hUS]; simp) (hFW.other (Gr.refl _) hBi (by decide) (by decide))))
                · have hFW := hF.wd
                  have hB8 : B 8 = true := hdp ⟨8, .data⟩ (by simp) (by rfl)
                  have e8 := slot_spell (hF.get (i := 8) (d := 71) (v := .tuple #[.agg #[.int .i64 0, .int .i64 0, .int .i64 0, .int .i64 0, .int .i64 0], .int .i64 11]) (by rw [hVS]; simp) hB8)
                  go_simp
                  exact hK.out _ _ (close_put hfr (d := 81) (by decide) (by simp) _ (F := fun u => Det VS US (RD W0 (innT nm dd) (oneT nm) #[.int .i64 0, .int .i64 0, .int .i64 0, .int .i64 0, .int .i64 0] 73 75 76 77 13) (upB B 10) u _) (hF.step (by rw [hVS]; simp) (by rw [hUS]; simp) (hFW.other (Gr.refl _) hBi (by decide) (by decide))))
                · have hFW := hF.wd
                  go_simp
                  exact hK.out _ _ (close_put hfr (d := 13) (by decide) (by simp) _ (F := fun u => Det VS US (RD W0 (innT nm dd) (oneT nm) #[.int .i64 0, .int .i64 0, .int .i64 0, .int .i64 0, .int .i64 0] 73 75 76 77 13) (upB B 11) u _) (hF.step (by rw [hVS]; simp) (by rw [hUS]; simp) (hFW.step ((Gr.refl _).alloc _) hBi (by decide) (.inr (by decide)) (.inr (by decide)) (.inr (by decide)) (.inr (by decide)) (.inl ⟨rfl, rfl, _, Below.size hFW.gr, rfl, heap_alloc_new _ _⟩))))
                · have hFW := hF.wd
                  have hB9 : B 9 = true := hdp ⟨9, .data⟩ (by simp) (by rfl)
                  have e9 := slot_spell (hF.get (i := 9) (d := 80) (v := .agg #[.int .i64 0, .int .i64 0, .int .i64 0, .int .i64 0, .int .i64 0]) (by rw [hVS]; simp) hB9)
                  have hB11 : B 11 = true := hdp ⟨11, .data⟩ (by simp) (by rfl)
                  obtain ⟨p, c, q1, q2, q3, q4⟩ := hFW.c11 hB11
                  rw [if_neg (by rw [hBi]; decide)] at q4
                  subst q4
                  have t2 := slot_spell q2
                  have y0 := cell_of_cells q3 0
                  have f0 := free_of_cells q3 0
                  have y1 := cell_of_cells q3 1
                  have f1 := free_of_cells q3 1
                  have y2 := cell_of_cells q3 2
                  have f2 := free_of_cells q3 2
                  have y3 := cell_of_cells q3 3
                  have f3 := free_of_cells q3 3
                  have y4 := cell_of_cells q3 4
                  have f4 := free_of_cells q3 4
                  have pl := lt_of_block q3
                  have p4 : B 4 = true := by first | assumption | exact hdp ⟨4, .phase⟩ (by simp) (by rfl) | exact hdp ⟨4, .chain⟩ (by simp) (by rfl)
                  have p5 : B 5 = true := by first | assumption | exact hdp ⟨5, .phase⟩ (by simp) (by rfl) | exact hdp ⟨5, .chain⟩ (by simp) (by rfl)
                  have p7 : B 7 = true := by first | assumption | exact hdp ⟨7, .phase⟩ (by simp) (by rfl) | exact hdp ⟨7, .chain⟩ (by simp) (by rfl)
                  go_simp
                  exact hK.out _ _ (close_none hfr undef (F := fun u => Det VS US (RD W0 (innT nm dd) (oneT nm) #[.int .i64 0, .int .i64 0, .int .i64 0, .int .i64 0, .int .i64 0] 73 75 76 77 13) (upB B 12) u _) (hF.none (by rw [hVS]; simp) (hFW.store hB11 p4 p5 p7 q1 q2 q3 rfl)))
                · have hFW := hF.wd
                  have hB10 : B 10 = true := hdp ⟨10, .data⟩ (by simp) (by rfl)
                  have e10 := slot_spell (hF.get (i := 10) (d := 81) (v := .int .i64 11) (by rw [hVS]; simp) hB10)
                  go_simp
                  exact hK.out _ _ (close_put hfr (d := 14) (by decide) (by simp) _ (F := fun u => Det VS US (RD W0 (innT nm dd) (oneT nm) #[.int .i64 0, .int .i64 0, .int .i64 0, .int .i64 0, .int .i64 0] 73 75 76 77 13) (upB B 13) u _) (hF.step (by rw [hVS]; simp) (by rw [hUS]; simp) (hFW.other (Gr.refl _) hBi (by decide) (by decide))))
              · intro B u w' hall hF
                have z0 := hF.get (i := 0) (d := 72) (v := .agg #[.int .i64 d.k, .string (bs d.l), .string (bs d.x), .slice d.A d.n d.c, .string (bs d.e)]) (by rw [hVS]; simp) (hall 0 (by simp))
                have z2 := hF.get (i := 2) (d := 74) (v := .agg #[.int .i64 9, .string ⟨#[]⟩, .string (bs (38 :: nm)), .slice (some ⟨z + 1 + 1, 0, none⟩) 1 1, .string ⟨#[]⟩]) (by rw [hVS]; simp) (hall 2 (by simp))
                have z6 := hF.get (i := 6) (d := 78) (v := .agg #[.int .i64 usual.d, .int .i64 usual.n, .int .i64 usual.b, .int .i64 usual.a, .int .i64 usual.x]) (by rw [hVS]; simp) (hall 6 (by simp))
                have z7 := hF.get (i := 7) (d := 79) (v := .tuple #[.agg #[.int .i64 0, .int .i64 0, .int .i64 0, .int .i64 0, .int .i64 0], .int .i64 11]) (by rw [hVS]; simp) (hall 7 (by simp))
                have z8 := hF.get (i := 8) (d := 71) (v := .tuple #[.agg #[.int .i64 0, .int .i64 0, .int .i64 0, .int .i64 0, .int .i64 0], .int .i64 11]) (by rw [hVS]; simp) (hall 8 (by simp))
                have z9 := hF.get (i := 9) (d := 80) (v := .agg #[.int .i64 0, .int .i64 0, .int .i64 0, .int .i64 0, .int .i64 0]) (by rw [hVS]; simp) (hall 9 (by simp))
                have z10 := hF.get (i := 10) (d := 81) (v := .int .i64 11) (by rw [hVS]; simp) (hall 10 (by simp))
                have z13 := hF.get (i := 13) (d := 14) (v := .int .i64 11) (by rw [hVS]; simp) (hall 13 (by simp))
                have hFW := hF.wd
                clear hF hVS hUS
                simp only [List.foldl_cons, List.foldl_nil, Act.put, List.setIfInBounds_toArray, List.set_cons_zero, List.set_cons_succ, z0, z2, z6, z7, z8, z9, z10, z13]
                clear z0 z2 z6 z7 z8 z9 z10 z13
          
                obtain ⟨bo, co, qo1, qo2, qo3, qo4⟩ := hFW.c11 (hall 11 (by simp))
                rw [if_pos (hall 12 (by simp))] at qo4
                subst qo4
                have hgo := hFW.gr
                rw [qo2]
                clear hFW hall qo2 HCK
                have HEN := Lib.hid (HE0.out.gr hgo)
                have HGN2 := Lib.hid (HG0.out.trans hgo)
                clear HE0 HG0 qo1 qo3 hgo W0
                rename World => W0
                have HE0 := HEN
                have HG0 := HGN2
                clear HEN HGN2
                go_wp2_with fail
                have hck : ∀ W' p, NRep anyB 51 W' (twoD p) (wT2 (oneT nm) (innT nm dd)) → Calls Try.prog 15 #[.agg #[.int .i64 3, .string ⟨#[]⟩, .string ⟨#[]⟩, .slice (some ⟨p, 0, none⟩) 2 2, .string ⟨#[]⟩], .agg #[.int .i64 usual.d, .int .i64 usual.n, .int .i64 usual.b, .int .i64 usual.a, .int .i64 usual.x]] W' (fun e w' => e = .returned (.tuple #[.agg #[.int .i64 0, .int .i64 0, .int .i64 0, .int .i64 1, .int .i64 1], .int .i64 0]) ∧ Gr W' w') := fun W' p hr => by
                  have h := CheckA_any 51 (twoD p) (wT2 (oneT nm) (innT nm dd)) usual W' hr (by have := HGN.out.le; rw [two_len, inn_len, one_len]; omega) (by rw [two_count, inn_count, one_count]; omega)
                  rw [w3_law HGN.out hdd20] at h
                  exact h
                have HCK := Lib.hid hck
                clear hck
                obtain ⟨VS, hVS⟩ : ∃ VS : List (Nat × Nat × Value), VS = [(0, 83, .agg #[.int .i64 9, .string ⟨#[]⟩, .string (bs (38 :: nm)), .slice (some ⟨z + 1 + 1, 0, none⟩) 1 1, .string ⟨#[]⟩]), (2, 85, .agg #[.int .i64 d.k, .string (bs d.l), .string (bs d.x), .slice d.A d.n d.c, .string (bs d.e)]), (6, 89, .agg #[.int .i64 usual.d, .int .i64 usual.n, .int .i64 usual.b, .int .i64 usual.a, .int .i64 usual.x]), (7, 90, .tuple #[.agg #[.int .i64 0, .int .i64 0, .int .i64 0, .int .i64 1, .int .i64 1], .int .i64 0]), (8, 82, .tuple #[.agg #[.int .i64 0, .int .i64 0, .int .i64 0, .int .i64 1, .int .i64 1], .int .i64 0]), (9, 91, .agg #[.int .i64 0, .int .i64 0, .int .i64 0, .int .i64 1, .int .i64 1]), (10, 92, .int .i64 0), (13, 16, .int .i64 0)] := ⟨_, rfl⟩
                obtain ⟨US, hUS⟩ : ∃ US : List (Nat × Value), US = [(7, .pointer (some ⟨z, 0, none⟩)), (8, .pointer (some ⟨z + 1, 0, none⟩)), (9, .pointer (some ⟨z + 1 + 1 + 1, 0, none⟩))] := ⟨_, rfl⟩
                refine wp_region_frame (by kernel_rfl) (by kernel_rfl) [83, 84, 85, 86, 87, 88, 89, 90, 82, 91, 92, 15, 16] (by simp) (Det VS US (RD W0 (oneT nm) (innT nm dd) #[.int .i64 0, .int .i64 0, .int .i64 0, .int .i64 1, .int .i64 1] 84 86 87 88 15)) ?_ ?_ ?_
                · exact Det.start (by rw [hUS]; simp [slot]) (RD.start ((Gr.refl _).drew))
                · intro B a' w' i o hfr hF ho hBi hdp
                  have hi8 := (Array.getElem?_eq_some_iff.1 ho).1
                  simp only [List.size_toArray, List.length_cons, List.length_nil] at hi8
                  have hor : i = 0 ∨ i = 1 ∨ i = 2 ∨ i = 3 ∨ i = 4 ∨ i = 5 ∨ i = 6 ∨ i = 7 ∨ i = 8 ∨ i = 9 ∨ i = 10 ∨ i = 11 ∨ i = 12 ∨ i = 13 := by omega
                  clear hi8
                  rcases hor with rfl | rfl | rfl | rfl | rfl | rfl | rfl | rfl | rfl | rfl | rfl | rfl | rfl | rfl
                  all_goals (
                    simp only [List.getElem?_toArray, List.getElem?_cons_zero, List.getElem?_cons_succ, Option.some.injEq] at ho
                    subst ho
                    rw [if_pos (show Region.wanted _ _ = true from rfl)]
                    refine wp_hideK ?_
                    intro K hK)
                  · have hFW := hF.wd
                    have o9 := slot_spell (hF.had (d := 9) (v := .pointer (some ⟨z + 1 + 1 + 1, 0, none⟩)) (by rw [hUS]; simp))
                    have hE1 := HE0.out.gr hFW.gr
                    obtain ⟨k0, k1, k2, k3, k4⟩ := hE1.one.cells
                    have kl := lt_of_block hE1.one
                    simp only [oneD, show bs [] = ⟨#[]⟩ from rfl] at k0 k1 k2 k3 k4
                    go_simp
                    exact hK.out _ _ (close_put hfr (d := 83) (by decide) (by simp) _ (F := fun u => Det VS US (RD W0 (oneT nm) (innT nm dd) #[.int .i64 0, .int .i64 0, .int .i64 0, .int .i64 1, .int .i64 1] 84 86 87 88 15) (upB B 0) u _) (hF.step (by rw [hVS]; simp) (by rw [hUS]; simp) (hFW.other (Gr.refl _) hBi (by decide) (by decide))))
                  · have hFW := hF.wd
                    have hB0 : B 0 = true := hdp ⟨0, .data⟩ (by simp) (by rfl)
                    have e0 := slot_spell (hF.get (i := 0) (d := 83) (v := .agg #[.int .i64 9, .string ⟨#[]⟩, .string (bs (38 :: nm)), .slice (some ⟨z + 1 + 1, 0, none⟩) 1 1, .string ⟨#[]⟩]) (by rw [hVS]; simp) hB0)
                    have HFF := Lib.hid hF
                    have HFR := Lib.hid hfr
                    have HFG := Lib.hid hFW
                    have HBI := Lib.hid hBi
                    clear hF hfr hFW hdp hBi
                    go_simp
                    refine (leafW_any (P := anyB) 2 (oneD z nm) (oneT nm) _ (fun _ _ => trivial) (HE0.out.gr HFG.out.gr).oneR).mono ?_
                    rintro e w2 ⟨b, rfl, hr, hb2⟩
                    have hF := HFF.out
                    have hfr := HFR.out
                    have hFW := HFG.out
                    have hBi := HBI.out
                    exact hK.out _ _ (close_put hfr (d := 84) (by decide) (by simp) _ (F := fun u => Det VS US (RD W0 (oneT nm) (innT nm dd) #[.int .i64 0, .int .i64 0, .int .i64 0, .int .i64 1, .int .i64 1] 84 86 87 88 15) (upB B 1) u _) (hF.step (by rw [hVS]; simp) (by rw [hUS]; simp) (hFW.step hb2 hBi (by decide) (.inl ⟨rfl, rfl, b, rfl, hr.ups 50 (by omega)⟩) (.inr (by decide)) (.inr (by decide)) (.inr (by decide)) (.inr (by decide)))))
                  · have hFW := hF.wd
                    have o8 := slot_spell (hF.had (d := 8) (v := .pointer (some ⟨z + 1, 0, none⟩)) (by rw [hUS]; simp))
                    have hE1 := HE0.out.gr hFW.gr
                    obtain ⟨k0, k1, k2, k3, k4⟩ := hE1.inn.cells
                    have kl := lt_of_block hE1.inn
                    go_simp
                    exact hK.out _ _ (close_put hfr (d := 85) (by decide) (by simp) _ (F := fun u => Det VS US (RD W0 (oneT nm) (innT nm dd) #[.int .i64 0, .int .i64 0, .int .i64 0, .int .i64 1, .int .i64 1] 84 86 87 88 15) (upB B 2) u _) (hF.step (by rw [hVS]; simp) (by rw [hUS]; simp) (hFW.other (Gr.refl _) hBi (by decide) (by decide))))
                  · have hFW := hF.wd
                    have hB2 : B 2 = true := hdp ⟨2, .data⟩ (by simp) (by rfl)
                    have e2 := slot_spell (hF.get (i := 2) (d := 85) (v := .agg #[.int .i64 d.k, .string (bs d.l), .string (bs d.x), .slice d.A d.n d.c, .string (bs d.e)]) (by rw [hVS]; simp) hB2)
                    have HFF := Lib.hid hF
                    have HFR := Lib.hid hfr
                    have HFG := Lib.hid hFW
                    have HBI := Lib.hid hBi
                    clear hF hfr hFW hdp hBi
                    go_simp
                    refine (leafW_any (P := anyB) (1 + 2 * dd) d (innT nm dd) _ (fun _ _ => trivial) (HE0.out.gr HFG.out.gr).innR).mono ?_
                    rintro e w2 ⟨b, rfl, hr, hb2⟩
                    have hF := HFF.out
                    have hfr := HFR.out
                    have hFW := HFG.out
                    have hBi := HBI.out
                    exact hK.out _ _ (close_put hfr (d := 86) (by decide) (by simp) _ (F := fun u => Det VS US (RD W0 (oneT nm) (innT nm dd) #[.int .i64 0, .int .i64 0, .int .i64 0, .int .i64 1, .int .i64 1] 84 86 87 88 15) (upB B 3) u _) (hF.step (by rw [hVS]; simp) (by rw [hUS]; simp) (hFW.step hb2 hBi (by decide) (.inr (by decide)) (.inl ⟨rfl, rfl, b, rfl, hr.ups 50 (by omega)⟩) (.inr (by decide)) (.inr (by decide)) (.inr (by decide)))))
                  · have hFW := hF.wd
                    have hB1 : B 1 = true := hdp ⟨1, .data⟩ (by simp) (by rfl)
                    have hB3 : B 3 = true := hdp ⟨3, .data⟩ (by simp) (by rfl)
                    have h12 : B 12 = false := by
                      cases hx : B 12 with
                      | false => rfl
                      | true => exact absurd (hFW.done hx).1 (by rw [hBi]; decide)
                    obtain ⟨b1, q1, r1⟩ := hFW.c1 h12 hB1
                    obtain ⟨b2, q2, r2⟩ := hFW.c3 h12 hB3
                    have t1 := slot_spell q1
                    have t2 := slot_spell q2
                    go_simp
                    exact hK.out _ _ (close_put hfr (d := 87) (by decide) (by simp) _ (F := fun u => Det VS US (RD W0 (oneT nm) (innT nm dd) #[.int .i64 0, .int .i64 0, .int .i64 0, .int .i64 1, .int .i64 1] 84 86 87 88 15) (upB B 4) u _) (hF.step (by rw [hVS]; simp) (by rw [hUS]; simp) (hFW.step ((Gr.refl _).alloc _) hBi (by decide) (.inr (by decide)) (.inr (by decide)) (.inl ⟨rfl, rfl, _, rfl, NRep.made2 r1 r2⟩) (.inr (by decide)) (.inr (by decide)))))
                  · have hFW := hF.wd
                    have hB4 : B 4 = true := hdp ⟨4, .data⟩ (by simp) (by rfl)
                    have h12 : B 12 = false := by
                      cases hx : B 12 with
                      | false => rfl
                      | true => exact absurd (hFW.done hx).2.1 (by rw [hBi]; decide)
                    obtain ⟨p, q1, r1⟩ := hFW.c4 h12 hB4
                    have t1 := slot_spell q1
                    go_simp
                    exact hK.out _ _ (close_put hfr (d := 88) (by decide) (by simp) _ (F := fun u => Det VS US (RD W0 (oneT nm) (innT nm dd) #[.int .i64 0, .int .i64 0, .int .i64 0, .int .i64 1, .int .i64 1] 84 86 87 88 15) (upB B 5) u _) (hF.step (by rw [hVS]; simp) (by rw [hUS]; simp) (hFW.step (Gr.refl _) hBi (by decide) (.inr (by decide)) (.inr (by decide)) (.inr (by decide)) (.inl ⟨rfl, rfl, _, rfl, r1⟩) (.inr (by decide)))))
                  · have hFW := hF.wd
                    have o7 := slot_spell (hF.had (d := 7) (v := .pointer (some ⟨z, 0, none⟩)) (by rw [hUS]; simp))
                    have hE1 := HE0.out.gr hFW.gr
                    obtain ⟨k0, k1, k2, k3, k4⟩ := hE1.lim.cells
                    have kl := lt_of_block hE1.lim
                    go_simp
                    exact hK.out _ _ (close_put hfr (d := 89) (by decide) (by simp) _ (F := fun u => Det VS US (RD W0 (oneT nm) (innT nm dd) #[.int .i64 0, .int .i64 0, .int .i64 0, .int .i64 1, .int .i64 1] 84 86 87 88 15) (upB B 6) u _) (hF.step (by rw [hVS]; simp) (by rw [hUS]; simp) (hFW.other (Gr.refl _) hBi (by decide) (by decide))))
                  · have hFW := hF.wd
                    have hB5 : B 5 = true := hdp ⟨5, .data⟩ (by simp) (by rfl)
                    have hB6 : B 6 = true := hdp ⟨6, .data⟩ (by simp) (by rfl)
                    have e6 := slot_spell (hF.get (i := 6) (d := 89) (v := .agg #[.int .i64 usual.d, .int .i64 usual.n, .int .i64 usual.b, .int .i64 usual.a, .int .i64 usual.x]) (by rw [hVS]; simp) hB6)
                    have h12 : B 12 = false := by
                      cases hx : B 12 with
                      | false => rfl
                      | true => exact absurd (hFW.done hx).2.2 (by rw [hBi]; decide)
                    obtain ⟨p, q1, r1⟩ := hFW.c5 h12 hB5
                    have t1 := slot_spell q1
                    have HR1 := Lib.hid r1
                    clear r1
                    have HFF := Lib.hid hF
                    have HFR := Lib.hid hfr
                    have HFG := Lib.hid hFW
                    have HBI := Lib.hid hBi
                    clear hF hfr hFW hdp hBi
                    go_simp
                    refine (HCK.out _ _ HR1.out).mono ?_
                    rintro e w2 ⟨rfl, hb2⟩
                    have hF := HFF.out
                    have hfr := HFR.out
                    have hFW := HFG.out
                    have hBi := HBI.out
                    exact hK.out _ _ (close_put hfr (d := 90) (by decide) (by simp) _ (F := fun u => Det VS US (RD W0 (oneT nm) (innT nm dd) #[.int .i64 0, .int .i64 0, .int .i64 0, .int .i64 1, .int .i64 1] 84 86 87 88 15) (upB B 7) u _) (hF.step (by rw [hVS]; simp) (by rw [hUS]; simp) (hFW.other hb2 hBi (by decide) (by decide))))
                  · have hFW := hF.wd
                    have hB7 : B 7 = true := hdp ⟨7, .data⟩ (by simp) (by rfl)
                    have e7 := slot_spell (hF.get (i := 7) (d := 90) (v := .tuple #[.agg #[.int .i64 0, .int .i64 0, .int .i64 0, .int .i64 1, .int .i64 1], .int .i64 0]) (by rw [hVS]; simp) hB7)
                    go_simp
                    exact hK.out _ _ (close_put hfr (d := 82) (by decide) (by simp) _ (F := fun u => Det VS US (RD W0 (oneT nm) (innT nm dd) #[.int .i64 0, .int .i64 0, .int .i64 0, .int .i64 1, .int .i64 1] 84 86 87 88 15) (upB B 8) u _) (hF.step (by rw [hVS]; simp) (by rw [hUS]; simp) (hFW.other (Gr.refl _) hBi (by decide) (by decide))))
                  · have hFW := hF.wd
                    have hB8 : B 8 = true := hdp ⟨8, .data⟩ (by simp) (by rfl)
                    have e8 := slot_spell (hF.get (i := 8) (d := 82) (v := .tuple #[.agg #[.int .i64 0, .int .i64 0, .int .i64 0, .int .i64 1, .int .i64 1], .int .i64 0]) (by rw [hVS]; simp) hB8)
                    go_simp
                    exact hK.out _ _ (close_put hfr (d := 91) (by decide) (by simp) _ (F := fun u => Det VS US (RD W0 (oneT nm) (innT nm dd) #[.int .i64 0, .int .i64 0, .int .i64 0, .int .i64 1, .int .i64 1] 84 86 87 88 15) (upB B 9) u _) (hF.step (by rw [hVS]; simp) (by rw [hUS]; simp) (hFW.other (Gr.refl _) hBi (by decide) (by decide))))
                  · have hFW := hF.wd
                    have hB8 : B 8 = true := hdp ⟨8, .data⟩ (by simp) (by rfl)
                    have e8 := slot_spell (hF.get (i := 8) (d := 82) (v := .tuple #[.agg #[.int .i64 0, .int .i64 0, .int .i64 0, .int .i64 1, .int .i64 1], .int .i64 0]) (by rw [hVS]; simp) hB8)
                    go_simp
                    exact hK.out _ _ (close_put hfr (d := 92) (by decide) (by simp) _ (F := fun u => Det VS US (RD W0 (oneT nm) (innT nm dd) #[.int .i64 0, .int .i64 0, .int .i64 0, .int .i64 1, .int .i64 1] 84 86 87 88 15) (upB B 10) u _) (hF.step (by rw [hVS]; simp) (by rw [hUS]; simp) (hFW.other (Gr.refl _) hBi (by decide) (by decide))))
                  · have hFW := hF.wd
                    go_simp
                    exact hK.out _ _ (close_put hfr (d := 15) (by decide) (by simp) _ (F := fun u => Det VS US (RD W0 (oneT nm) (innT nm dd) #[.int .i64 0, .int .i64 0, .int .i64 0, .int .i64 1, .int .i64 1] 84 86 87 88 15) (upB B 11) u _) (hF.step (by rw [hVS]; simp) (by rw [hUS]; simp) (hFW.step ((Gr.refl _).alloc _) hBi (by decide) (.inr (by decide)) (.inr (by decide)) (.inr (by decide)) (.inr (by decide)) (.inl ⟨rfl, rfl, _, Below.size hFW.gr, rfl, heap_alloc_new _ _⟩))))
                  · have hFW := hF.wd
                    have hB9 : B 9 = true := hdp ⟨9, .data⟩ (by simp) (by rfl)
                    have e9 := slot_spell (hF.get (i := 9) (d := 91) (v := .agg #[.int .i64 0, .int .i64 0, .int .i64 0, .int .i64 1, .int .i64 1]) (by rw [hVS]; simp) hB9)
                    have hB11 : B 11 = true := hdp ⟨11, .data⟩ (by simp) (by rfl)
                    obtain ⟨p, c, q1, q2, q3, q4⟩ := hFW.c11 hB11
                    rw [if_neg (by rw [hBi]; decide)] at q4
                    subst q4
                    have t2 := slot_spell q2
                    have y0 := cell_of_cells q3 0
                    have f0 := free_of_cells q3 0
                    have y1 := cell_of_cells q3 1
                    have f1 := free_of_cells q3 1
                    have y2 := cell_of_cells q3 2
                    have f2 := free_of_cells q3 2
                    have y3 := cell_of_cells q3 3
                    have f3 := free_of_cells q3 3
                    have y4 := cell_of_cells q3 4
                    have f4 := free_of_cells q3 4
                    have pl := lt_of_block q3
                    have p4 : B 4 = true := by first | assumption | exact hdp ⟨4, .phase⟩ (by simp) (by rfl) | exact hdp ⟨4, .chain⟩ (by simp) (by rfl)
                    have p5 : B 5 = true := by first | assumption | exact hdp ⟨5, .phase⟩ (by simp) (by rfl) | exact hdp ⟨5, .chain⟩ (by simp) (by rfl)
                    have p7 : B 7 = true := by first | assumption | exact hdp ⟨7, .phase⟩ (by simp) (by rfl) | exact hdp ⟨7, .chain⟩ (by simp) (by rfl)
                    go_simp
                    exact hK.out _ _ (close_none hfr undef (F := fun u => Det VS US (RD W0 (oneT nm) (innT nm dd) #[.int .i64 0, .int .i64 0, .int .i64 0, .int .i64 1, .int .i64 1] 84 86 87 88 15) (upB B 12) u _) (hF.none (by rw [hVS]; simp) (hFW.store hB11 p4 p5 p7 q1 q2 q3 rfl)))
                  · have hFW := hF.wd
                    have hB10 : B 10 = true := hdp ⟨10, .data⟩ (by simp) (by rfl)
                    have e10 := slot_spell (hF.get (i := 10) (d := 92) (v := .int .i64 0) (by rw [hVS]; simp) hB10)
                    go_simp
                    exact hK.out _ _ (close_put hfr (d := 16) (by decide) (by simp) _ (F := fun u => Det VS US (RD W0 (oneT nm) (innT nm dd) #[.int .i64 0, .int .i64 0, .int .i64 0, .int .i64 1, .int .i64 1] 84 86 87 88 15) (upB B 13) u _) (hF.step (by rw [hVS]; simp) (by rw [hUS]; simp) (hFW.other (Gr.refl _) hBi (by decide) (by decide))))
                · intro B u w' hall hF
                  have z0 := hF.get (i := 0) (d := 83) (v := .agg #[.int .i64 9, .string ⟨#[]⟩, .string (bs (38 :: nm)), .slice (some ⟨z + 1 + 1, 0, none⟩) 1 1, .string ⟨#[]⟩]) (by rw [hVS]; simp) (hall 0 (by simp))
                  have z2 := hF.get (i := 2) (d := 85) (v := .agg #[.int .i64 d.k, .string (bs d.l), .string (bs d.x), .slice d.A d.n d.c, .string (bs d.e)]) (by rw [hVS]; simp) (hall 2 (by simp))
                  have z6 := hF.get (i := 6) (d := 89) (v := .agg #[.int .i64 usual.d, .int .i64 usual.n, .int .i64 usual.b, .int .i64 usual.a, .int .i64 usual.x]) (by rw [hVS]; simp) (hall 6 (by simp))
                  have z7 := hF.get (i := 7) (d := 90) (v := .tuple #[.agg #[.int .i64 0, .int .i64 0, .int .i64 0, .int .i64 1, .int .i64 1], .int .i64 0]) (by rw [hVS]; simp) (hall 7 (by simp))
                  have z8 := hF.get (i := 8) (d := 82) (v := .tuple #[.agg #[.int .i64 0, .int .i64 0, .int .i64 0, .int .i64 1, .int .i64 1], .int .i64 0]) (by rw [hVS]; simp) (hall 8 (by simp))
                  have z9 := hF.get (i := 9) (d := 91) (v := .agg #[.int .i64 0, .int .i64 0, .int .i64 0, .int .i64 1, .int .i64 1]) (by rw [hVS]; simp) (hall 9 (by simp))
                  have z10 := hF.get (i := 10) (d := 92) (v := .int .i64 0) (by rw [hVS]; simp) (hall 10 (by simp))
                  have z13 := hF.get (i := 13) (d := 16) (v := .int .i64 0) (by rw [hVS]; simp) (hall 13 (by simp))
                  have hFW := hF.wd
                  clear hF hVS hUS
                  simp only [List.foldl_cons, List.foldl_nil, Act.put, List.setIfInBounds_toArray, List.set_cons_zero, List.set_cons_succ, z0, z2, z6, z7, z8, z9, z10, z13]
                  clear z0 z2 z6 z7 z8 z9 z10 z13
          
                  obtain ⟨bo, co, qo1, qo2, qo3, qo4⟩ := hFW.c11 (hall 11 (by simp))
                  rw [if_pos (hall 12 (by simp))] at qo4
                  subst qo4
                  have hgo := hFW.gr
                  rw [qo2]
                  clear hFW hall qo2 HCK
                  have HEN := Lib.hid (HE0.out.gr hgo)
                  have HGN2 := Lib.hid (HG0.out.trans hgo)
                  have HUB := Lib.hid qo3
                  clear HE0 HG0 qo1 qo3 hgo W0
                  rename World => W0
                  have HE0 := HEN
                  have HG0 := HGN2
                  clear HEN HGN2
                  go_wp2_with fail
                  have hck : ∀ W' p, NRep anyB 51 W' (twoD p) (wT2 (oneT nm) (oneT nm)) → Calls Try.prog 15 #[.agg #[.int .i64 3, .string ⟨#[]⟩, .string ⟨#[]⟩, .slice (some ⟨p, 0, none⟩) 2 2, .string ⟨#[]⟩], .agg #[.int .i64 usual.d, .int .i64 usual.n, .int .i64 usual.b, .int .i64 usual.a, .int .i64 usual.x]] W' (fun e w' => e = .returned (.tuple #[.agg #[.int .i64 0, .int .i64 0, .int .i64 0, .int .i64 0, .int .i64 0], .int .i64 8]) ∧ Gr W' w') := fun W' p hr => by
                    have h := CheckA_any 51 (twoD p) (wT2 (oneT nm) (oneT nm)) usual W' hr (by have := HGN.out.le; rw [two_len, one_len]; omega) (by rw [two_count, one_count]; omega)
                    rw [w4_law HGN.out] at h
                    exact h
                  have HCK := Lib.hid hck
                  clear hck
                  obtain ⟨VS, hVS⟩ : ∃ VS : List (Nat × Nat × Value), VS = [(0, 94, .agg #[.int .i64 9, .string ⟨#[]⟩, .string (bs (38 :: nm)), .slice (some ⟨z + 1 + 1, 0, none⟩) 1 1, .string ⟨#[]⟩]), (2, 96, .agg #[.int .i64 9, .string ⟨#[]⟩, .string (bs (38 :: nm)), .slice (some ⟨z + 1 + 1, 0, none⟩) 1 1, .string ⟨#[]⟩]), (6, 100, .agg #[.int .i64 usual.d, .int .i64 usual.n, .int .i64 usual.b, .int .i64 usual.a, .int .i64 usual.x]), (7, 101, .tuple #[.agg #[.int .i64 0, .int .i64 0, .int .i64 0, .int .i64 0, .int .i64 0], .int .i64 8]), (8, 93, .tuple #[.agg #[.int .i64 0, .int .i64 0, .int .i64 0, .int .i64 0, .int .i64 0], .int .i64 8]), (9, 102, .agg #[.int .i64 0, .int .i64 0, .int .i64 0, .int .i64 0, .int .i64 0]), (10, 103, .int .i64 8), (13, 18, .int .i64 8)] := ⟨_, rfl⟩
                  obtain ⟨US, hUS⟩ : ∃ US : List (Nat × Value), US = [(7, .pointer (some ⟨z, 0, none⟩)), (8, .pointer (some ⟨z + 1, 0, none⟩)), (9, .pointer (some ⟨z + 1 + 1 + 1, 0, none⟩))] := ⟨_, rfl⟩
                  refine wp_region_frame (by kernel_rfl) (by kernel_rfl) [94, 95, 96, 97, 98, 99, 100, 101, 93, 102, 103, 17, 18] (by simp) (Det VS US (RD W0 (oneT nm) (oneT nm) #[.int .i64 0, .int .i64 0, .int .i64 0, .int .i64 0, .int .i64 0] 95 97 98 99 17)) ?_ ?_ ?_
                  · exact Det.start (by rw [hUS]; simp [slot]) (RD.start ((Gr.refl _).drew))
                  · intro B a' w' i o hfr hF ho hBi hdp
                    have hi8 := (Array.getElem?_eq_some_iff.1 ho).1
                    simp only [List.size_toArray, List.length_cons, List.length_nil] at hi8
                    have hor : i = 0 ∨ i = 1 ∨ i = 2 ∨ i = 3 ∨ i = 4 ∨ i = 5 ∨ i = 6 ∨ i = 7 ∨ i = 8 ∨ i = 9 ∨ i = 10 ∨ i = 11 ∨ i = 12 ∨ i = 13 := by omega
                    clear hi8
                    rcases hor with rfl | rfl | rfl | rfl | rfl | rfl | rfl | rfl | rfl | rfl | rfl | rfl | rfl | rfl
                    all_goals (
                      simp only [List.getElem?_toArray, List.getElem?_cons_zero, List.getElem?_cons_succ, Option.some.injEq] at ho
                      subst ho
                      rw [if_pos (show Region.wanted _ _ = true from rfl)]
                      refine wp_hideK ?_
                      intro K hK)
                    · have hFW := hF.wd
                      have o9 := slot_spell (hF.had (d := 9) (v := .pointer (some ⟨z + 1 + 1 + 1, 0, none⟩)) (by rw [hUS]; simp))
                      have hE1 := HE0.out.gr hFW.gr
                      obtain ⟨k0, k1, k2, k3, k4⟩ := hE1.one.cells
                      have kl := lt_of_block hE1.one
                      simp only [oneD, show bs [] = ⟨#[]⟩ from rfl] at k0 k1 k2 k3 k4
                      go_simp
                      exact hK.out _ _ (close_put hfr (d := 94) (by decide) (by simp) _ (F := fun u => Det VS US (RD W0 (oneT nm) (oneT nm) #[.int .i64 0, .int .i64 0, .int .i64 0, .int .i64 0, .int .i64 0] 95 97 98 99 17) (upB B 0) u _) (hF.step (by rw [hVS]; simp) (by rw [hUS]; simp) (hFW.other (Gr.refl _) hBi (by decide) (by decide))))
                    · have hFW := hF.wd
                      have hB0 : B 0 = true := hdp ⟨0, .data⟩ (by simp) (by rfl)
                      have e0 := slot_spell (hF.get (i := 0) (d := 94) (v := .agg #[.int .i64 9, .string ⟨#[]⟩, .string (bs (38 :: nm)), .slice (some ⟨z + 1 + 1, 0, none⟩) 1 1, .string ⟨#[]⟩]) (by rw [hVS]; simp) hB0)
                      have HFF := Lib.hid hF
                      have HFR := Lib.hid hfr
                      have HFG := Lib.hid hFW
                      have HBI := Lib.hid hBi
                      clear hF hfr hFW hdp hBi
                      go_simp
                      refine (leafW_any (P := anyB) 2 (oneD z nm) (oneT nm) _ (fun _ _ => trivial) (HE0.out.gr HFG.out.gr).oneR).mono ?_
                      rintro e w2 ⟨b, rfl, hr, hb2⟩
                      have hF := HFF.out
                      have hfr := HFR.out
                      have hFW := HFG.out
                      have hBi := HBI.out
                      exact hK.out _ _ (close_put hfr (d := 95) (by decide) (by simp) _ (F := fun u => Det VS US (RD W0 (oneT nm) (oneT nm) #[.int .i64 0, .int .i64 0, .int .i64 0, .int .i64 0, .int .i64 0] 95 97 98 99 17) (upB B 1) u _) (hF.step (by rw [hVS]; simp) (by rw [hUS]; simp) (hFW.step hb2 hBi (by decide) (.inl ⟨rfl, rfl, b, rfl, hr.ups 50 (by omega)⟩) (.inr (by decide)) (.inr (by decide)) (.inr (by decide)) (.inr (by decide)))))
                    · have hFW := hF.wd
                      have o9 := slot_spell (hF.had (d := 9) (v := .pointer (some ⟨z + 1 + 1 + 1, 0, none⟩)) (by rw [hUS]; simp))
                      have hE1 := HE0.out.gr hFW.gr
                      obtain ⟨k0, k1, k2, k3, k4⟩ := hE1.one.cells
                      have kl := lt_of_block hE1.one
                      simp only [oneD, show bs [] = ⟨#[]⟩ from rfl] at k0 k1 k2 k3 k4
                      go_simp
                      exact hK.out _ _ (close_put hfr (d := 96) (by decide) (by simp) _ (F := fun u => Det VS US (RD W0 (oneT nm) (oneT nm) #[.int .i64 0, .int .i64 0, .int .i64 0, .int .i64 0, .int .i64 0] 95 97 98 99 17) (upB B 2) u _) (hF.step (by rw [hVS]; simp) (by rw [hUS]; simp) (hFW.other (Gr.refl _) hBi (by decide) (by decide))))
                    · have hFW := hF.wd
                      have hB2 : B 2 = true := hdp ⟨2, .data⟩ (by simp) (by rfl)
                      have e2 := slot_spell (hF.get (i := 2) (d := 96) (v := .agg #[.int .i64 9, .string ⟨#[]⟩, .string (bs (38 :: nm)), .slice (some ⟨z + 1 + 1, 0, none⟩) 1 1, .string ⟨#[]⟩]) (by rw [hVS]; simp) hB2)
                      have HFF := Lib.hid hF
                      have HFR := Lib.hid hfr
                      have HFG := Lib.hid hFW
                      have HBI := Lib.hid hBi
                      clear hF hfr hFW hdp hBi
                      go_simp
                      refine (leafW_any (P := anyB) 2 (oneD z nm) (oneT nm) _ (fun _ _ => trivial) (HE0.out.gr HFG.out.gr).oneR).mono ?_
                      rintro e w2 ⟨b, rfl, hr, hb2⟩
                      have hF := HFF.out
                      have hfr := HFR.out
                      have hFW := HFG.out
                      have hBi := HBI.out
                      exact hK.out _ _ (close_put hfr (d := 97) (by decide) (by simp) _ (F := fun u => Det VS US (RD W0 (oneT nm) (oneT nm) #[.int .i64 0, .int .i64 0, .int .i64 0, .int .i64 0, .int .i64 0] 95 97 98 99 17) (upB B 3) u _) (hF.step (by rw [hVS]; simp) (by rw [hUS]; simp) (hFW.step hb2 hBi (by decide) (.inr (by decide)) (.inl ⟨rfl, rfl, b, rfl, hr.ups 50 (by omega)⟩) (.inr (by decide)) (.inr (by decide)) (.inr (by decide)))))
                    · have hFW := hF.wd
                      have hB1 : B 1 = true := hdp ⟨1, .data⟩ (by simp) (by rfl)
                      have hB3 : B 3 = true := hdp ⟨3, .data⟩ (by simp) (by rfl)
                      have h12 : B 12 = false := by
                        cases hx : B 12 with
                        | false => rfl
                        | true => exact absurd (hFW.done hx).1 (by rw [hBi]; decide)
                      obtain ⟨b1, q1, r1⟩ := hFW.c1 h12 hB1
                      obtain ⟨b2, q2, r2⟩ := hFW.c3 h12 hB3
                      have t1 := slot_spell q1
                      have t2 := slot_spell q2
                      go_simp
                      exact hK.out _ _ (close_put hfr (d := 98) (by decide) (by simp) _ (F := fun u => Det VS US (RD W0 (oneT nm) (oneT nm) #[.int .i64 0, .int .i64 0, .int .i64 0, .int .i64 0, .int .i64 0] 95 97 98 99 17) (upB B 4) u _) (hF.step (by rw [hVS]; simp) (by rw [hUS]; simp) (hFW.step ((Gr.refl _).alloc _) hBi (by decide) (.inr (by decide)) (.inr (by decide)) (.inl ⟨rfl, rfl, _, rfl, NRep.made2 r1 r2⟩) (.inr (by decide)) (.inr (by decide)))))
                    · have hFW := hF.wd
                      have hB4 : B 4 = true := hdp ⟨4, .data⟩ (by simp) (by rfl)
                      have h12 : B 12 = false := by
                        cases hx : B 12 with
                        | false => rfl
                        | true => exact absurd (hFW.done hx).2.1 (by rw [hBi]; decide)
                      obtain ⟨p, q1, r1⟩ := hFW.c4 h12 hB4
                      have t1 := slot_spell q1
                      go_simp
                      exact hK.out _ _ (close_put hfr (d := 99) (by decide) (by simp) _ (F := fun u => Det VS US (RD W0 (oneT nm) (oneT nm) #[.int .i64 0, .int .i64 0, .int .i64 0, .int .i64 0, .int .i64 0] 95 97 98 99 17) (upB B 5) u _) (hF.step (by rw [hVS]; simp) (by rw [hUS]; simp) (hFW.step (Gr.refl _) hBi (by decide) (.inr (by decide)) (.inr (by decide)) (.inr (by decide)) (.inl ⟨rfl, rfl, _, rfl, r1⟩) (.inr (by decide)))))
                    · have hFW := hF.wd
                      have o7 := slot_spell (hF.had (d := 7) (v := .pointer (some ⟨z, 0, none⟩)) (by rw [hUS]; simp))
                      have hE1 := HE0.out.gr hFW.gr
                      obtain ⟨k0, k1, k2, k3, k4⟩ := hE1.lim.cells
                      have kl := lt_of_block hE1.lim
                      go_simp
                      exact hK.out _ _ (close_put hfr (d := 100) (by decide) (by simp) _ (F := fun u => Det VS US (RD W0 (oneT nm) (oneT nm) #[.int .i64 0, .int .i64 0, .int .i64 0, .int .i64 0, .int .i64 0] 95 97 98 99 17) (upB B 6) u _) (hF.step (by rw [hVS]; simp) (by rw [hUS]; simp) (hFW.other (Gr.refl _) hBi (by decide) (by decide))))
                    · have hFW := hF.wd
                      have hB5 : B 5 = true := hdp ⟨5, .data⟩ (by simp) (by rfl)
                      have hB6 : B 6 = true := hdp ⟨6, .data⟩ (by simp) (by rfl)
                      have e6 := slot_spell (hF.get (i := 6) (d := 100) (v := .agg #[.int .i64 usual.d, .int .i64 usual.n, .int .i64 usual.b, .int .i64 usual.a, .int .i64 usual.x]) (by rw [hVS]; simp) hB6)
                      have h12 : B 12 = false := by
                        cases hx : B 12 with
                        | false => rfl
                        | true => exact absurd (hFW.done hx).2.2 (by rw [hBi]; decide)
                      obtain ⟨p, q1, r1⟩ := hFW.c5 h12 hB5
                      have t1 := slot_spell q1
                      have HR1 := Lib.hid r1
                      clear r1
                      have HFF := Lib.hid hF
                      have HFR := Lib.hid hfr
                      have HFG := Lib.hid hFW
                      have HBI := Lib.hid hBi
                      clear hF hfr hFW hdp hBi
                      go_simp
                      refine (HCK.out _ _ HR1.out).mono ?_
                      rintro e w2 ⟨rfl, hb2⟩
                      have hF := HFF.out
                      have hfr := HFR.out
                      have hFW := HFG.out
                      have hBi := HBI.out
                      exact hK.out _ _ (close_put hfr (d := 101) (by decide) (by simp) _ (F := fun u => Det VS US (RD W0 (oneT nm) (oneT nm) #[.int .i64 0, .int .i64 0, .int .i64 0, .int .i64 0, .int .i64 0] 95 97 98 99 17) (upB B 7) u _) (hF.step (by rw [hVS]; simp) (by rw [hUS]; simp) (hFW.other hb2 hBi (by decide) (by decide))))
                    · have hFW := hF.wd
                      have hB7 : B 7 = true := hdp ⟨7, .data⟩ (by simp) (by rfl)
                      have e7 := slot_spell (hF.get (i := 7) (d := 101) (v := .tuple #[.agg #[.int .i64 0, .int .i64 0, .int .i64 0, .int .i64 0, .int .i64 0], .int .i64 8]) (by rw [hVS]; simp) hB7)
                      go_simp
                      exact hK.out _ _ (close_put hfr (d := 93) (by decide) (by simp) _ (F := fun u => Det VS US (RD W0 (oneT nm) (oneT nm) #[.int .i64 0, .int .i64 0, .int .i64 0, .int .i64 0, .int .i64 0] 95 97 98 99 17) (upB B 8) u _) (hF.step (by rw [hVS]; simp) (by rw [hUS]; simp) (hFW.other (Gr.refl _) hBi (by decide) (by decide))))
                    · have hFW := hF.wd
                      have hB8 : B 8 = true := hdp ⟨8, .data⟩ (by simp) (by rfl)
                      have e8 := slot_spell (hF.get (i := 8) (d := 93) (v := .tuple #[.agg #[.int .i64 0, .int .i64 0, .int .i64 0, .int .i64 0, .int .i64 0], .int .i64 8]) (by rw [hVS]; simp) hB8)
                      go_simp
                      exact hK.out _ _ (close_put hfr (d := 102) (by decide) (by simp) _ (F := fun u => Det VS US (RD W0 (oneT nm) (oneT nm) #[.int .i64 0, .int .i64 0, .int .i64 0, .int .i64 0, .int .i64 0] 95 97 98 99 17) (upB B 9) u _) (hF.step (by rw [hVS]; simp) (by rw [hUS]; simp) (hFW.other (Gr.refl _) hBi (by decide) (by decide))))
                    · have hFW := hF.wd
                      have hB8 : B 8 = true := hdp ⟨8, .data⟩ (by simp) (by rfl)
                      have e8 := slot_spell (hF.get (i := 8) (d := 93) (v := .tuple #[.agg #[.int .i64 0, .int .i64 0, .int .i64 0, .int .i64 0, .int .i64 0], .int .i64 8]) (by rw [hVS]; simp) hB8)
                      go_simp
                      exact hK.out _ _ (close_put hfr (d := 103) (by decide) (by simp) _ (F := fun u => Det VS US (RD W0 (oneT nm) (oneT nm) #[.int .i64 0, .int .i64 0, .int .i64 0, .int .i64 0, .int .i64 0] 95 97 98 99 17) (upB B 10) u _) (hF.step (by rw [hVS]; simp) (by rw [hUS]; simp) (hFW.other (Gr.refl _) hBi (by decide) (by decide))))
                    · have hFW := hF.wd
                      go_simp
                      exact hK.out _ _ (close_put hfr (d := 17) (by decide) (by simp) _ (F := fun u => Det VS US (RD W0 (oneT nm) (oneT nm) #[.int .i64 0, .int .i64 0, .int .i64 0, .int .i64 0, .int .i64 0] 95 97 98 99 17) (upB B 11) u _) (hF.step (by rw [hVS]; simp) (by rw [hUS]; simp) (hFW.step ((Gr.refl _).alloc _) hBi (by decide) (.inr (by decide)) (.inr (by decide)) (.inr (by decide)) (.inr (by decide)) (.inl ⟨rfl, rfl, _, Below.size hFW.gr, rfl, heap_alloc_new _ _⟩))))
                    · have hFW := hF.wd
                      have hB9 : B 9 = true := hdp ⟨9, .data⟩ (by simp) (by rfl)
                      have e9 := slot_spell (hF.get (i := 9) (d := 102) (v := .agg #[.int .i64 0, .int .i64 0, .int .i64 0, .int .i64 0, .int .i64 0]) (by rw [hVS]; simp) hB9)
                      have hB11 : B 11 = true := hdp ⟨11, .data⟩ (by simp) (by rfl)
                      obtain ⟨p, c, q1, q2, q3, q4⟩ := hFW.c11 hB11
                      rw [if_neg (by rw [hBi]; decide)] at q4
                      subst q4
                      have t2 := slot_spell q2
                      have y0 := cell_of_cells q3 0
                      have f0 := free_of_cells q3 0
                      have y1 := cell_of_cells q3 1
                      have f1 := free_of_cells q3 1
                      have y2 := cell_of_cells q3 2
                      have f2 := free_of_cells q3 2
                      have y3 := cell_of_cells q3 3
                      have f3 := free_of_cells q3 3
                      have y4 := cell_of_cells q3 4
                      have f4 := free_of_cells q3 4
                      have pl := lt_of_block q3
                      have p4 : B 4 = true := by first | assumption | exact hdp ⟨4, .phase⟩ (by simp) (by rfl) | exact hdp ⟨4, .chain⟩ (by simp) (by rfl)
                      have p5 : B 5 = true := by first | assumption | exact hdp ⟨5, .phase⟩ (by simp) (by rfl) | exact hdp ⟨5, .chain⟩ (by simp) (by rfl)
                      have p7 : B 7 = true := by first | assumption | exact hdp ⟨7, .phase⟩ (by simp) (by rfl) | exact hdp ⟨7, .chain⟩ (by simp) (by rfl)
                      go_simp
                      exact hK.out _ _ (close_none hfr undef (F := fun u => Det VS US (RD W0 (oneT nm) (oneT nm) #[.int .i64 0, .int .i64 0, .int .i64 0, .int .i64 0, .int .i64 0] 95 97 98 99 17) (upB B 12) u _) (hF.none (by rw [hVS]; simp) (hFW.store hB11 p4 p5 p7 q1 q2 q3 rfl)))
                    · have hFW := hF.wd
                      have hB10 : B 10 = true := hdp ⟨10, .data⟩ (by simp) (by rfl)
                      have e10 := slot_spell (hF.get (i := 10) (d := 103) (v := .int .i64 8) (by rw [hVS]; simp) hB10)
                      go_simp
                      exact hK.out _ _ (close_put hfr (d := 18) (by decide) (by simp) _ (F := fun u => Det VS US (RD W0 (oneT nm) (oneT nm) #[.int .i64 0, .int .i64 0, .int .i64 0, .int .i64 0, .int .i64 0] 95 97 98 99 17) (upB B 13) u _) (hF.step (by rw [hVS]; simp) (by rw [hUS]; simp) (hFW.other (Gr.refl _) hBi (by decide) (by decide))))
                  · intro B u w' hall hF
                    have z0 := hF.get (i := 0) (d := 94) (v := .agg #[.int .i64 9, .string ⟨#[]⟩, .string (bs (38 :: nm)), .slice (some ⟨z + 1 + 1, 0, none⟩) 1 1, .string ⟨#[]⟩]) (by rw [hVS]; simp) (hall 0 (by simp))
                    have z2 := hF.get (i := 2) (d := 96) (v := .agg #[.int .i64 9, .string ⟨#[]⟩, .string (bs (38 :: nm)), .slice (some ⟨z + 1 + 1, 0, none⟩) 1 1, .string ⟨#[]⟩]) (by rw [hVS]; simp) (hall 2 (by simp))
                    have z6 := hF.get (i := 6) (d := 100) (v := .agg #[.int .i64 usual.d, .int .i64 usual.n, .int .i64 usual.b, .int .i64 usual.a, .int .i64 usual.x]) (by rw [hVS]; simp) (hall 6 (by simp))
                    have z7 := hF.get (i := 7) (d := 101) (v := .tuple #[.agg #[.int .i64 0, .int .i64 0, .int .i64 0, .int .i64 0, .int .i64 0], .int .i64 8]) (by rw [hVS]; simp) (hall 7 (by simp))
                    have z8 := hF.get (i := 8) (d := 93) (v := .tuple #[.agg #[.int .i64 0, .int .i64 0, .int .i64 0, .int .i64 0, .int .i64 0], .int .i64 8]) (by rw [hVS]; simp) (hall 8 (by simp))
                    have z9 := hF.get (i := 9) (d := 102) (v := .agg #[.int .i64 0, .int .i64 0, .int .i64 0, .int .i64 0, .int .i64 0]) (by rw [hVS]; simp) (hall 9 (by simp))
                    have z10 := hF.get (i := 10) (d := 103) (v := .int .i64 8) (by rw [hVS]; simp) (hall 10 (by simp))
                    have z13 := hF.get (i := 13) (d := 18) (v := .int .i64 8) (by rw [hVS]; simp) (hall 13 (by simp))
                    have hFW := hF.wd
                    clear hF hVS hUS
                    simp only [List.foldl_cons, List.foldl_nil, Act.put, List.setIfInBounds_toArray, List.set_cons_zero, List.set_cons_succ, z0, z2, z6, z7, z8, z9, z10, z13]
                    clear z0 z2 z6 z7 z8 z9 z10 z13
          
                    obtain ⟨bo, co, qo1, qo2, qo3, qo4⟩ := hFW.c11 (hall 11 (by simp))
                    rw [if_pos (hall 12 (by simp))] at qo4
                    subst qo4
                    have hgo := hFW.gr
                    rw [qo2]
                    clear hFW hall qo2 HCK
                    have HEN := Lib.hid (HE0.out.gr hgo)
                    have HGN2 := Lib.hid (HG0.out.trans hgo)
                    have HUB2 := Lib.hid ((hgo.block _ (lt_of_block HUB.out)).trans HUB.out)
                    clear HUB
                    clear HE0 HG0 qo1 qo3 hgo W0
                    rename World => W0
                    have HE0 := HEN
                    have HG0 := HGN2
                    clear HEN HGN2
                    have y0 := cell_of_cells HUB2.out 0
                    have y1 := cell_of_cells HUB2.out 1
                    have y2 := cell_of_cells HUB2.out 2
                    have y3 := cell_of_cells HUB2.out 3
                    have y4 := cell_of_cells HUB2.out 4
                    have yl := lt_of_block HUB2.out
                    go_wp2_with fail
                    refine (awake_any _).mono ?_
                    rintro e w9 ⟨rfl, hb9⟩
                    go_wp2_with fail
                    go_ret
                    exact ⟨rfl, HG0.out.trans hb9⟩
        · clear hlt
          have hkn : (bs nm).size ≤ 64 := HGN.out.le
          have hs42 : (⟨#[42]⟩ : ByteArray).size = 1 := rfl
          have hs38 : (⟨#[38]⟩ : ByteArray).size = 1 := rfl
          have ha42 : (⟨#[42]⟩ : ByteArray) ++ bs nm = bs (42 :: nm) := bs_append [42] nm
          have ha38 : (⟨#[38]⟩ : ByteArray) ++ bs nm = bs (38 :: nm) := bs_append [38] nm
          have hk0 : (nm.length : Int) ≤ 64 := by have h := HGN.out.le; omega
          go_wp2_with fail
          try rw [hbn]
          try clear hbn
          refine (usualR_any _).mono ?_
          rintro e w2 ⟨rfl, hb2⟩
          have hg2 : Gr w w2 := hG.trans hb2
          clear hb2 hem
          go_wp2_with fail
          obtain ⟨z, hz⟩ : ∃ z, z = w2.heap.size := ⟨_, rfl⟩
          have hwz : w.heap.size ≤ z := by rw [hz]; exact Below.size hg2
          rw [← hz]
          have hst0 := WSt.start hz hg2 HGN.out
          generalize ((((w2.alloc (.cells #[.int .i64 usual.d, .int .i64 usual.n, .int .i64 usual.b, .int .i64 usual.a, .int .i64 usual.x] 35)).alloc (.cells #[.int .i64 10, .string ⟨#[]⟩, .string (bs (42 :: nm)), .slice none 0 0, .string ⟨#[]⟩] 24)).alloc (.cells #[.int .i64 2, .string ⟨#[]⟩, .string ⟨#[49]⟩, .slice none 0 0, .string ⟨#[]⟩] 24)).alloc (.cells #[.int .i64 9, .string ⟨#[]⟩, .string (bs (38 :: nm)), .slice (some ⟨z + 1 + 1, 0, none⟩) 1 1, .string ⟨#[]⟩] 24)) = W5 at *
          have HST0 := Lib.hid hst0
          have HD := Lib.hid hd
          obtain ⟨dd, hdd⟩ : ∃ dd, dd = deep % 20 := ⟨_, rfl⟩
          have hdI : (wrap64 (deep : Int)).tmod 20 = (dd : Int) := by rw [hdd]; exact deep_mod hd
          have hdd20 : dd ≤ 20 := by rw [hdd]; exact deep_le
          clear hz hst0 hdd hd hg2
          go_loopw [10] (fun iv wr => ∃ j : Nat, j ≤ dd ∧ iv = .int .i64 j ∧ WSt nm z w j wr) (fun iv _ => dd - (intOf iv).toNat)
          case atStart => exact ⟨0, Nat.zero_le _, rfl, HST0.out⟩
          case round =>
            obtain ⟨j, hj, rfl, hst⟩ := hrel
            have HST := Lib.hid hst
            obtain ⟨d, hdn, hdr⟩ := hst.inn
            obtain ⟨k0, k1, k2, k3, k4⟩ := hdn.cells
            have kf0 := free_of_cells hdn 0
            have kf1 := free_of_cells hdn 1
            have kf2 := free_of_cells hdn 2
            have kf3 := free_of_cells hdn 3
            have kf4 := free_of_cells hdn 4
            have kl := lt_of_block hdn
            have HDN := Lib.hid hdn
            have HDR := Lib.hid hdr
            clear hst hdn hdr
            by_cases hlj : j < dd
            · go_wp2_with fail
              refine (leafW_any (P := fun b => b ≠ z + 1) (1 + 2 * j) d (innT nm j) _ (fun b hb => by omega) HDR.out).mono ?_
              rintro e w3 ⟨b, rfl, hr3, hb3⟩
              have hdn3 := HDN.out.gr hb3
              clear k0 k1 k2 k3 k4 kf0 kf1 kf2 kf3 kf4 kl
              obtain ⟨k0, k1, k2, k3, k4⟩ := hdn3.cells
              have kf0 := free_of_cells hdn3 0
              have kf1 := free_of_cells hdn3 1
              have kf2 := free_of_cells hdn3 2
              have kf3 := free_of_cells hdn3 3
              have kf4 := free_of_cells hdn3 4
              have kl := lt_of_block hdn3
              have hnext := HST.out.next hb3 hwz hr3 _ rfl
              have HNX := Lib.hid hnext
              clear hnext hdn3 hr3 hb3
              go_wp2_with fail
              exact ⟨⟨j + 1, by omega, by go_num, HNX.out⟩, by simp [intOf]; omega⟩
            · have hjd : dd = j := by omega
              subst hjd
              clear hlj hj
              have hE : WEnd nm z dd d wr := ⟨HST.out.lim, HST.out.one, HST.out.oneR.any, HDN.out, HDR.out.any⟩
              have hw0 := HST.out.gr
              clear HST HDR HDN HST0
              obtain ⟨c0, c1, c2, c3, c4⟩ := hE.lim.cells
              have cl := lt_of_block hE.lim
              have hck1 : ∀ W' M p, NRep anyB M W' ⟨9, [], 38 :: nm, some ⟨p, 0, none⟩, 1, 1, []⟩ (wT1 nm dd) → Calls Try.prog 15 #[.agg #[.int .i64 9, .string ⟨#[]⟩, .string (bs (38 :: nm)), .slice (some ⟨p, 0, none⟩) 1 1, .string ⟨#[]⟩], .agg #[.int .i64 usual.d, .int .i64 usual.n, .int .i64 usual.b, .int .i64 usual.a, .int .i64 usual.x]] W' (fun e w' => e = .returned (.tuple #[.agg #[.int .i64 0, .int .i64 0, .int .i64 0, .int .i64 0, .int .i64 0], .int .i64 11]) ∧ Gr W' w') := fun W' M p hr => by
                have h := CheckA_any M ⟨9, [], 38 :: nm, some ⟨p, 0, none⟩, 1, 1, []⟩ (wT1 nm dd) usual W' hr (by rw [w1_len]; have := HGN.out.le; omega) (by rw [w1_count]; omega)
                rw [w1_law HGN.out hdd20] at h
                exact h
              have hnr := NRep.made1 hE.innR (nm := nm) (by have := HGN.out.le; omega)
              have HE := Lib.hid hE
              have HW0 := Lib.hid hw0
              have HCK1 := Lib.hid hck1
              have HNR := Lib.hid hnr
              clear hE hw0 hck1 hnr
              go_wp2_with fail
              refine (HCK1.out _ _ _ HNR.out).mono ?_
              rintro e w6 ⟨rfl, hb6⟩
              clear k0 k1 k2 k3 k4 kf0 kf1 kf2 kf3 kf4 kl c0 c1 c2 c3 c4 cl HNR HCK1
              have hg6 := ((Gr.refl wr).alloc (.cells #[.int .i64 d.k, .string (bs d.l), .string (bs d.x), .slice d.A d.n d.c, .string (bs d.e)] 24)).trans hb6
              have HE6 := Lib.hid (HE.out.gr hg6)
              have HW6 := Lib.hid (HW0.out.trans hg6)
              clear hg6 hb6 HE HW0
              go_wp2_with fail
              generalize w6.heap.size = b6 at *
              obtain ⟨W0, hW0⟩ : ∃ W0, W0 = w6.alloc (.cells #[.int .i64 0, .int .i64 0, .int .i64 0, .int .i64 0, .int .i64 0] 36) := ⟨_, rfl⟩
              rw [← hW0]
              have HE0 : Hid (WEnd nm z dd d W0) := Lib.hid (by rw [hW0]; exact HE6.out.gr ((Gr.refl _).alloc _))
              have HG0 : Hid (Gr w W0) := Lib.hid (by rw [hW0]; exact HW6.out.alloc _)
              clear hW0 HE6 HW6
              have hck : ∀ W' p, NRep anyB 51 W' (twoD p) (wT2 (innT nm dd) (oneT nm)) → Calls Try.prog 15 #[.agg #[.int .i64 3, .string ⟨#[]⟩, .string ⟨#[]⟩, .slice (some ⟨p, 0, none⟩) 2 2, .string ⟨#[]⟩], .agg #[.int .i64 usual.d, .int .i64 usual.n, .int .i64 usual.b, .int .i64 usual.a, .int .i64 usual.x]] W' (fun e w' => e = .returned (.tuple #[.agg #[.int .i64 0, .int .i64 0, .int .i64 0, .int .i64 0, .int .i64 0], .int .i64 11]) ∧ Gr W' w') := fun W' p hr => by
                have h := CheckA_any 51 (twoD p) (wT2 (innT nm dd) (oneT nm)) usual W' hr (by have := HGN.out.le; rw [two_len, inn_len, one_len]; omega) (by rw [two_count, inn_count, one_count]; omega)
                rw [w2_law HGN.out hdd20] at h
                exact h
              have HCK := Lib.hid hck
              clear hck
              obtain ⟨VS, hVS⟩ : ∃ VS : List (Nat × Nat × Value), VS = [(0, 72, .agg #[.int .i64 d.k, .string (bs d.l), .string (bs d.x), .slice d.A d.n d.c, .string (bs d.e)]), (2, 74, .agg #[.int .i64 9, .string ⟨#[]⟩, .string (bs (38 :: nm)), .slice (some ⟨z + 1 + 1, 0, none⟩) 1 1, .string ⟨#[]⟩]), (6, 78, .agg #[.int .i64 usual.d, .int .i64 usual.n, .int .i64 usual.b, .int .i64 usual.a, .int .i64 usual.x]), (7, 79, .tuple #[.agg #[.int .i64 0, .int .i64 0, .int .i64 0, .int .i64 0, .int .i64 0], .int .i64 11]), (8, 71, .tuple #[.agg #[.int .i64 0, .int .i64 0, .int .i64 0, .int .i64 0, .int .i64 0], .int .i64 11]), (9, 80, .agg #[.int .i64 0, .int .i64 0, .int .i64 0, .int .i64 0, .int .i64 0]), (10, 81, .int .i64 11), (13, 14, .int .i64 11)] := ⟨_, rfl⟩
              obtain ⟨US, hUS⟩ : ∃ US : List (Nat × Value), US = [(7, .pointer (some ⟨z, 0, none⟩)), (8, .pointer (some ⟨z + 1, 0, none⟩)), (9, .pointer (some ⟨z + 1 + 1 + 1, 0, none⟩))] := ⟨_, rfl⟩
              refine wp_region_frame (by kernel_rfl) (by kernel_rfl) [72, 73, 74, 75, 76, 77, 78, 79, 71, 80, 81, 13, 14] (by simp) (Det VS US (RD W0 (innT nm dd) (oneT nm) #[.int .i64 0, .int .i64 0, .int .i64 0, .int .i64 0, .int .i64 0] 73 75 76 77 13)) ?_ ?_ ?_
              · exact Det.start (by rw [hUS]; simp [slot]) (RD.start ((Gr.refl _).drew))
              · intro B a' w' i o hfr hF ho hBi hdp
                have hi8 := (Array.getElem?_eq_some_iff.1 ho).1
                simp only [List.size_toArray, List.length_cons, List.length_nil] at hi8
                have hor : i = 0 ∨ i = 1 ∨ i = 2 ∨ i = 3 ∨ i = 4 ∨ i = 5 ∨ i = 6 ∨ i = 7 ∨ i = 8 ∨ i = 9 ∨ i = 10 ∨ i = 11 ∨ i = 12 ∨ i = 13 := by omega
                clear hi8
                rcases hor with rfl | rfl | rfl | rfl | rfl | rfl | rfl | rfl | rfl | rfl | rfl | rfl | rfl | rfl
                all_goals (
                  simp only [List.getElem?_toArray, List.getElem?_cons_zero, List.getElem?_cons_succ, Option.some.injEq] at ho
                  subst ho
                  rw [if_pos (show Region.wanted _ _ = true from rfl)]
                  refine wp_hideK ?_
                  intro K hK)
                · have hFW := hF.wd
                  have o8 := slot_spell (hF.had (d := 8) (v := .pointer (some ⟨z + 1, 0, none⟩)) (by rw [hUS]; simp))
                  have hE1 := HE0.out.gr hFW.gr
                  obtain ⟨k0, k1, k2, k3, k4⟩ := hE1.inn.cells
                  have kl := lt_of_block hE1.inn
                  go_simp
                  exact hK.out _ _ (close_put hfr (d := 72) (by decide) (by simp) _ (F := fun u => Det VS US (RD W0 (innT nm dd) (oneT nm) #[.int .i64 0, .int .i64 0, .int .i64 0, .int .i64 0, .int .i64 0] 73 75 76 77 13) (upB B 0) u _) (hF.step (by rw [hVS]; simp) (by rw [hUS]; simp) (hFW.other (Gr.refl _) hBi (by decide) (by decide))))
                · have hFW := hF.wd
                  have hB0 : B 0 = true := hdp ⟨0, .data⟩ (by simp) (by rfl)
                  have e0 := slot_spell (hF.get (i := 0) (d := 72) (v := .agg #[.int .i64 d.k, .string (bs d.l), .string (bs d.x), .slice d.A d.n d.c, .string (bs d.e)]) (by rw [hVS]; simp) hB0)
                  have HFF := Lib.hid hF
                  have HFR := Lib.hid hfr
                  have HFG := Lib.hid hFW
                  have HBI := Lib.hid hBi
                  clear hF hfr hFW hdp hBi
                  go_simp
                  refine (leafW_any (P := anyB) (1 + 2 * dd) d (innT nm dd) _ (fun _ _ => trivial) (HE0.out.gr HFG.out.gr).innR).mono ?_
                  rintro e w2 ⟨b, rfl, hr, hb2⟩
                  have hF := HFF.out
                  have hfr := HFR.out
                  have hFW := HFG.out
                  have hBi := HBI.out
                  exact hK.out _ _ (close_put hfr (d := 73) (by decide) (by simp) _ (F := fun u => Det VS US (RD W0 (innT nm dd) (oneT nm) #[.int .i64 0, .int .i64 0, .int .i64 0, .int .i64 0, .int .i64 0] 73 75 76 77 13) (upB B 1) u _) (hF.step (by rw [hVS]; simp) (by rw [hUS]; simp) (hFW.step hb2 hBi (by decide) (.inl ⟨rfl, rfl, b, rfl, hr.ups 50 (by omega)⟩) (.inr (by decide)) (.inr (by decide)) (.inr (by decide)) (.inr (by decide)))))
                · have hFW := hF.wd
                  have o9 := slot_spell (hF.had (d := 9) (v := .pointer (some ⟨z + 1 + 1 + 1, 0, none⟩)) (by rw [hUS]; simp))
                  have hE1 := HE0.out.gr hFW.gr
                  obtain ⟨k0, k1, k2, k3, k4⟩ := hE1.one.cells
                  have kl := lt_of_block hE1.one
                  simp only [oneD, show bs [] = ⟨#[]⟩ from rfl] at k0 k1 k2 k3 k4
                  go_simp
                  exact hK.out _ _ (close_put hfr (d := 74) (by decide) (by simp) _ (F := fun u => Det VS US (RD W0 (innT nm dd) (oneT nm) #[.int .i64 0, .int .i64 0, .int .i64 0, .int .i64 0, .int .i64 0] 73 75 76 77 13) (upB B 2) u _) (hF.step (by rw [hVS]; simp) (by rw [hUS]; simp) (hFW.other (Gr.refl _) hBi (by decide) (by decide))))
                · have hFW := hF.wd
                  have hB2 : B 2 = true := hdp ⟨2, .data⟩ (by simp) (by rfl)
                  have e2 := slot_spell (hF.get (i := 2) (d := 74) (v := .agg #[.int .i64 9, .string ⟨#[]⟩, .string (bs (38 :: nm)), .slice (some ⟨z + 1 + 1, 0, none⟩) 1 1, .string ⟨#[]⟩]) (by rw [hVS]; simp) hB2)
                  have HFF := Lib.hid hF
                  have HFR := Lib.hid hfr
                  have HFG := Lib.hid hFW
                  have HBI := Lib.hid hBi
                  clear hF hfr hFW hdp hBi
                  go_simp
                  refine (leafW_any (P := anyB) 2 (oneD z nm) (oneT nm) _ (fun _ _ => trivial) (HE0.out.gr HFG.out.gr).oneR).mono ?_
                  rintro e w2 ⟨b, rfl, hr, hb2⟩
                  have hF := HFF.out
                  have hfr := HFR.out
                  have hFW := HFG.out
                  have hBi := HBI.out
                  exact hK.out _ _ (close_put hfr (d := 75) (by decide) (by simp) _ (F := fun u => Det VS US (RD W0 (innT nm dd) (oneT nm) #[.int .i64 0, .int .i64 0, .int .i64 0, .int .i64 0, .int .i64 0] 73 75 76 77 13) (upB B 3) u _) (hF.step (by rw [hVS]; simp) (by rw [hUS]; simp) (hFW.step hb2 hBi (by decide) (.inr (by decide)) (.inl ⟨rfl, rfl, b, rfl, hr.ups 50 (by omega)⟩) (.inr (by decide)) (.inr (by decide)) (.inr (by decide)))))
                · have hFW := hF.wd
                  have hB1 : B 1 = true := hdp ⟨1, .data⟩ (by simp) (by rfl)
                  have hB3 : B 3 = true := hdp ⟨3, .data⟩ (by simp) (by rfl)
                  have h12 : B 12 = false := by
                    cases hx : B 12 with
                    | false => rfl
                    | true => exact absurd (hFW.done hx).1 (by rw [hBi]; decide)
                  obtain ⟨b1, q1, r1⟩ := hFW.c1 h12 hB1
                  obtain ⟨b2, q2, r2⟩ := hFW.c3 h12 hB3
                  have t1 := slot_spell q1
                  have t2 := slot_spell q2
                  go_simp
                  exact hK.out _ _ (close_put hfr (d := 76) (by decide) (by simp) _ (F := fun u => Det VS US (RD W0 (innT nm dd) (oneT nm) #[.int .i64 0, .int .i64 0, .int .i64 0, .int .i64 0, .int .i64 0] 73 75 76 77 13) (upB B 4) u _) (hF.step (by rw [hVS]; simp) (by rw [hUS]; simp) (hFW.step ((Gr.refl _).alloc _) hBi (by decide) (.inr (by decide)) (.inr (by decide)) (.inl ⟨rfl, rfl, _, rfl, NRep.made2 r1 r2⟩) (.inr (by decide)) (.inr (by decide)))))
                · have hFW := hF.wd
                  have hB4 : B 4 = true := hdp ⟨4, .data⟩ (by simp) (by rfl)
                  have h12 : B 12 = false := by
                    cases hx : B 12 with
                    | false => rfl
                    | true => exact absurd (hFW.done hx).2.1 (by rw [hBi]; decide)
                  obtain ⟨p, q1, r1⟩ := hFW.c4 h12 hB4
                  have t1 := slot_spell q1
                  go_simp
                  exact hK.out _ _ (close_put hfr (d := 77) (by decide) (by simp) _ (F := fun u => Det VS US (RD W0 (innT nm dd) (oneT nm) #[.int .i64 0, .int .i64 0, .int .i64 0, .int .i64 0, .int .i64 0] 73 75 76 77 13) (upB B 5) u _) (hF.step (by rw [hVS]; simp) (by rw [hUS]; simp) (hFW.step (Gr.refl _) hBi (by decide) (.inr (by decide)) (.inr (by decide)) (.inr (by decide)) (.inl ⟨rfl, rfl, _, rfl, r1⟩) (.inr (by decide)))))
                · have hFW := hF.wd
                  have o7 := slot_spell (hF.had (d := 7) (v := .pointer (some ⟨z, 0, none⟩)) (by rw [hUS]; simp))
                  have hE1 := HE0.out.gr hFW.gr
                  obtain ⟨k0, k1, k2, k3, k4⟩ := hE1.lim.cells
                  have kl := lt_of_block hE1.lim
                  go_simp
                  exact hK.out _ _ (close_put hfr (d := 78) (by decide) (by simp) _ (F := fun u => Det VS US (RD W0 (innT nm dd) (oneT nm) #[.int .i64 0, .int .i64 0, .int .i64 0, .int .i64 0, .int .i64 0] 73 75 76 77 13) (upB B 6) u _) (hF.step (by rw [hVS]; simp) (by rw [hUS]; simp) (hFW.other (Gr.refl _) hBi (by decide) (by decide))))
                · have hFW := hF.wd
                  have hB5 : B 5 = true := hdp ⟨5, .data⟩ (by simp) (by rfl)
                  have hB6 : B 6 = true := hdp ⟨6, .data⟩ (by simp) (by rfl)
                  have e6 := slot_spell (hF.get (i := 6) (d := 78) (v := .agg #[.int .i64 usual.d, .int .i64 usual.n, .int .i64 usual.b, .int .i64 usual.a, .int .i64 usual.x]) (by rw [hVS]; simp) hB6)
                  have h12 : B 12 = false := by
                    cases hx : B 12 with
                    | false => rfl
                    | true => exact absurd (hFW.done hx).2.2 (by rw [hBi]; decide)
                  obtain ⟨p, q1, r1⟩ := hFW.c5 h12 hB5
                  have t1 := slot_spell q1
                  have HR1 := Lib.hid r1
                  clear r1
                  have HFF := Lib.hid hF
                  have HFR := Lib.hid hfr
                  have HFG := Lib.hid hFW
                  have HBI := Lib.hid hBi
                  clear hF hfr hFW hdp hBi
                  go_simp
                  refine (HCK.out _ _ HR1.out).mono ?_
                  rintro e w2 ⟨rfl, hb2⟩
                  have hF := HFF.out
                  have hfr := HFR.out
                  have hFW := HFG.out
                  have hBi := HBI.out
                  exact hK.out _ _ (close_put hfr (d := 79) (by decide) (by simp) _ (F := fun u => Det VS US (RD W0 (innT nm dd) (oneT nm) #[.int .i64 0, .int .i64 0, .int .i64 0, .int .i64 0, .int .i64 0] 73 75 76 77 13) (upB B 7) u _) (hF.step (by rw [hVS]; simp) (by rw [hUS]; simp) (hFW.other hb2 hBi (by decide) (by decide))))
                · have hFW := hF.wd
                  have hB7 : B 7 = true := hdp ⟨7, .data⟩ (by simp) (by rfl)
                  have e7 := slot_spell (hF.get (i := 7) (d := 79) (v := .tuple #[.agg #[.int .i64 0, .int .i64 0, .int .i64 0, .int .i64 0, .int .i64 0], .int .i64 11]) (by rw [hVS]; simp) hB7)
                  go_simp
                  exact hK.out _ _ (close_put hfr (d := 71) (by decide) (by simp) _ (F := fun u => Det VS US (RD W0 (innT nm dd) (oneT nm) #[.int .i64 0, .int .i64 0, .int .i64 0, .int .i64 0, .int .i64 0] 73 75 76 77 13) (upB B 8) u _) (hF.step (by rw [hVS]; simp) (by rw [hUS]; simp) (hFW.other (Gr.refl _) hBi (by decide) (by decide))))
                · have hFW := hF.wd
                  have hB8 : B 8 = true := hdp ⟨8, .data⟩ (by simp) (by rfl)
                  have e8 := slot_spell (hF.get (i := 8) (d := 71) (v := .tuple #[.agg #[.int .i64 0, .int .i64 0, .int .i64 0, .int .i64 0, .int .i64 0], .int .i64 11]) (by rw [hVS]; simp) hB8)
                  go_simp
                  exact hK.out _ _ (close_put hfr (d := 80) (by decide) (by simp) _ (F := fun u => Det VS US (RD W0 (innT nm dd) (oneT nm) #[.int .i64 0, .int .i64 0, .int .i64 0, .int .i64 0, .int .i64 0] 73 75 76 77 13) (upB B 9) u _) (hF.step (by rw [hVS]; simp) (by rw [hUS]; simp) (hFW.other (Gr.refl _) hBi (by decide) (by decide))))
                · have hFW := hF.wd
                  have hB8 : B 8 = true := hdp ⟨8, .data⟩ (by simp) (by rfl)
                  have e8 := slot_spell (hF.get (i := 8) (d := 71) (v := .tuple #[.agg #[.int .i64 0, .int .i64 0, .int .i64 0, .int .i64 0, .int .i64 0], .int .i64 11]) (by rw [hVS]; simp) hB8)
                  go_simp
                  exact hK.out _ _ (close_put hfr (d := 81) (by decide) (by simp) _ (F := fun u => Det VS US (RD W0 (innT nm dd) (oneT nm) #[.int .i64 0, .int .i64 0, .int .i64 0, .int .i64 0, .int .i64 0] 73 75 76 77 13) (upB B 10) u _) (hF.step (by rw [hVS]; simp) (by rw [hUS]; simp) (hFW.other (Gr.refl _) hBi (by decide) (by decide))))
                · have hFW := hF.wd
                  go_simp
                  exact hK.out _ _ (close_put hfr (d := 13) (by decide) (by simp) _ (F := fun u => Det VS US (RD W0 (innT nm dd) (oneT nm) #[.int .i64 0, .int .i64 0, .int .i64 0, .int .i64 0, .int .i64 0] 73 75 76 77 13) (upB B 11) u _) (hF.step (by rw [hVS]; simp) (by rw [hUS]; simp) (hFW.step ((Gr.refl _).alloc _) hBi (by decide) (.inr (by decide)) (.inr (by decide)) (.inr (by decide)) (.inr (by decide)) (.inl ⟨rfl, rfl, _, Below.size hFW.gr, rfl, heap_alloc_new _ _⟩))))
                · have hFW := hF.wd
                  have hB9 : B 9 = true := hdp ⟨9, .data⟩ (by simp) (by rfl)
                  have e9 := slot_spell (hF.get (i := 9) (d := 80) (v := .agg #[.int .i64 0, .int .i64 0, .int .i64 0, .int .i64 0, .int .i64 0]) (by rw [hVS]; simp) hB9)
                  have hB11 : B 11 = true := hdp ⟨11, .data⟩ (by simp) (by rfl)
                  obtain ⟨p, c, q1, q2, q3, q4⟩ := hFW.c11 hB11
                  rw [if_neg (by rw [hBi]; decide)] at q4
                  subst q4
                  have t2 := slot_spell q2
                  have y0 := cell_of_cells q3 0
                  have f0 := free_of_cells q3 0
                  have y1 := cell_of_cells q3 1
                  have f1 := free_of_cells q3 1
                  have y2 := cell_of_cells q3 2
                  have f2 := free_of_cells q3 2
                  have y3 := cell_of_cells q3 3
                  have f3 := free_of_cells q3 3
                  have y4 := cell_of_cells q3 4
                  have f4 := free_of_cells q3 4
                  have pl := lt_of_block q3
                  have p4 : B 4 = true := by first | assumption | exact hdp ⟨4, .phase⟩ (by simp) (by rfl) | exact hdp ⟨4, .chain⟩ (by simp) (by rfl)
                  have p5 : B 5 = true := by first | assumption | exact hdp ⟨5, .phase⟩ (by simp) (by rfl) | exact hdp ⟨5, .chain⟩ (by simp) (by rfl)
                  have p7 : B 7 = true := by first | assumption | exact hdp ⟨7, .phase⟩ (by simp) (by rfl) | exact hdp ⟨7, .chain⟩ (by simp) (by rfl)
                  go_simp
                  exact hK.out _ _ (close_none hfr undef (F := fun u => Det VS US (RD W0 (innT nm dd) (oneT nm) #[.int .i64 0, .int .i64 0, .int .i64 0, .int .i64 0, .int .i64 0] 73 75 76 77 13) (upB B 12) u _) (hF.none (by rw [hVS]; simp) (hFW.store hB11 p4 p5 p7 q1 q2 q3 rfl)))
                · have hFW := hF.wd
                  have hB10 : B 10 = true := hdp ⟨10, .data⟩ (by simp) (by rfl)
                  have e10 := slot_spell (hF.get (i := 10) (d := 81) (v := .int .i64 11) (by rw [hVS]; simp) hB10)
                  go_simp
                  exact hK.out _ _ (close_put hfr (d := 14) (by decide) (by simp) _ (F := fun u => Det VS US (RD W0 (innT nm dd) (oneT nm) #[.int .i64 0, .int .i64 0, .int .i64 0, .int .i64 0, .int .i64 0] 73 75 76 77 13) (upB B 13) u _) (hF.step (by rw [hVS]; simp) (by rw [hUS]; simp) (hFW.other (Gr.refl _) hBi (by decide) (by decide))))
              · intro B u w' hall hF
                have z0 := hF.get (i := 0) (d := 72) (v := .agg #[.int .i64 d.k, .string (bs d.l), .string (bs d.x), .slice d.A d.n d.c, .string (bs d.e)]) (by rw [hVS]; simp) (hall 0 (by simp))
                have z2 := hF.get (i := 2) (d := 74) (v := .agg #[.int .i64 9, .string ⟨#[]⟩, .string (bs (38 :: nm)), .slice (some ⟨z + 1 + 1, 0, none⟩) 1 1, .string ⟨#[]⟩]) (by rw [hVS]; simp) (hall 2 (by simp))
                have z6 := hF.get (i := 6) (d := 78) (v := .agg #[.int .i64 usual.d, .int .i64 usual.n, .int .i64 usual.b, .int .i64 usual.a, .int .i64 usual.x]) (by rw [hVS]; simp) (hall 6 (by simp))
                have z7 := hF.get (i := 7) (d := 79) (v := .tuple #[.agg #[.int .i64 0, .int .i64 0, .int .i64 0, .int .i64 0, .int .i64 0], .int .i64 11]) (by rw [hVS]; simp) (hall 7 (by simp))
                have z8 := hF.get (i := 8) (d := 71) (v := .tuple #[.agg #[.int .i64 0, .int .i64 0, .int .i64 0, .int .i64 0, .int .i64 0], .int .i64 11]) (by rw [hVS]; simp) (hall 8 (by simp))
                have z9 := hF.get (i := 9) (d := 80) (v := .agg #[.int .i64 0, .int .i64 0, .int .i64 0, .int .i64 0, .int .i64 0]) (by rw [hVS]; simp) (hall 9 (by simp))
                have z10 := hF.get (i := 10) (d := 81) (v := .int .i64 11) (by rw [hVS]; simp) (hall 10 (by simp))
                have z13 := hF.get (i := 13) (d := 14) (v := .int .i64 11) (by rw [hVS]; simp) (hall 13 (by simp))
                have hFW := hF.wd
                clear hF hVS hUS
                simp only [List.foldl_cons, List.foldl_nil, Act.put, List.setIfInBounds_toArray, List.set_cons_zero, List.set_cons_succ, z0, z2, z6, z7, z8, z9, z10, z13]
                clear z0 z2 z6 z7 z8 z9 z10 z13
          
                obtain ⟨bo, co, qo1, qo2, qo3, qo4⟩ := hFW.c11 (hall 11 (by simp))
                rw [if_pos (hall 12 (by simp))] at qo4
                subst qo4
                have hgo := hFW.gr
                rw [qo2]
                clear hFW hall qo2 HCK
                have HEN := Lib.hid (HE0.out.gr hgo)
                have HGN2 := Lib.hid (HG0.out.trans hgo)
                clear HE0 HG0 qo1 qo3 hgo W0
                rename World => W0
                have HE0 := HEN
                have HG0 := HGN2
                clear HEN HGN2
                go_wp2_with fail
                have hck : ∀ W' p, NRep anyB 51 W' (twoD p) (wT2 (oneT nm) (innT nm dd)) → Calls Try.prog 15 #[.agg #[.int .i64 3, .string ⟨#[]⟩, .string ⟨#[]⟩, .slice (some ⟨p, 0, none⟩) 2 2, .string ⟨#[]⟩], .agg #[.int .i64 usual.d, .int .i64 usual.n, .int .i64 usual.b, .int .i64 usual.a, .int .i64 usual.x]] W' (fun e w' => e = .returned (.tuple #[.agg #[.int .i64 0, .int .i64 0, .int .i64 0, .int .i64 1, .int .i64 1], .int .i64 0]) ∧ Gr W' w') := fun W' p hr => by
                  have h := CheckA_any 51 (twoD p) (wT2 (oneT nm) (innT nm dd)) usual W' hr (by have := HGN.out.le; rw [two_len, inn_len, one_len]; omega) (by rw [two_count, inn_count, one_count]; omega)
                  rw [w3_law HGN.out hdd20] at h
                  exact h
                have HCK := Lib.hid hck
                clear hck
                obtain ⟨VS, hVS⟩ : ∃ VS : List (Nat × Nat × Value), VS = [(0, 83, .agg #[.int .i64 9, .string ⟨#[]⟩, .string (bs (38 :: nm)), .slice (some ⟨z + 1 + 1, 0, none⟩) 1 1, .string ⟨#[]⟩]), (2, 85, .agg #[.int .i64 d.k, .string (bs d.l), .string (bs d.x), .slice d.A d.n d.c, .string (bs d.e)]), (6, 89, .agg #[.int .i64 usual.d, .int .i64 usual.n, .int .i64 usual.b, .int .i64 usual.a, .int .i64 usual.x]), (7, 90, .tuple #[.agg #[.int .i64 0, .int .i64 0, .int .i64 0, .int .i64 1, .int .i64 1], .int .i64 0]), (8, 82, .tuple #[.agg #[.int .i64 0, .int .i64 0, .int .i64 0, .int .i64 1, .int .i64 1], .int .i64 0]), (9, 91, .agg #[.int .i64 0, .int .i64 0, .int .i64 0, .int .i64 1, .int .i64 1]), (10, 92, .int .i64 0), (13, 16, .int .i64 0)] := ⟨_, rfl⟩
                obtain ⟨US, hUS⟩ : ∃ US : List (Nat × Value), US = [(7, .pointer (some ⟨z, 0, none⟩)), (8, .pointer (some ⟨z + 1, 0, none⟩)), (9, .pointer (some ⟨z + 1 + 1 + 1, 0, none⟩))] := ⟨_, rfl⟩
                refine wp_region_frame (by kernel_rfl) (by kernel_rfl) [83, 84, 85, 86, 87, 88, 89, 90, 82, 91, 92, 15, 16] (by simp) (Det VS US (RD W0 (oneT nm) (innT nm dd) #[.int .i64 0, .int .i64 0, .int .i64 0, .int .i64 1, .int .i64 1] 84 86 87 88 15)) ?_ ?_ ?_
                · exact Det.start (by rw [hUS]; simp [slot]) (RD.start ((Gr.refl _).drew))
                · intro B a' w' i o hfr hF ho hBi hdp
                  have hi8 := (Array.getElem?_eq_some_iff.1 ho).1
                  simp only [List.size_toArray, List.length_cons, List.length_nil] at hi8
                  have hor : i = 0 ∨ i = 1 ∨ i = 2 ∨ i = 3 ∨ i = 4 ∨ i = 5 ∨ i = 6 ∨ i = 7 ∨ i = 8 ∨ i = 9 ∨ i = 10 ∨ i = 11 ∨ i = 12 ∨ i = 13 := by omega
                  clear hi8
                  rcases hor with rfl | rfl | rfl | rfl | rfl | rfl | rfl | rfl | rfl | rfl | rfl | rfl | rfl | rfl
                  all_goals (
                    simp only [List.getElem?_toArray, List.getElem?_cons_zero, List.getElem?_cons_succ, Option.some.injEq] at ho
                    subst ho
                    rw [if_pos (show Region.wanted _ _ = true from rfl)]
                    refine wp_hideK ?_
                    intro K hK)
                  · have hFW := hF.wd
                    have o9 := slot_spell (hF.had (d := 9) (v := .pointer (some ⟨z + 1 + 1 + 1, 0, none⟩)) (by rw [hUS]; simp))
                    have hE1 := HE0.out.gr hFW.gr
                    obtain ⟨k0, k1, k2, k3, k4⟩ := hE1.one.cells
                    have kl := lt_of_block hE1.one
                    simp only [oneD, show bs [] = ⟨#[]⟩ from rfl] at k0 k1 k2 k3 k4
                    go_simp
                    exact hK.out _ _ (close_put hfr (d := 83) (by decide) (by simp) _ (F := fun u => Det VS US (RD W0 (oneT nm) (innT nm dd) #[.int .i64 0, .int .i64 0, .int .i64 0, .int .i64 1, .int .i64 1] 84 86 87 88 15) (upB B 0) u _) (hF.step (by rw [hVS]; simp) (by rw [hUS]; simp) (hFW.other (Gr.refl _) hBi (by decide) (by decide))))
                  · have hFW := hF.wd
                    have hB0 : B 0 = true := hdp ⟨0, .data⟩ (by simp) (by rfl)
                    have e0 := slot_spell (hF.get (i := 0) (d := 83) (v := .agg #[.int .i64 9, .string ⟨#[]⟩, .string (bs (38 :: nm)), .slice (some ⟨z + 1 + 1, 0, none⟩) 1 1, .string ⟨#[]⟩]) (by rw [hVS]; simp) hB0)
                    have HFF := Lib.hid hF
                    have HFR := Lib.hid hfr
                    have HFG := Lib.hid hFW
                    have HBI := Lib.hid hBi
                    clear hF hfr hFW hdp hBi
                    go_simp
                    refine (leafW_any (P := anyB) 2 (oneD z nm) (oneT nm) _ (fun _ _ => trivial) (HE0.out.gr HFG.out.gr).oneR).mono ?_
                    rintro e w2 ⟨b, rfl, hr, hb2⟩
                    have hF := HFF.out
                    have hfr := HFR.out
                    have hFW := HFG.out
                    have hBi := HBI.out
                    exact hK.out _ _ (close_put hfr (d := 84) (by decide) (by simp) _ (F := fun u => Det VS US (RD W0 (oneT nm) (innT nm dd) #[.int .i64 0, .int .i64 0, .int .i64 0, .int .i64 1, .int .i64 1] 84 86 87 88 15) (upB B 1) u _) (hF.step (by rw [hVS]; simp) (by rw [hUS]; simp) (hFW.step hb2 hBi (by decide) (.inl ⟨rfl, rfl, b, rfl, hr.ups 50 (by omega)⟩) (.inr (by decide)) (.inr (by decide)) (.inr (by decide)) (.inr (by decide)))))
                  · have hFW := hF.wd
                    have o8 := slot_spell (hF.had (d := 8) (v := .pointer (some ⟨z + 1, 0, none⟩)) (by rw [hUS]; simp))
                    have hE1 := HE0.out.gr hFW.gr
                    obtain ⟨k0, k1, k2, k3, k4⟩ := hE1.inn.cells
                    have kl := lt_of_block hE1.inn
                    go_simp
                    exact hK.out _ _ (close_put hfr (d := 85) (by decide) (by simp) _ (F := fun u => Det VS US (RD W0 (oneT nm) (innT nm dd) #[.int .i64 0, .int .i64 0, .int .i64 0, .int .i64 1, .int .i64 1] 84 86 87 88 15) (upB B 2) u _) (hF.step (by rw [hVS]; simp) (by rw [hUS]; simp) (hFW.other (Gr.refl _) hBi (by decide) (by decide))))
                  · have hFW := hF.wd
                    have hB2 : B 2 = true := hdp ⟨2, .data⟩ (by simp) (by rfl)
                    have e2 := slot_spell (hF.get (i := 2) (d := 85) (v := .agg #[.int .i64 d.k, .string (bs d.l), .string (bs d.x), .slice d.A d.n d.c, .string (bs d.e)]) (by rw [hVS]; simp) hB2)
                    have HFF := Lib.hid hF
                    have HFR := Lib.hid hfr
                    have HFG := Lib.hid hFW
                    have HBI := Lib.hid hBi
                    clear hF hfr hFW hdp hBi
                    go_simp
                    refine (leafW_any (P := anyB) (1 + 2 * dd) d (innT nm dd) _ (fun _ _ => trivial) (HE0.out.gr HFG.out.gr).innR).mono ?_
                    rintro e w2 ⟨b, rfl, hr, hb2⟩
                    have hF := HFF.out
                    have hfr := HFR.out
                    have hFW := HFG.out
                    have hBi := HBI.out
                    exact hK.out _ _ (close_put hfr (d := 86) (by decide) (by simp) _ (F := fun u => Det VS US (RD W0 (oneT nm) (innT nm dd) #[.int .i64 0, .int .i64 0, .int .i64 0, .int .i64 1, .int .i64 1] 84 86 87 88 15) (upB B 3) u _) (hF.step (by rw [hVS]; simp) (by rw [hUS]; simp) (hFW.step hb2 hBi (by decide) (.inr (by decide)) (.inl ⟨rfl, rfl, b, rfl, hr.ups 50 (by omega)⟩) (.inr (by decide)) (.inr (by decide)) (.inr (by decide)))))
                  · have hFW := hF.wd
                    have hB1 : B 1 = true := hdp ⟨1, .data⟩ (by simp) (by rfl)
                    have hB3 : B 3 = true := hdp ⟨3, .data⟩ (by simp) (by rfl)
                    have h12 : B 12 = false := by
                      cases hx : B 12 with
                      | false => rfl
                      | true => exact absurd (hFW.done hx).1 (by rw [hBi]; decide)
                    obtain ⟨b1, q1, r1⟩ := hFW.c1 h12 hB1
                    obtain ⟨b2, q2, r2⟩ := hFW.c3 h12 hB3
                    have t1 := slot_spell q1
                    have t2 := slot_spell q2
                    go_simp
                    exact hK.out _ _ (close_put hfr (d := 87) (by decide) (by simp) _ (F := fun u => Det VS US (RD W0 (oneT nm) (innT nm dd) #[.int .i64 0, .int .i64 0, .int .i64 0, .int .i64 1, .int .i64 1] 84 86 87 88 15) (upB B 4) u _) (hF.step (by rw [hVS]; simp) (by rw [hUS]; simp) (hFW.step ((Gr.refl _).alloc _) hBi (by decide) (.inr (by decide)) (.inr (by decide)) (.inl ⟨rfl, rfl, _, rfl, NRep.made2 r1 r2⟩) (.inr (by decide)) (.inr (by decide)))))
                  · have hFW := hF.wd
                    have hB4 : B 4 = true := hdp ⟨4, .data⟩ (by simp) (by rfl)
                    have h12 : B 12 = false := by
                      cases hx : B 12 with
                      | false => rfl
                      | true => exact absurd (hFW.done hx).2.1 (by rw [hBi]; decide)
                    obtain ⟨p, q1, r1⟩ := hFW.c4 h12 hB4
                    have t1 := slot_spell q1
                    go_simp
                    exact hK.out _ _ (close_put hfr (d := 88) (by decide) (by simp) _ (F := fun u => Det VS US (RD W0 (oneT nm) (innT nm dd) #[.int .i64 0, .int .i64 0, .int .i64 0, .int .i64 1, .int .i64 1] 84 86 87 88 15) (upB B 5) u _) (hF.step (by rw [hVS]; simp) (by rw [hUS]; simp) (hFW.step (Gr.refl _) hBi (by decide) (.inr (by decide)) (.inr (by decide)) (.inr (by decide)) (.inl ⟨rfl, rfl, _, rfl, r1⟩) (.inr (by decide)))))
                  · have hFW := hF.wd
                    have o7 := slot_spell (hF.had (d := 7) (v := .pointer (some ⟨z, 0, none⟩)) (by rw [hUS]; simp))
                    have hE1 := HE0.out.gr hFW.gr
                    obtain ⟨k0, k1, k2, k3, k4⟩ := hE1.lim.cells
                    have kl := lt_of_block hE1.lim
                    go_simp
                    exact hK.out _ _ (close_put hfr (d := 89) (by decide) (by simp) _ (F := fun u => Det VS US (RD W0 (oneT nm) (innT nm dd) #[.int .i64 0, .int .i64 0, .int .i64 0, .int .i64 1, .int .i64 1] 84 86 87 88 15) (upB B 6) u _) (hF.step (by rw [hVS]; simp) (by rw [hUS]; simp) (hFW.other (Gr.refl _) hBi (by decide) (by decide))))
                  · have hFW := hF.wd
                    have hB5 : B 5 = true := hdp ⟨5, .data⟩ (by simp) (by rfl)
                    have hB6 : B 6 = true := hdp ⟨6, .data⟩ (by simp) (by rfl)
                    have e6 := slot_spell (hF.get (i := 6) (d := 89) (v := .agg #[.int .i64 usual.d, .int .i64 usual.n, .int .i64 usual.b, .int .i64 usual.a, .int .i64 usual.x]) (by rw [hVS]; simp) hB6)
                    have h12 : B 12 = false := by
                      cases hx : B 12 with
                      | false => rfl
                      | true => exact absurd (hFW.done hx).2.2 (by rw [hBi]; decide)
                    obtain ⟨p, q1, r1⟩ := hFW.c5 h12 hB5
                    have t1 := slot_spell q1
                    have HR1 := Lib.hid r1
                    clear r1
                    have HFF := Lib.hid hF
                    have HFR := Lib.hid hfr
                    have HFG := Lib.hid hFW
                    have HBI := Lib.hid hBi
                    clear hF hfr hFW hdp hBi
                    go_simp
                    refine (HCK.out _ _ HR1.out).mono ?_
                    rintro e w2 ⟨rfl, hb2⟩
                    have hF := HFF.out
                    have hfr := HFR.out
                    have hFW := HFG.out
                    have hBi := HBI.out
                    exact hK.out _ _ (close_put hfr (d := 90) (by decide) (by simp) _ (F := fun u => Det VS US (RD W0 (oneT nm) (innT nm dd) #[.int .i64 0, .int .i64 0, .int .i64 0, .int .i64 1, .int .i64 1] 84 86 87 88 15) (upB B 7) u _) (hF.step (by rw [hVS]; simp) (by rw [hUS]; simp) (hFW.other hb2 hBi (by decide) (by decide))))
                  · have hFW := hF.wd
                    have hB7 : B 7 = true := hdp ⟨7, .data⟩ (by simp) (by rfl)
                    have e7 := slot_spell (hF.get (i := 7) (d := 90) (v := .tuple #[.agg #[.int .i64 0, .int .i64 0, .int .i64 0, .int .i64 1, .int .i64 1], .int .i64 0]) (by rw [hVS]; simp) hB7)
                    go_simp
                    exact hK.out _ _ (close_put hfr (d := 82) (by decide) (by simp) _ (F := fun u => Det VS US (RD W0 (oneT nm) (innT nm dd) #[.int .i64 0, .int .i64 0, .int .i64 0, .int .i64 1, .int .i64 1] 84 86 87 88 15) (upB B 8) u _) (hF.step (by rw [hVS]; simp) (by rw [hUS]; simp) (hFW.other (Gr.refl _) hBi (by decide) (by decide))))
                  · have hFW := hF.wd
                    have hB8 : B 8 = true := hdp ⟨8, .data⟩ (by simp) (by rfl)
                    have e8 := slot_spell (hF.get (i := 8) (d := 82) (v := .tuple #[.agg #[.int .i64 0, .int .i64 0, .int .i64 0, .int .i64 1, .int .i64 1], .int .i64 0]) (by rw [hVS]; simp) hB8)
                    go_simp
                    exact hK.out _ _ (close_put hfr (d := 91) (by decide) (by simp) _ (F := fun u => Det VS US (RD W0 (oneT nm) (innT nm dd) #[.int .i64 0, .int .i64 0, .int .i64 0, .int .i64 1, .int .i64 1] 84 86 87 88 15) (upB B 9) u _) (hF.step (by rw [hVS]; simp) (by rw [hUS]; simp) (hFW.other (Gr.refl _) hBi (by decide) (by decide))))
                  · have hFW := hF.wd
                    have hB8 : B 8 = true := hdp ⟨8, .data⟩ (by simp) (by rfl)
                    have e8 := slot_spell (hF.get (i := 8) (d := 82) (v := .tuple #[.agg #[.int .i64 0, .int .i64 0, .int .i64 0, .int .i64 1, .int .i64 1], .int .i64 0]) (by rw [hVS]; simp) hB8)
                    go_simp
                    exact hK.out _ _ (close_put hfr (d := 92) (by decide) (by simp) _ (F := fun u => Det VS US (RD W0 (oneT nm) (innT nm dd) #[.int .i64 0, .int .i64 0, .int .i64 0, .int .i64 1, .int .i64 1] 84 86 87 88 15) (upB B 10) u _) (hF.step (by rw [hVS]; simp) (by rw [hUS]; simp) (hFW.other (Gr.refl _) hBi (by decide) (by decide))))
                  · have hFW := hF.wd
                    go_simp
                    exact hK.out _ _ (close_put hfr (d := 15) (by decide) (by simp) _ (F := fun u => Det VS US (RD W0 (oneT nm) (innT nm dd) #[.int .i64 0, .int .i64 0, .int .i64 0, .int .i64 1, .int .i64 1] 84 86 87 88 15) (upB B 11) u _) (hF.step (by rw [hVS]; simp) (by rw [hUS]; simp) (hFW.step ((Gr.refl _).alloc _) hBi (by decide) (.inr (by decide)) (.inr (by decide)) (.inr (by decide)) (.inr (by decide)) (.inl ⟨rfl, rfl, _, Below.size hFW.gr, rfl, heap_alloc_new _ _⟩))))
                  · have hFW := hF.wd
                    have hB9 : B 9 = true := hdp ⟨9, .data⟩ (by simp) (by rfl)
                    have e9 := slot_spell (hF.get (i := 9) (d := 91) (v := .agg #[.int .i64 0, .int .i64 0, .int .i64 0, .int .i64 1, .int .i64 1]) (by rw [hVS]; simp) hB9)
                    have hB11 : B 11 = true := hdp ⟨11, .data⟩ (by simp) (by rfl)
                    obtain ⟨p, c, q1, q2, q3, q4⟩ := hFW.c11 hB11
                    rw [if_neg (by rw [hBi]; decide)] at q4
                    subst q4
                    have t2 := slot_spell q2
                    have y0 := cell_of_cells q3 0
                    have f0 := free_of_cells q3 0
                    have y1 := cell_of_cells q3 1
                    have f1 := free_of_cells q3 1
                    have y2 := cell_of_cells q3 2
                    have f2 := free_of_cells q3 2
                    have y3 := cell_of_cells q3 3
                    have f3 := free_of_cells q3 3
                    have y4 := cell_of_cells q3 4
                    have f4 := free_of_cells q3 4
                    have pl := lt_of_block q3
                    have p4 : B 4 = true := by first | assumption | exact hdp ⟨4, .phase⟩ (by simp) (by rfl) | exact hdp ⟨4, .chain⟩ (by simp) (by rfl)
                    have p5 : B 5 = true := by first | assumption | exact hdp ⟨5, .phase⟩ (by simp) (by rfl) | exact hdp ⟨5, .chain⟩ (by simp) (by rfl)
                    have p7 : B 7 = true := by first | assumption | exact hdp ⟨7, .phase⟩ (by simp) (by rfl) | exact hdp ⟨7, .chain⟩ (by simp) (by rfl)
                    go_simp
                    exact hK.out _ _ (close_none hfr undef (F := fun u => Det VS US (RD W0 (oneT nm) (innT nm dd) #[.int .i64 0, .int .i64 0, .int .i64 0, .int .i64 1, .int .i64 1] 84 86 87 88 15) (upB B 12) u _) (hF.none (by rw [hVS]; simp) (hFW.store hB11 p4 p5 p7 q1 q2 q3 rfl)))
                  · have hFW := hF.wd
                    have hB10 : B 10 = true := hdp ⟨10, .data⟩ (by simp) (by rfl)
                    have e10 := slot_spell (hF.get (i := 10) (d := 92) (v := .int .i64 0) (by rw [hVS]; simp) hB10)
                    go_simp
                    exact hK.out _ _ (close_put hfr (d := 16) (by decide) (by simp) _ (F := fun u => Det VS US (RD W0 (oneT nm) (innT nm dd) #[.int .i64 0, .int .i64 0, .int .i64 0, .int .i64 1, .int .i64 1] 84 86 87 88 15) (upB B 13) u _) (hF.step (by rw [hVS]; simp) (by rw [hUS]; simp) (hFW.other (Gr.refl _) hBi (by decide) (by decide))))
                · intro B u w' hall hF
                  have z0 := hF.get (i := 0) (d := 83) (v := .agg #[.int .i64 9, .string ⟨#[]⟩, .string (bs (38 :: nm)), .slice (some ⟨z + 1 + 1, 0, none⟩) 1 1, .string ⟨#[]⟩]) (by rw [hVS]; simp) (hall 0 (by simp))
                  have z2 := hF.get (i := 2) (d := 85) (v := .agg #[.int .i64 d.k, .string (bs d.l), .string (bs d.x), .slice d.A d.n d.c, .string (bs d.e)]) (by rw [hVS]; simp) (hall 2 (by simp))
                  have z6 := hF.get (i := 6) (d := 89) (v := .agg #[.int .i64 usual.d, .int .i64 usual.n, .int .i64 usual.b, .int .i64 usual.a, .int .i64 usual.x]) (by rw [hVS]; simp) (hall 6 (by simp))
                  have z7 := hF.get (i := 7) (d := 90) (v := .tuple #[.agg #[.int .i64 0, .int .i64 0, .int .i64 0, .int .i64 1, .int .i64 1], .int .i64 0]) (by rw [hVS]; simp) (hall 7 (by simp))
                  have z8 := hF.get (i := 8) (d := 82) (v := .tuple #[.agg #[.int .i64 0, .int .i64 0, .int .i64 0, .int .i64 1, .int .i64 1], .int .i64 0]) (by rw [hVS]; simp) (hall 8 (by simp))
                  have z9 := hF.get (i := 9) (d := 91) (v := .agg #[.int .i64 0, .int .i64 0, .int .i64 0, .int .i64 1, .int .i64 1]) (by rw [hVS]; simp) (hall 9 (by simp))
                  have z10 := hF.get (i := 10) (d := 92) (v := .int .i64 0) (by rw [hVS]; simp) (hall 10 (by simp))
                  have z13 := hF.get (i := 13) (d := 16) (v := .int .i64 0) (by rw [hVS]; simp) (hall 13 (by simp))
                  have hFW := hF.wd
                  clear hF hVS hUS
                  simp only [List.foldl_cons, List.foldl_nil, Act.put, List.setIfInBounds_toArray, List.set_cons_zero, List.set_cons_succ, z0, z2, z6, z7, z8, z9, z10, z13]
                  clear z0 z2 z6 z7 z8 z9 z10 z13
          
                  obtain ⟨bo, co, qo1, qo2, qo3, qo4⟩ := hFW.c11 (hall 11 (by simp))
                  rw [if_pos (hall 12 (by simp))] at qo4
                  subst qo4
                  have hgo := hFW.gr
                  rw [qo2]
                  clear hFW hall qo2 HCK
                  have HEN := Lib.hid (HE0.out.gr hgo)
                  have HGN2 := Lib.hid (HG0.out.trans hgo)
                  have HUB := Lib.hid qo3
                  clear HE0 HG0 qo1 qo3 hgo W0
                  rename World => W0
                  have HE0 := HEN
                  have HG0 := HGN2
                  clear HEN HGN2
                  go_wp2_with fail
                  have hck : ∀ W' p, NRep anyB 51 W' (twoD p) (wT2 (oneT nm) (oneT nm)) → Calls Try.prog 15 #[.agg #[.int .i64 3, .string ⟨#[]⟩, .string ⟨#[]⟩, .slice (some ⟨p, 0, none⟩) 2 2, .string ⟨#[]⟩], .agg #[.int .i64 usual.d, .int .i64 usual.n, .int .i64 usual.b, .int .i64 usual.a, .int .i64 usual.x]] W' (fun e w' => e = .returned (.tuple #[.agg #[.int .i64 0, .int .i64 0, .int .i64 0, .int .i64 0, .int .i64 0], .int .i64 8]) ∧ Gr W' w') := fun W' p hr => by
                    have h := CheckA_any 51 (twoD p) (wT2 (oneT nm) (oneT nm)) usual W' hr (by have := HGN.out.le; rw [two_len, one_len]; omega) (by rw [two_count, one_count]; omega)
                    rw [w4_law HGN.out] at h
                    exact h
                  have HCK := Lib.hid hck
                  clear hck
                  obtain ⟨VS, hVS⟩ : ∃ VS : List (Nat × Nat × Value), VS = [(0, 94, .agg #[.int .i64 9, .string ⟨#[]⟩, .string (bs (38 :: nm)), .slice (some ⟨z + 1 + 1, 0, none⟩) 1 1, .string ⟨#[]⟩]), (2, 96, .agg #[.int .i64 9, .string ⟨#[]⟩, .string (bs (38 :: nm)), .slice (some ⟨z + 1 + 1, 0, none⟩) 1 1, .string ⟨#[]⟩]), (6, 100, .agg #[.int .i64 usual.d, .int .i64 usual.n, .int .i64 usual.b, .int .i64 usual.a, .int .i64 usual.x]), (7, 101, .tuple #[.agg #[.int .i64 0, .int .i64 0, .int .i64 0, .int .i64 0, .int .i64 0], .int .i64 8]), (8, 93, .tuple #[.agg #[.int .i64 0, .int .i64 0, .int .i64 0, .int .i64 0, .int .i64 0], .int .i64 8]), (9, 102, .agg #[.int .i64 0, .int .i64 0, .int .i64 0, .int .i64 0, .int .i64 0]), (10, 103, .int .i64 8), (13, 18, .int .i64 8)] := ⟨_, rfl⟩
                  obtain ⟨US, hUS⟩ : ∃ US : List (Nat × Value), US = [(7, .pointer (some ⟨z, 0, none⟩)), (8, .pointer (some ⟨z + 1, 0, none⟩)), (9, .pointer (some ⟨z + 1 + 1 + 1, 0, none⟩))] := ⟨_, rfl⟩
                  refine wp_region_frame (by kernel_rfl) (by kernel_rfl) [94, 95, 96, 97, 98, 99, 100, 101, 93, 102, 103, 17, 18] (by simp) (Det VS US (RD W0 (oneT nm) (oneT nm) #[.int .i64 0, .int .i64 0, .int .i64 0, .int .i64 0, .int .i64 0] 95 97 98 99 17)) ?_ ?_ ?_
                  · exact Det.start (by rw [hUS]; simp [slot]) (RD.start ((Gr.refl _).drew))
                  · intro B a' w' i o hfr hF ho hBi hdp
                    have hi8 := (Array.getElem?_eq_some_iff.1 ho).1
                    simp only [List.size_toArray, List.length_cons, List.length_nil] at hi8
                    have hor : i = 0 ∨ i = 1 ∨ i = 2 ∨ i = 3 ∨ i = 4 ∨ i = 5 ∨ i = 6 ∨ i = 7 ∨ i = 8 ∨ i = 9 ∨ i = 10 ∨ i = 11 ∨ i = 12 ∨ i = 13 := by omega
                    clear hi8
                    rcases hor with rfl | rfl | rfl | rfl | rfl | rfl | rfl | rfl | rfl | rfl | rfl | rfl | rfl | rfl
                    all_goals (
                      simp only [List.getElem?_toArray, List.getElem?_cons_zero, List.getElem?_cons_succ, Option.some.injEq] at ho
                      subst ho
                      rw [if_pos (show Region.wanted _ _ = true from rfl)]
                      refine wp_hideK ?_
                      intro K hK)
                    · have hFW := hF.wd
                      have o9 := slot_spell (hF.had (d := 9) (v := .pointer (some ⟨z + 1 + 1 + 1, 0, none⟩)) (by rw [hUS]; simp))
                      have hE1 := HE0.out.gr hFW.gr
                      obtain ⟨k0, k1, k2, k3, k4⟩ := hE1.one.cells
                      have kl := lt_of_block hE1.one
                      simp only [oneD, show bs [] = ⟨#[]⟩ from rfl] at k0 k1 k2 k3 k4
                      go_simp
                      exact hK.out _ _ (close_put hfr (d := 94) (by decide) (by simp) _ (F := fun u => Det VS US (RD W0 (oneT nm) (oneT nm) #[.int .i64 0, .int .i64 0, .int .i64 0, .int .i64 0, .int .i64 0] 95 97 98 99 17) (upB B 0) u _) (hF.step (by rw [hVS]; simp) (by rw [hUS]; simp) (hFW.other (Gr.refl _) hBi (by decide) (by decide))))
                    · have hFW := hF.wd
                      have hB0 : B 0 = true := hdp ⟨0, .data⟩ (by simp) (by rfl)
                      have e0 := slot_spell (hF.get (i := 0) (d := 94) (v := .agg #[.int .i64 9, .string ⟨#[]⟩, .string (bs (38 :: nm)), .slice (some ⟨z + 1 + 1, 0, none⟩) 1 1, .string ⟨#[]⟩]) (by rw [hVS]; simp) hB0)
                      have HFF := Lib.hid hF
                      have HFR := Lib.hid hfr
                      have HFG := Lib.hid hFW
                      have HBI := Lib.hid hBi
                      clear hF hfr hFW hdp hBi
                      go_simp
                      refine (leafW_any (P := anyB) 2 (oneD z nm) (oneT nm) _ (fun _ _ => trivial) (HE0.out.gr HFG.out.gr).oneR).mono ?_
                      rintro e w2 ⟨b, rfl, hr, hb2⟩
                      have hF := HFF.out
                      have hfr := HFR.out
                      have hFW := HFG.out
                      have hBi := HBI.out
                      exact hK.out _ _ (close_put hfr (d := 95) (by decide) (by simp) _ (F := fun u => Det VS US (RD W0 (oneT nm) (oneT nm) #[.int .i64 0, .int .i64 0, .int .i64 0, .int .i64 0, .int .i64 0] 95 97 98 99 17) (upB B 1) u _) (hF.step (by rw [hVS]; simp) (by rw [hUS]; simp) (hFW.step hb2 hBi (by decide) (.inl ⟨rfl, rfl, b, rfl, hr.ups 50 (by omega)⟩) (.inr (by decide)) (.inr (by decide)) (.inr (by decide)) (.inr (by decide)))))
                    · have hFW := hF.wd
                      have o9 := slot_spell (hF.had (d := 9) (v := .pointer (some ⟨z + 1 + 1 + 1, 0, none⟩)) (by rw [hUS]; simp))
                      have hE1 := HE0.out.gr hFW.gr
                      obtain ⟨k0, k1, k2, k3, k4⟩ := hE1.one.cells
                      have kl := lt_of_block hE1.one
                      simp only [oneD, show bs [] = ⟨#[]⟩ from rfl] at k0 k1 k2 k3 k4
                      go_simp
                      exact hK.out _ _ (close_put hfr (d := 96) (by decide) (by simp) _ (F := fun u => Det VS US (RD W0 (oneT nm) (oneT nm) #[.int .i64 0, .int .i64 0, .int .i64 0, .int .i64 0, .int .i64 0] 95 97 98 99 17) (upB B 2) u _) (hF.step (by rw [hVS]; simp) (by rw [hUS]; simp) (hFW.other (Gr.refl _) hBi (by decide) (by decide))))
                    · have hFW := hF.wd
                      have hB2 : B 2 = true := hdp ⟨2, .data⟩ (by simp) (by rfl)
                      have e2 := slot_spell (hF.get (i := 2) (d := 96) (v := .agg #[.int .i64 9, .string ⟨#[]⟩, .string (bs (38 :: nm)), .slice (some ⟨z + 1 + 1, 0, none⟩) 1 1, .string ⟨#[]⟩]) (by rw [hVS]; simp) hB2)
                      have HFF := Lib.hid hF
                      have HFR := Lib.hid hfr
                      have HFG := Lib.hid hFW
                      have HBI := Lib.hid hBi
                      clear hF hfr hFW hdp hBi
                      go_simp
                      refine (leafW_any (P := anyB) 2 (oneD z nm) (oneT nm) _ (fun _ _ => trivial) (HE0.out.gr HFG.out.gr).oneR).mono ?_
                      rintro e w2 ⟨b, rfl, hr, hb2⟩
                      have hF := HFF.out
                      have hfr := HFR.out
                      have hFW := HFG.out
                      have hBi := HBI.out
                      exact hK.out _ _ (close_put hfr (d := 97) (by decide) (by simp) _ (F := fun u => Det VS US (RD W0 (oneT nm) (oneT nm) #[.int .i64 0, .int .i64 0, .int .i64 0, .int .i64 0, .int .i64 0] 95 97 98 99 17) (upB B 3) u _) (hF.step (by rw [hVS]; simp) (by rw [hUS]; simp) (hFW.step hb2 hBi (by decide) (.inr (by decide)) (.inl ⟨rfl, rfl, b, rfl, hr.ups 50 (by omega)⟩) (.inr (by decide)) (.inr (by decide)) (.inr (by decide)))))
                    · have hFW := hF.wd
                      have hB1 : B 1 = true := hdp ⟨1, .data⟩ (by simp) (by rfl)
                      have hB3 : B 3 = true := hdp ⟨3, .data⟩ (by simp) (by rfl)
                      have h12 : B 12 = false := by
                        cases hx : B 12 with
                        | false => rfl
                        | true => exact absurd (hFW.done hx).1 (by rw [hBi]; decide)
                      obtain ⟨b1, q1, r1⟩ := hFW.c1 h12 hB1
                      obtain ⟨b2, q2, r2⟩ := hFW.c3 h12 hB3
                      have t1 := slot_spell q1
                      have t2 := slot_spell q2
                      go_simp
                      exact hK.out _ _ (close_put hfr (d := 98) (by decide) (by simp) _ (F := fun u => Det VS US (RD W0 (oneT nm) (oneT nm) #[.int .i64 0, .int .i64 0, .int .i64 0, .int .i64 0, .int .i64 0] 95 97 98 99 17) (upB B 4) u _) (hF.step (by rw [hVS]; simp) (by rw [hUS]; simp) (hFW.step ((Gr.refl _).alloc _) hBi (by decide) (.inr (by decide)) (.inr (by decide)) (.inl ⟨rfl, rfl, _, rfl, NRep.made2 r1 r2⟩) (.inr (by decide)) (.inr (by decide)))))
                    · have hFW := hF.wd
                      have hB4 : B 4 = true := hdp ⟨4, .data⟩ (by simp) (by rfl)
                      have h12 : B 12 = false := by
                        cases hx : B 12 with
                        | false => rfl
                        | true => exact absurd (hFW.done hx).2.1 (by rw [hBi]; decide)
                      obtain ⟨p, q1, r1⟩ := hFW.c4 h12 hB4
                      have t1 := slot_spell q1
                      go_simp
                      exact hK.out _ _ (close_put hfr (d := 99) (by decide) (by simp) _ (F := fun u => Det VS US (RD W0 (oneT nm) (oneT nm) #[.int .i64 0, .int .i64 0, .int .i64 0, .int .i64 0, .int .i64 0] 95 97 98 99 17) (upB B 5) u _) (hF.step (by rw [hVS]; simp) (by rw [hUS]; simp) (hFW.step (Gr.refl _) hBi (by decide) (.inr (by decide)) (.inr (by decide)) (.inr (by decide)) (.inl ⟨rfl, rfl, _, rfl, r1⟩) (.inr (by decide)))))
                    · have hFW := hF.wd
                      have o7 := slot_spell (hF.had (d := 7) (v := .pointer (some ⟨z, 0, none⟩)) (by rw [hUS]; simp))
                      have hE1 := HE0.out.gr hFW.gr
                      obtain ⟨k0, k1, k2, k3, k4⟩ := hE1.lim.cells
                      have kl := lt_of_block hE1.lim
                      go_simp
                      exact hK.out _ _ (close_put hfr (d := 100) (by decide) (by simp) _ (F := fun u => Det VS US (RD W0 (oneT nm) (oneT nm) #[.int .i64 0, .int .i64 0, .int .i64 0, .int .i64 0, .int .i64 0] 95 97 98 99 17) (upB B 6) u _) (hF.step (by rw [hVS]; simp) (by rw [hUS]; simp) (hFW.other (Gr.refl _) hBi (by decide) (by decide))))
                    · have hFW := hF.wd
                      have hB5 : B 5 = true := hdp ⟨5, .data⟩ (by simp) (by rfl)
                      have hB6 : B 6 = true := hdp ⟨6, .data⟩ (by simp) (by rfl)
                      have e6 := slot_spell (hF.get (i := 6) (d := 100) (v := .agg #[.int .i64 usual.d, .int .i64 usual.n, .int .i64 usual.b, .int .i64 usual.a, .int .i64 usual.x]) (by rw [hVS]; simp) hB6)
                      have h12 : B 12 = false := by
                        cases hx : B 12 with
                        | false => rfl
                        | true => exact absurd (hFW.done hx).2.2 (by rw [hBi]; decide)
                      obtain ⟨p, q1, r1⟩ := hFW.c5 h12 hB5
                      have t1 := slot_spell q1
                      have HR1 := Lib.hid r1
                      clear r1
                      have HFF := Lib.hid hF
                      have HFR := Lib.hid hfr
                      have HFG := Lib.hid hFW
                      have HBI := Lib.hid hBi
                      clear hF hfr hFW hdp hBi
                      go_simp
                      refine (HCK.out _ _ HR1.out).mono ?_
                      rintro e w2 ⟨rfl, hb2⟩
                      have hF := HFF.out
                      have hfr := HFR.out
                      have hFW := HFG.out
                      have hBi := HBI.out
                      exact hK.out _ _ (close_put hfr (d := 101) (by decide) (by simp) _ (F := fun u => Det VS US (RD W0 (oneT nm) (oneT nm) #[.int .i64 0, .int .i64 0, .int .i64 0, .int .i64 0, .int .i64 0] 95 97 98 99 17) (upB B 7) u _) (hF.step (by rw [hVS]; simp) (by rw [hUS]; simp) (hFW.other hb2 hBi (by decide) (by decide))))
                    · have hFW := hF.wd
                      have hB7 : B 7 = true := hdp ⟨7, .data⟩ (by simp) (by rfl)
                      have e7 := slot_spell (hF.get (i := 7) (d := 101) (v := .tuple #[.agg #[.int .i64 0, .int .i64 0, .int .i64 0, .int .i64 0, .int .i64 0], .int .i64 8]) (by rw [hVS]; simp) hB7)
                      go_simp
                      exact hK.out _ _ (close_put hfr (d := 93) (by decide) (by simp) _ (F := fun u => Det VS US (RD W0 (oneT nm) (oneT nm) #[.int .i64 0, .int .i64 0, .int .i64 0, .int .i64 0, .int .i64 0] 95 97 98 99 17) (upB B 8) u _) (hF.step (by rw [hVS]; simp) (by rw [hUS]; simp) (hFW.other (Gr.refl _) hBi (by decide) (by decide))))
                    · have hFW := hF.wd
                      have hB8 : B 8 = true := hdp ⟨8, .data⟩ (by simp) (by rfl)
                      have e8 := slot_spell (hF.get (i := 8) (d := 93) (v := .tuple #[.agg #[.int .i64 0, .int .i64 0, .int .i64 0, .int .i64 0, .int .i64 0], .int .i64 8]) (by rw [hVS]; simp) hB8)
                      go_simp
                      exact hK.out _ _ (close_put hfr (d := 102) (by decide) (by simp) _ (F := fun u => Det VS US (RD W0 (oneT nm) (oneT nm) #[.int .i64 0, .int .i64 0, .int .i64 0, .int .i64 0, .int .i64 0] 95 97 98 99 17) (upB B 9) u _) (hF.step (by rw [hVS]; simp) (by rw [hUS]; simp) (hFW.other (Gr.refl _) hBi (by decide) (by decide))))
                    · have hFW := hF.wd
                      have hB8 : B 8 = true := hdp ⟨8, .data⟩ (by simp) (by rfl)
                      have e8 := slot_spell (hF.get (i := 8) (d := 93) (v := .tuple #[.agg #[.int .i64 0, .int .i64 0, .int .i64 0, .int .i64 0, .int .i64 0], .int .i64 8]) (by rw [hVS]; simp) hB8)
                      go_simp
                      exact hK.out _ _ (close_put hfr (d := 103) (by decide) (by simp) _ (F := fun u => Det VS US (RD W0 (oneT nm) (oneT nm) #[.int .i64 0, .int .i64 0, .int .i64 0, .int .i64 0, .int .i64 0] 95 97 98 99 17) (upB B 10) u _) (hF.step (by rw [hVS]; simp) (by rw [hUS]; simp) (hFW.other (Gr.refl _) hBi (by decide) (by decide))))
                    · have hFW := hF.wd
                      go_simp
                      exact hK.out _ _ (close_put hfr (d := 17) (by decide) (by simp) _ (F := fun u => Det VS US (RD W0 (oneT nm) (oneT nm) #[.int .i64 0, .int .i64 0, .int .i64 0, .int .i64 0, .int .i64 0] 95 97 98 99 17) (upB B 11) u _) (hF.step (by rw [hVS]; simp) (by rw [hUS]; simp) (hFW.step ((Gr.refl _).alloc _) hBi (by decide) (.inr (by decide)) (.inr (by decide)) (.inr (by decide)) (.inr (by decide)) (.inl ⟨rfl, rfl, _, Below.size hFW.gr, rfl, heap_alloc_new _ _⟩))))
                    · have hFW := hF.wd
                      have hB9 : B 9 = true := hdp ⟨9, .data⟩ (by simp) (by rfl)
                      have e9 := slot_spell (hF.get (i := 9) (d := 102) (v := .agg #[.int .i64 0, .int .i64 0, .int .i64 0, .int .i64 0, .int .i64 0]) (by rw [hVS]; simp) hB9)
                      have hB11 : B 11 = true := hdp ⟨11, .data⟩ (by simp) (by rfl)
                      obtain ⟨p, c, q1, q2, q3, q4⟩ := hFW.c11 hB11
                      rw [if_neg (by rw [hBi]; decide)] at q4
                      subst q4
                      have t2 := slot_spell q2
                      have y0 := cell_of_cells q3 0
                      have f0 := free_of_cells q3 0
                      have y1 := cell_of_cells q3 1
                      have f1 := free_of_cells q3 1
                      have y2 := cell_of_cells q3 2
                      have f2 := free_of_cells q3 2
                      have y3 := cell_of_cells q3 3
                      have f3 := free_of_cells q3 3
                      have y4 := cell_of_cells q3 4
                      have f4 := free_of_cells q3 4
                      have pl := lt_of_block q3
                      have p4 : B 4 = true := by first | assumption | exact hdp ⟨4, .phase⟩ (by simp) (by rfl) | exact hdp ⟨4, .chain⟩ (by simp) (by rfl)
                      have p5 : B 5 = true := by first | assumption | exact hdp ⟨5, .phase⟩ (by simp) (by rfl) | exact hdp ⟨5, .chain⟩ (by simp) (by rfl)
                      have p7 : B 7 = true := by first | assumption | exact hdp ⟨7, .phase⟩ (by simp) (by rfl) | exact hdp ⟨7, .chain⟩ (by simp) (by rfl)
                      go_simp
                      exact hK.out _ _ (close_none hfr undef (F := fun u => Det VS US (RD W0 (oneT nm) (oneT nm) #[.int .i64 0, .int .i64 0, .int .i64 0, .int .i64 0, .int .i64 0] 95 97 98 99 17) (upB B 12) u _) (hF.none (by rw [hVS]; simp) (hFW.store hB11 p4 p5 p7 q1 q2 q3 rfl)))
                    · have hFW := hF.wd
                      have hB10 : B 10 = true := hdp ⟨10, .data⟩ (by simp) (by rfl)
                      have e10 := slot_spell (hF.get (i := 10) (d := 103) (v := .int .i64 8) (by rw [hVS]; simp) hB10)
                      go_simp
                      exact hK.out _ _ (close_put hfr (d := 18) (by decide) (by simp) _ (F := fun u => Det VS US (RD W0 (oneT nm) (oneT nm) #[.int .i64 0, .int .i64 0, .int .i64 0, .int .i64 0, .int .i64 0] 95 97 98 99 17) (upB B 13) u _) (hF.step (by rw [hVS]; simp) (by rw [hUS]; simp) (hFW.other (Gr.refl _) hBi (by decide) (by decide))))
                  · intro B u w' hall hF
                    have z0 := hF.get (i := 0) (d := 94) (v := .agg #[.int .i64 9, .string ⟨#[]⟩, .string (bs (38 :: nm)), .slice (some ⟨z + 1 + 1, 0, none⟩) 1 1, .string ⟨#[]⟩]) (by rw [hVS]; simp) (hall 0 (by simp))
                    have z2 := hF.get (i := 2) (d := 96) (v := .agg #[.int .i64 9, .string ⟨#[]⟩, .string (bs (38 :: nm)), .slice (some ⟨z + 1 + 1, 0, none⟩) 1 1, .string ⟨#[]⟩]) (by rw [hVS]; simp) (hall 2 (by simp))
                    have z6 := hF.get (i := 6) (d := 100) (v := .agg #[.int .i64 usual.d, .int .i64 usual.n, .int .i64 usual.b, .int .i64 usual.a, .int .i64 usual.x]) (by rw [hVS]; simp) (hall 6 (by simp))
                    have z7 := hF.get (i := 7) (d := 101) (v := .tuple #[.agg #[.int .i64 0, .int .i64 0, .int .i64 0, .int .i64 0, .int .i64 0], .int .i64 8]) (by rw [hVS]; simp) (hall 7 (by simp))
                    have z8 := hF.get (i := 8) (d := 93) (v := .tuple #[.agg #[.int .i64 0, .int .i64 0, .int .i64 0, .int .i64 0, .int .i64 0], .int .i64 8]) (by rw [hVS]; simp) (hall 8 (by simp))
                    have z9 := hF.get (i := 9) (d := 102) (v := .agg #[.int .i64 0, .int .i64 0, .int .i64 0, .int .i64 0, .int .i64 0]) (by rw [hVS]; simp) (hall 9 (by simp))
                    have z10 := hF.get (i := 10) (d := 103) (v := .int .i64 8) (by rw [hVS]; simp) (hall 10 (by simp))
                    have z13 := hF.get (i := 13) (d := 18) (v := .int .i64 8) (by rw [hVS]; simp) (hall 13 (by simp))
                    have hFW := hF.wd
                    clear hF hVS hUS
                    simp only [List.foldl_cons, List.foldl_nil, Act.put, List.setIfInBounds_toArray, List.set_cons_zero, List.set_cons_succ, z0, z2, z6, z7, z8, z9, z10, z13]
                    clear z0 z2 z6 z7 z8 z9 z10 z13
          
                    obtain ⟨bo, co, qo1, qo2, qo3, qo4⟩ := hFW.c11 (hall 11 (by simp))
                    rw [if_pos (hall 12 (by simp))] at qo4
                    subst qo4
                    have hgo := hFW.gr
                    rw [qo2]
                    clear hFW hall qo2 HCK
                    have HEN := Lib.hid (HE0.out.gr hgo)
                    have HGN2 := Lib.hid (HG0.out.trans hgo)
                    have HUB2 := Lib.hid ((hgo.block _ (lt_of_block HUB.out)).trans HUB.out)
                    clear HUB
                    clear HE0 HG0 qo1 qo3 hgo W0
                    rename World => W0
                    have HE0 := HEN
                    have HG0 := HGN2
                    clear HEN HGN2
                    have y0 := cell_of_cells HUB2.out 0
                    have y1 := cell_of_cells HUB2.out 1
                    have y2 := cell_of_cells HUB2.out 2
                    have y3 := cell_of_cells HUB2.out 3
                    have y4 := cell_of_cells HUB2.out 4
                    have yl := lt_of_block HUB2.out
                    go_wp2_with fail
                    refine (awake_any _).mono ?_
                    rintro e w9 ⟨rfl, hb9⟩
                    go_wp2_with fail
                    go_ret
                    exact ⟨rfl, HG0.out.trans hb9⟩
theorem u8_nat {k : Int} (h : (Lit.int .u8 k).wf = true) : ∃ n : Nat, k = n ∧ n ≤ 255 := by
  have h2 : IntKind.u8.min = 0 := by rfl
  have h3 : IntKind.u8.max = 255 := by rfl
  simp only [Lit.wf, h2, h3, Bool.and_eq_true, decide_eq_true_eq] at h
  exact ⟨k.toNat, by omega, by omega⟩
namespace AnchorWithin
set_option maxRecDepth 100000 in
theorem lifted (os : Os) (started : os.Started) (H : Type) (enc : TypeId × Value → H) :
    ReturnsInHanded {} Try.checked os 6 .any (Rows.anchorWithinSpec.pre6 enc Try.prog Try.f6 Rows.anchorWithinRow.domain false) (Rows.anchorWithinSpec.post enc Try.prog Try.f6 false true false false) := by
  refine law_lifted (C := Try.checked) (tb := 4) own started (by kernel_rfl) Try.func6 laidOut rfl rfl Try.underlying4 (by kernel_rfl) ?_
    (ChangeSpec.witness6 (enc := enc) (C := Try.checked) false ⟨#[], #[.slice none 0 0, .int .u8 0], []⟩ 8 (by kernel_rfl) (by kernel_rfl) (by kernel_rfl) (by kernel_rfl)) ?_
  · intro ds hl
    match ds, hl with
    | [_, _], _ => rfl
  · intro W base args ds ps hval0 hA0 hlt
    have hval : ∀ (j : Nat) t v, Try.f6.params[j]? = some t → args[j]? = some v → Value.okWide Try.prog W .any base t v := hval0
    have hA : DataW.TrodAll enc Try.prog W 0 (fun _ => true) true Try.f6.params.toList args.toList ds ps := hA0
    rw [Try.params6] at hA hval
    obtain ⟨v0, v1, d0, d1, p0, p1, rfl, rfl, rfl, h0, h1⟩ := trodAll_two hA
    obtain ⟨Av0, lenv0, capv0, rfl⟩ := okWide_slice Try.underlying47 (hval 0 47 v0 rfl rfl)
    obtain ⟨nv0, hrv0⟩ := Rd.of_trod h0
    obtain ⟨A', len', cap', zsv0, hcs, hlcv0, hcmv0, hzv0⟩ := rd_intslice Try.underlying47 Try.underlying5 (by kernel_rfl) hrv0
    simp only [Value.cells, List.cons.injEq, Value.slice.injEq, and_true] at hcs
    obtain ⟨rfl, rfl, rfl⟩ := hcs
    obtain ⟨kk, rfl, rfl, rfl, wk⟩ := open_int Try.underlying5 (hval 1 5 v1 rfl rfl) h1
    obtain ⟨deep, rfl, hdeep⟩ := u8_nat wk
    exact within_any Av0 lenv0 capv0 zsv0 deep W (Lib.hid hzv0) (by omega) hdeep

theorem proved : Rows.AnchorWithinSaid :=
  OpenClaim.holds_of_wide 6 Try.f6 rfl rfl rfl rfl rfl rfl rfl ⟨rfl, rfl, rfl, rfl, rfl⟩ rfl rfl rfl rfl rfl (by kernel_rfl) Try.func6 (by kernel_rfl)
    (of_decide_eq_true (by kernel_rfl)) (by unfold Func.isWrapper; first | (rw [if_pos (by decide +kernel)]; kernel_rfl) | (rw [if_neg (by decide +kernel)]; exact ⟨rfl, rfl⟩))
    (fun os started H enc _ => lifted os started H enc)
end AnchorWithin
end Go.Proofs.Ytbfnmgiccbdglaa
