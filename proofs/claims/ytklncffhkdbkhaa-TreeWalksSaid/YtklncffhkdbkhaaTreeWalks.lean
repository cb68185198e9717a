/- TreeWalks returns true for every input: the descendants in order, each with its indices, as many as one asks for. No condition. -/
import Derived.Test.YtklncffhkdbkhaaTrWalkS
import Derived.Test.YtklncffhkdbkhaaTrWalkRef
import Derived.Test.YtklncffhkdbkhaaTreeGets
namespace Go.Proofs.Ytklncffhkdbkhaa
open Go.ChangeShapes Go.WideShapes Go.ChangeAt Go.RowKit
open Go.Shelf
attribute [local go_sem] Oper.semAt_some

theorem results_bool {fn : Func} {a : Tmp} (h : fn.results = #[.cell a 4]) (tmps : Array Value) (w : World) (b : Nat) (v : Value) (ht : tmps.getD a undef = .pointer (some ⟨b, 0, none⟩)) (hc : w.cell? ⟨b, 0, none⟩ = some v) : (Go.results fn tmps).run Try.prog w = .ok v w := by
  simp only [Array.getD_eq_getD_getElem?] at ht
  simp [Go.results, h, ht, asAddr, loadVar, isAgg, run_underlying Try.underlying4, hc]
theorem run_eql_func (fn : Fn) (fi ca : Array Value) (w : World) : (binOp .eql 28 (.func fn fi ca) .nilFunc).run Try.prog w = .ok (.bool false) w := by
  have h : ∀ d, (Op.equalIn (d + 1) 28 (.func fn fi ca) .nilFunc).run Try.prog w = .ok false w := fun d => by
    simp [Op.equalIn, run_underlying Try.underlying28]
  have h2 : (Op.equal 28 (.func fn fi ca) .nilFunc).run Try.prog w = .ok false w := h 9999
  show (do pure (Value.bool (← Op.equal 28 (.func fn fi ca) .nilFunc)) : Sem Value).run Try.prog w = _
  simp [h2]
set_option maxRecDepth 100000 in
set_option maxHeartbeats 4000000 in
theorem treeWalks_out (v : ND) (most : Nat) (w : World) (HF : Hid (∀ w', Gr w w' → Calls Try.prog 10 #[.agg #[.int .i64 v.k, .string (bs v.l), .string (bs v.x), .slice v.A v.n v.c, .string (bs v.e)]] w' (RB false w'))) : Calls Try.prog 3 #[.agg #[.int .i64 v.k, .string (bs v.l), .string (bs v.x), .slice v.A v.n v.c, .string (bs v.e)], .int .u8 most] w (RB true w) := by
  refine (callsIn_wide (n := 3)).1 ?_
  refine callsIn_of_wp_marks Try.func3 rfl trivial ?_ rfl
  simp only [Try.ntmps3, List.size_toArray, List.length_cons, List.length_nil, Nat.reduceAdd, Nat.reduceSub, Array.replicate_succ, Array.replicate_zero, List.push_toArray, List.append_toArray, List.nil_append, List.cons_append]
  refine wpIn_wide.2 ?_
  go_wp2_with fail
  refine (HF.out _ (((Gr.refl w).alloc _).alloc _)).mono ?_
  rintro e w1 ⟨rfl, hb1⟩
  have hg1 : Gr w w1 := (((Gr.refl w).alloc _).alloc _).trans hb1
  have HB : Hid (Boxed w1 (w.heap.size + 1) 4 (.bool false)) := Lib.hid ((hb1.block _ (by simp)).trans (by
    have h := heap_alloc_new (w.alloc (.cells #[.int .i64 v.k, .string (bs v.l), .string (bs v.x), .slice v.A v.n v.c, .string (bs v.e)] 24)) (.cells #[.bool false] 4)
    have hz : (w.alloc (.cells #[.int .i64 v.k, .string (bs v.l), .string (bs v.x), .slice v.A v.n v.c, .string (bs v.e)] 24)).heap.size = w.heap.size + 1 := by simp
    rw [hz] at h
    exact h))
  go_wp2_with fail
  refine (livesP_any _).mono ?_
  rintro e w2 ⟨rfl, hb2⟩
  have hg2 : Gr w w2 := hg1.trans hb2
  have HB2 : Hid (Boxed w2 (w.heap.size + 1) 4 (.bool false)) := Lib.hid ((hb2.block _ HB.out.lt).trans HB.out)
  have c1 := HB2.out.cell
  have f1 := HB2.out.frozen
  go_wp2_with fail
  have hb9 := Boxed.set (.bool true) HB2.out
  exact ⟨_, results_bool rfl _ _ _ _ rfl hb9.cell, rfl, hg2.setCell (by first | (simp; done) | (simp; omega)) _⟩
structure WI (S0 g : Nat) (w : World) (v : ND) (L : Nat) (lm : Nat) (wvs : List Value) (t : NT) (k : Nat) (W : World) : Prop where
  bx : NBox W w.heap.size v
  rc : Boxed W (w.heap.size + 1) 4 (.bool false)
  lim : Boxed W lm 3 (.int .i64 (L : Nat))
  got : ∃ gv vs, Boxed W (lm + 1) 30 gv ∧ W.ownsRow S0 32 1 gv k vs ∧ RowsP W vs ((refF t).take k)
  want : ∀ (i : Nat) (u : Value), wvs[i]? = some u → W.cell? ⟨g, i, none⟩ = some u
  wrow : RowsP W wvs (refF t)
  gr : Gr w W
  sz : lm + 1 + 1 + 1 ≤ W.heap.size
theorem WI.from_cells {S0 g : Nat} {w : World} {v : ND} {L lm : Nat} {wvs : List Value} {t : NT} {k : Nat} {W W' : World} (h : WI S0 g w v L lm wvs t k W) (hk : ∀ (b : Nat) (cs : Array Value) (T : TypeId) (fr : Nat × Nat), W.heap[b]? = some (.cells cs T fr) → W'.heap[b]? = some (.cells cs T fr)) (hg : Gr w W') (hs : W.heap.size ≤ W'.heap.size) : WI S0 g w v L lm wvs t k W' := by
  obtain ⟨gv, vs, g1, g2, g3⟩ := h.got
  refine ⟨hk _ _ _ _ h.bx, hk _ _ _ _ h.rc, hk _ _ _ _ h.lim, ⟨gv, vs, hk _ _ _ _ g1, own_same g2 (fun b hb => ?_), g3.keep (fun _ _ _ hb => hk _ _ _ _ hb)⟩, fun i u hu => ?_, h.wrow.keep (fun _ _ _ hb => hk _ _ _ _ hb), hg, Nat.le_trans h.sz hs⟩
  · rcases g2.2 with ⟨rfl, _⟩ | ⟨b', cap, cur, rfl, _, hb', _⟩
    · simp [Value.ownBlock] at hb
    · obtain rfl : b' = b := by simpa [Value.ownBlock] using hb
      rw [hb', hk _ _ _ _ hb']
  · have hc := h.want i u hu
    unfold World.cell? at hc ⊢
    split at hc
    · rename_i cs T fr hh
      rw [hk _ _ _ _ hh]
      exact hc
    · cases hc
theorem cells_of_from {B : Nat} {A A' : World} {row : Option Nat} (hg : A.grownBy A' row) (hr : ∀ r, row = some r → B ≤ r ∧ ∃ o : Obj, A.heap[r]? = some o ∧ o.isCells = false) : ∀ (b : Nat) (cs : Array Value) (T : TypeId) (fr : Nat × Nat), A.heap[b]? = some (.cells cs T fr) → A'.heap[b]? = some (.cells cs T fr) :=
  fun _ _ _ _ hb => (grownBy_keeps_cells hg (fun r e => (hr r e).2) hb rfl).trans hb
theorem WI.own {B S0 g : Nat} {w : World} {v : ND} {L lm : Nat} {wvs : List Value} {t : NT} (hB : w.heap.size ≤ B) (Pr : List WX → Prop) : OwnFrom B (fun (pre : List WX) W => WI S0 g w v L lm wvs t pre.length W ∧ Pr pre) :=
  fun _pre A A' row hs hg hr => ⟨hs.1.from_cells (cells_of_from hg hr) (ownFrom_below (β := Unit) (Nat.le_refl _) hB () A A' row hs.1.gr hg hr) hg.size, hs.2⟩
/-- What holds of the element in the round. -/
def AxP (B : Nat) (t : NT) (FR : WX → Nat → Act) (pre : List WX) (x : WX) (a : Act) (W : World) : Prop :=
  ∃ b, B ≤ b ∧ a = FR x b ∧ NBox W b x.d ∧ OkW (walkN t []) pre x W
theorem OkW.from_cells {L : List (List Int × NT)} {pre : List WX} {x : WX} {W W' : World} (h : OkW L pre x W) (hs : W.heap.size ≤ W'.heap.size) (hk : ∀ (b : Nat) (cs : Array Value) (T : TypeId) (fr : Nat × Nat), W.heap[b]? = some (.cells cs T fr) → W'.heap[b]? = some (.cells cs T fr)) : OkW L pre x W' :=
  ⟨h.1, h.2.1.keep (fun _ _ _ hb => hk _ _ _ _ hb), (NRep.keepT (B := W.heap.size) ⟨hs, fun b cs T fr _ hb => hk b cs T fr hb⟩ _ _ _ h.2.2.lt).mono (fun _ _ => trivial)⟩
theorem Gr.keepsFrom {W W' : World} (h : Gr W W') (B : Nat) : KeepsFrom B W W' := ⟨Below.size h, fun k _ _ hk _ => (h.block k (Array.getElem?_eq_some_iff.1 hk).1).trans hk⟩
/-- What the round's append leaves: the boxes, the rows, whatever is no row. -/
theorem round_end {lm g : Nat} {w : World} {v : ND} {L : Nat} {wvs : List Value} {t : NT} {p : Nat} {W w6 w7 : World} {gv v' : Value} {vs : List Value} {A : Option Addr} {n c : Nat} {zs : List Int} {s : NT} {tmp : Obj}
    (hI : WI (lm + 1) g w v L lm wvs t p W) (hG : Gr W w6) (hgl : g < lm) (hwl : w.heap.size + 1 < lm) (hbox : Boxed w6 (lm + 1) 30 gv) (hrow : w6.ownsRow (lm + 1) 32 1 gv p vs) (hrv : RowsP W vs ((refF t).take p))
    (hxg : (walkN t [])[p]? = some (zs, s)) (hxr : RowI W A n c zs)
    (hgrow : (w6.alloc tmp).grownBy w7 gv.ownBlock) (h2 : Boxed (w7.setCell ⟨lm + 1, 0, none⟩ v') (lm + 1) 30 v') (h3 : (w7.setCell ⟨lm + 1, 0, none⟩ v').ownsRow (lm + 1) 32 1 v' (p + 1) (vs ++ [.slice A n c]))
    (h4 : KeepsOthers w6 (w7.setCell ⟨lm + 1, 0, none⟩ v')) (h5 : Below (lm + 1) w6 (w7.setCell ⟨lm + 1, 0, none⟩ v')) :
    KeepsFrom (lm + 1 + 1 + 1) W (w7.setCell ⟨lm + 1, 0, none⟩ v') ∧ KeepT w.heap.size W (w7.setCell ⟨lm + 1, 0, none⟩ v') ∧ WI (lm + 1) g w v L lm wvs t (p + 1) (w7.setCell ⟨lm + 1, 0, none⟩ v') := by
  have hsz := Below.size hG
  have h6 : w.heap.size ≤ w6.heap.size := Nat.le_trans (Below.size hI.gr) hsz
  have hcells : ∀ (b : Nat) (cs : Array Value) (T : TypeId) (fr : Nat × Nat), b < lm + 1 ∨ (T ≠ 32 ∧ T ≠ 30) → w6.heap[b]? = some (.cells cs T fr) → (w7.setCell ⟨lm + 1, 0, none⟩ v').heap[b]? = some (.cells cs T fr) := by
    intro b cs T fr hb hc
    rcases hb with hb | ⟨hb1, hb2⟩
    · exact (h5.block b hb).trans hc
    · have hne : b ≠ lm + 1 := fun he => by
        subst he
        rw [show w6.heap[lm + 1]? = _ from hbox] at hc
        simp only [Option.some.injEq, Obj.cells.injEq] at hc
        exact hb2 hc.2.1.symm
      have hc1 : (w6.alloc tmp).heap[b]? = some (.cells cs T fr) := (heapOld (lt_of_block hc)).trans hc
      have hc2 := (hgrow.block b (lt_of_block hc1) (fun he => own_type hrow hc hb1 he.symm)).trans hc1
      exact (heap_set_other hne).trans hc2
  have hKT : KeepT w.heap.size w6 (w7.setCell ⟨lm + 1, 0, none⟩ v') := ⟨h5.size, fun b cs T fr hb hc => hcells b cs T fr (hb.imp (fun h => by omega) id) hc⟩
  have hints : ∀ (b : Nat) (cs : Array Value) (fr : Nat × Nat), W.heap[b]? = some (.cells cs 3 fr) → (w7.setCell ⟨lm + 1, 0, none⟩ v').heap[b]? = some (.cells cs 3 fr) :=
    fun b cs fr hb => hcells b cs _ fr (.inr ⟨by decide, by decide⟩) ((hG.block b (lt_of_block hb)).trans hb)
  have hlow : ∀ b, b < lm + 1 → b < W.heap.size → (w7.setCell ⟨lm + 1, 0, none⟩ v').heap[b]? = W.heap[b]? := fun b hb hw => (h5.block b hb).trans (hG.block b hw)
  have hzn := hxr.1
  have hts : (refF t)[p]? = some zs := by
    rw [← walkN_refs, List.getElem?_map, hxg]; rfl
  refine ⟨(hG.keepsFrom _).trans (h4.from _), (KeepT.gr hG).trans hKT, ⟨?_, ?_, ?_, ⟨v', _, h2, h3, ?_⟩, fun i u hu => ?_, hI.wrow.keep hints, ?_, ?_⟩⟩
  · exact (hlow _ (by omega) (lt_of_block hI.bx)).trans hI.bx
  · exact (hlow _ (by omega) hI.rc.lt).trans hI.rc
  · exact (hlow _ (by omega) hI.lim.lt).trans hI.lim
  · rw [List.take_add_one, hts]
    have h := ((hrv.snoc (A := A) (c := c) (zs := zs) (by rw [hzn]; exact hxr)).keep hints)
    rw [hzn] at h
    exact h
  · have h := hI.want i u hu
    have hb := World.block_lt_of_cell? _ _ h
    simp only at hb
    have he := hlow g (by omega) hb
    simp only [World.cell?, he] at h ⊢
    exact h
  · exact (show Below w.heap.size w w6 from hI.gr.trans hG).trans (h5.mono (by omega))
  · have := hI.sz
    have := h5.size
    omega
theorem AxP.own {B : Nat} {t : NT} {FR : WX → Nat → Act} {pre : List WX} {x : WX} {a : Act} : OwnFrom B (fun (_ : Unit) W => AxP B t FR pre x a W) := by
  rintro _ A A' row ⟨b, hb, ha, hn, ho⟩ hg hr
  have hk := cells_of_from hg hr
  exact ⟨b, hb, ha, hk _ _ _ _ hn, ho.from_cells hg.size hk⟩
set_option maxRecDepth 100000 in
set_option maxHeartbeats 4000000 in
theorem treeWalks_in (m : Nat) (v : ND) (t : NT) (most : Nat) (w : World) (HR : Hid (NRep anyB m w v t)) (HC : Hid (countF t ≤ 400 ∧ depthF t ≤ 240)) (hm : most ≤ 255) (HF : Hid (∀ w', Gr w w' → Calls Try.prog 10 #[.agg #[.int .i64 v.k, .string (bs v.l), .string (bs v.x), .slice v.A v.n v.c, .string (bs v.e)]] w' (RB true w'))) : Calls Try.prog 3 #[.agg #[.int .i64 v.k, .string (bs v.l), .string (bs v.x), .slice v.A v.n v.c, .string (bs v.e)], .int .u8 most] w (RB true w) := by
  refine (callsIn_wide (n := 3)).1 ?_
  refine callsIn_of_wp_marks Try.func3 rfl trivial ?_ rfl
  simp only [Try.ntmps3, List.size_toArray, List.length_cons, List.length_nil, Nat.reduceAdd, Nat.reduceSub, Array.replicate_succ, Array.replicate_zero, List.push_toArray, List.append_toArray, List.nil_append, List.cons_append]
  refine wpIn_wide.2 ?_
  go_wp2_with fail
  refine (HF.out _ (((Gr.refl w).alloc _).alloc _)).mono ?_
  rintro e w1 ⟨rfl, hb1⟩
  have hg1 : Gr w w1 := (((Gr.refl w).alloc _).alloc _).trans hb1
  have HBX1 : Hid (NBox w1 w.heap.size v) := Lib.hid (((show NBox (w.alloc (.cells #[.int .i64 v.k, .string (bs v.l), .string (bs v.x), .slice v.A v.n v.c, .string (bs v.e)] 24)) w.heap.size v from heap_alloc_new w (.cells #[.int .i64 v.k, .string (bs v.l), .string (bs v.x), .slice v.A v.n v.c, .string (bs v.e)] 24)).gr ((Gr.refl _).alloc (.cells #[.bool false] 4))).gr hb1)
  have HB1 : Hid (Boxed w1 (w.heap.size + 1) 4 (.bool false)) := Lib.hid ((hb1.block _ (by simp)).trans (by
    have h := heap_alloc_new (w.alloc (.cells #[.int .i64 v.k, .string (bs v.l), .string (bs v.x), .slice v.A v.n v.c, .string (bs v.e)] 24)) (.cells #[.bool false] 4)
    have hz : (w.alloc (.cells #[.int .i64 v.k, .string (bs v.l), .string (bs v.x), .slice v.A v.n v.c, .string (bs v.e)] 24)).heap.size = w.heap.size + 1 := by simp
    rw [hz] at h
    exact h))
  clear hb1
  obtain ⟨k0, k1, k2, k3, k4⟩ := HBX1.out.cells
  have hlb := lt_of_block HBX1.out
  have hlr := HB1.out.lt
  go_wp2_with fail
  refine (callsIn_wide.1 (walkP_in 3 v w1)).mono ?_
  rintro e w2 ⟨rfl, rfl⟩
  go_wp2_with fail
  simp only [run_eql_func]
  have hrw : Hid (NRep anyB m (w1.alloc (.cells #[.int .i64 v.k, .string (bs v.l), .string (bs v.x), .slice v.A v.n v.c, .string (bs v.e)] 24)) v t) := Lib.hid ((HR.out.gr hg1).gr ((Gr.refl _).alloc _))
  go_wp2_with fail
  refine (walkRP_any m v t _ hrw.out (Nat.le_trans HC.out.1 (by decide)) (Nat.le_trans HC.out.2 (by decide))).mono ?_
  rintro e w3 ⟨g, n, c, vs, rfl, hgw, hn, hnc, hcm, hgl, hvs, hrows, hb3⟩
  have hn4 : n ≤ 400 := by rw [hn]; exact HC.out.1
  have hn1 : 0 < n := by rw [hn]; exact countF_pos t
  have HN := Lib.hid hn
  have HVS := Lib.hid hvs
  have HROWS := Lib.hid hrows
  obtain ⟨L, hL⟩ : ∃ L, L = most % n + 1 := ⟨_, rfl⟩
  have hL1 : 1 ≤ L := by omega
  have hLn : L ≤ n := by have := Nat.mod_lt most hn1; omega
  have hLE : wrap64 ((most : Int) % (n : Int) + 1) = (L : Int) := by
    rw [hL]; unfold wrap64; omega
  clear hn hvs hrows hL
  have hn0 : ((n : Int) = 0) = False := by simp; omega
  have hg3 : Gr w w3 := hg1.trans (((Gr.refl _).alloc _).trans hb3)
  have HBX3 : Hid (NBox w3 w.heap.size v) := Lib.hid ((HBX1.out.gr ((Gr.refl _).alloc _)).gr hb3)
  have HB3 : Hid (Boxed w3 (w.heap.size + 1) 4 (.bool false)) := Lib.hid (((((Gr.refl w1).alloc (.cells #[.int .i64 v.k, .string (bs v.l), .string (bs v.x), .slice v.A v.n v.c, .string (bs v.e)] 24)).trans hb3).block _ hlr).trans HB1.out)
  clear hb3 k0 k1 k2 k3 k4 hlb hlr
  obtain ⟨k0, k1, k2, k3, k4⟩ := HBX3.out.cells
  have hlb := lt_of_block HBX3.out
  go_wp2_with fail
  refine (callsIn_wide.1 (walkP_in 3 v _)).mono ?_
  rintro e w9 ⟨rfl, rfl⟩
  obtain ⟨S, hS⟩ : ∃ S, S = (((w3.alloc (.cells #[.int .i64 (L : Nat)] 3)).alloc (.cells #[.slice none 0 0] 30)).alloc (.cells #[.int .i64 v.k, .string (bs v.l), .string (bs v.x), .slice v.A v.n v.c, .string (bs v.e)] 24)) := ⟨_, rfl⟩
  have hSz : S.heap.size = w3.heap.size + 1 + 1 + 1 := by rw [hS]; simp
  have hGS : Gr w3 S := by rw [hS]; exact ((((Gr.refl w3).alloc _).alloc _).alloc _)
  have hlimS : Boxed S w3.heap.size 3 (.int .i64 (L : Nat)) := by
    rw [hS]
    exact ((Boxed.new w3 _ _).alloc _).alloc _
  have hgotS : Boxed S (w3.heap.size + 1) 30 (.slice none 0 0) := by
    have h := (Boxed.new (w3.alloc (.cells #[.int .i64 (L : Nat)] 3)) 30 (.slice none 0 0)).alloc (.cells #[.int .i64 v.k, .string (bs v.l), .string (bs v.x), .slice v.A v.n v.c, .string (bs v.e)] 24)
    rw [hS]
    simpa using h
  have hbnS : NBox S (w3.heap.size + 1 + 1) v := by
    have h := heap_alloc_new ((w3.alloc (.cells #[.int .i64 (L : Nat)] 3)).alloc (.cells #[.slice none 0 0] 30)) (.cells #[.int .i64 v.k, .string (bs v.l), .string (bs v.x), .slice v.A v.n v.c, .string (bs v.e)] 24)
    have hz : ((w3.alloc (.cells #[.int .i64 (L : Nat)] 3)).alloc (.cells #[.slice none 0 0] 30)).heap.size = w3.heap.size + 1 + 1 := by simp
    rw [hz] at h
    rw [hS]
    exact h
  go_wp2_with fail
  rw [← hS]
  refine (wpIn_wide (n := 3)).1 ?_
  have hwS : Gr w S := hg3.trans hGS
  have hls := Below.size hwS
  have hws3 := Below.size hg3
  have hst := walks_ok (3 - 1) w.heap.size (w3.heap.size + 1 + 1) m v t S hbnS (NRep.keepT (KeepT.gr hwS) m v t HR.out.lt) (Nat.le_trans HC.out.2 (by decide)) (Nat.le_trans HC.out.1 (by decide))
  have hwl : w.heap.size + 1 < w3.heap.size := HB3.out.lt
  clear hS hbnS k0 k1 k2 k3 k4 hlb
  refine range_told rfl (enters_of Try.func38 (by kernel_rfl) rfl) hst KeepT.trans (fun W l o o' h hc => KeepT.put W l o o' h hc) (Below.refl _ _) (fun _ => rfl)
    (fun pre W => WI (w3.heap.size + 1) g w v L w3.heap.size vs t pre.length W ∧ pre.length < L)
    (fun q pre W => WI (w3.heap.size + 1) g w v L w3.heap.size vs t pre.length W ∧ (pre.length = L ∧ q = .exit 0))
    (WI.own hls _) (fun q => WI.own hls _)
    ⟨⟨HBX3.out.gr hGS, (hGS.block _ HB3.out.lt).trans HB3.out, hlimS, ⟨.slice none 0 0, [], hgotS, ⟨rfl, .inl ⟨rfl, rfl⟩⟩, rfl, fun i u zs hu => by simp at hu⟩, fun i u hu => (Gr.cell hGS (HVS.out i u hu)), HROWS.out.gr hGS, hwS, Nat.le_of_eq hSz.symm⟩, hL1⟩
    (fun pre x a W => AxP (w3.heap.size + 1 + 1 + 1) t (fun x b => { tmps := (.agg #[.int .i64 v.k, .string (bs v.l), .string (bs v.x), .slice v.A v.n v.c, .string (bs v.e)] :: .int .u8 most :: .pointer (some ⟨w.heap.size, 0, none⟩) :: undef :: .pointer (some ⟨w.heap.size + 1, 0, none⟩) :: .slice (some ⟨g, 0, none⟩) n c :: .pointer (some ⟨w3.heap.size, 0, none⟩) :: .pointer (some ⟨w3.heap.size + 1, 0, none⟩) :: .slice x.A x.n x.c :: .pointer (some ⟨b, 0, none⟩) :: undef :: undef :: undef :: .agg #[.int .i64 v.k, .string (bs v.l), .string (bs v.x), .slice v.A v.n v.c, .string (bs v.e)] :: .bool true :: .bool false :: undef :: .agg #[.int .i64 v.k, .string (bs v.l), .string (bs v.x), .slice v.A v.n v.c, .string (bs v.e)] :: .func (.func 38) #[] #[.pointer (some ⟨w1.heap.size, 0, none⟩)] :: .bool false :: .agg #[.int .i64 v.k, .string (bs v.l), .string (bs v.x), .slice v.A v.n v.c, .string (bs v.e)] :: .slice (some ⟨g, 0, none⟩) n c :: .int .u8 most :: .int .i64 most :: .slice (some ⟨g, 0, none⟩) n c :: .int .i64 n :: .int .i64 (most % n : Int) :: .int .i64 (L : Nat) :: .agg #[.int .i64 v.k, .string (bs v.l), .string (bs v.x), .slice v.A v.n v.c, .string (bs v.e)] :: .func (.func 38) #[] #[.pointer (some ⟨w3.heap.size + 1 + 1, 0, none⟩)] :: .slice x.A x.n x.c :: .agg #[.int .i64 x.d.k, .string (bs x.d.l), .string (bs x.d.x), .slice x.d.A x.d.n x.d.c, .string (bs x.d.e)] :: undef :: undef :: undef :: undef :: undef :: undef :: undef :: undef :: undef :: undef :: undef :: undef :: undef :: undef :: undef :: undef :: undef :: undef :: undef :: undef :: undef :: undef :: undef :: undef :: undef :: undef :: undef :: undef :: undef :: undef :: undef :: undef :: undef :: undef :: undef :: undef :: undef :: undef :: undef :: undef :: undef :: undef :: undef :: undef :: undef :: undef :: undef :: undef :: undef :: []).toArray, defers := [] }) pre x a W)
    (fun pre x a => ?ax) ?assign ?body ?done ?stop
  case ax => exact hSz ▸ AxP.own
  case assign =>
    intro l pre x W K hI hok hK
    have hgr : Gr W (W.alloc (.cells #[.int .i64 x.d.k, .string (bs x.d.l), .string (bs x.d.x), .slice x.d.A x.d.n x.d.c, .string (bs x.d.e)] 24)) := (Gr.refl _).alloc _
    unfold encW
    gi_wp2
    refine hK _ _ ((KeepsOthers.alloc _ _).from _) (KeepT.gr hgr) ⟨hI.1.from_cells (fun b cs T fr hb => (hgr.block b (lt_of_block hb)).trans hb) (hI.1.gr.trans hgr) (Below.size hgr), hI.2⟩ ⟨W.heap.size, hI.1.sz, rfl, heap_alloc_new W _, hok.from_cells (Below.size hgr) (fun b cs T fr hb => (hgr.block b (lt_of_block hb)).trans hb)⟩
  case body =>
    rintro l pre x a' W ⟨hI, hlt⟩ ⟨b, hb, rfl, hxb, hxg, hxr, hxn⟩
    obtain ⟨p, hp⟩ : ∃ p, p = pre.length := ⟨_, rfl⟩
    rw [← hp] at hI hlt hxg
    have HP := Lib.hid hp
    clear hp
    have HI := Lib.hid hI
    obtain ⟨gv, vs', g1, g2, g3⟩ := hI.got
    obtain ⟨A8, c8, rfl⟩ : ∃ A c, gv = .slice A p c := by
      rcases g2.2 with ⟨rfl, h0⟩ | ⟨g', cap, cur, rfl, _⟩
      · exact ⟨none, 0, by rw [h0]⟩
      · exact ⟨_, _, rfl⟩
    have G1 := Lib.hid g1
    have G2 := Lib.hid g2
    have G3 := Lib.hid g3
    have HXG := Lib.hid hxg
    have HXR := Lib.hid hxr
    have HXN := Lib.hid hxn
    have HXB := Lib.hid hxb
    have gc := g1.cell
    have gl := g1.lt
    have lc := hI.lim.cell
    have ll := hI.lim.lt
    obtain ⟨k0, k1, k2, k3, k4⟩ := hI.bx.cells
    have hlb := lt_of_block hI.bx
    have hpl : ((L : Int) ≤ (p : Int)) = False := by simp; omega
    clear g1 g2 g3 hxg hxr hxn hxb hI
    have hxn64 : x.n ≤ 9223372036854775807 := by
      have h1 := HXR.out.2.1
      have h2 := HXR.out.2.2.1
      unfold maxLen at h2
      omega
    have hcall := getRP_any m v t x.A x.n x.c x.zs W (HR.out.gr HI.out.gr) HXR.out.ints hxn64
    rw [walk_got HXG.out] at hcall
    have HCALL := Lib.hid hcall
    clear hcall hxn64
    gi_wp2
    refine ⟨trivial, ((callsIn_wide.2 HCALL.out).inRound l).mono ?_⟩
    rintro e w5 ⟨m5, d5, rfl, hr5, hb5⟩
    simp only [Option.isSome_some, Option.getD_some] at hr5 ⊢
    clear HCALL
    have HR5 := Lib.hid hr5
    have HB5 := Lib.hid hb5
    have hsz5 := Below.size hb5
    obtain ⟨q0, q1, q2, q3, q4⟩ := (NBox.gr HXB.out hb5).cells
    have hqb := lt_of_block (NBox.gr HXB.out hb5)
    have gc5 := (Boxed.kept G1.out hb5.grown (by simp)).cell
    have lc5 := (Boxed.kept HI.out.lim hb5.grown (by simp)).cell
    have gl5 := (Boxed.kept G1.out hb5.grown (by simp)).lt
    have ll5 := (Boxed.kept HI.out.lim hb5.grown (by simp)).lt
    clear hr5 hb5 k0 k1 k2 k3 k4 hlb gc gl lc ll
    have hcall := sameRP_any (max x.m m5) x.d x.t d5 x.t true (w5.alloc (.cells #[.int .i64 d5.k, .string (bs d5.l), .string (bs d5.x), .slice d5.A d5.n d5.c, .string (bs d5.e)] 24)) ((((HXN.out).gr HB5.out).gr ((Gr.refl _).alloc _)).ups _ (Nat.le_max_left x.m m5)) ((HR5.out.gr ((Gr.refl _).alloc _)).ups _ (Nat.le_max_right x.m m5)) (sameF_refl x.t)
    have HCALL := Lib.hid hcall
    clear hcall
    gi_wp2
    refine ⟨trivial, ((callsIn_wide.2 HCALL.out).inRound l).mono ?_⟩
    rintro e w6 ⟨rfl, hb6⟩
    clear HCALL q0 q1 q2 q3 q4 hqb gc5 lc5 gl5 ll5
    have hg6 : Gr W w6 := HB5.out.trans (((Gr.refl _).alloc _).trans hb6)
    have HG6 := Lib.hid hg6
    have hg1 := Boxed.kept G1.out hg6.grown (by simp)
    have HG1 := Lib.hid hg1
    have gc6 := hg1.cell
    have gl6 := hg1.lt
    have hrow6 := own_same G2.out (fun k hk => hg6.block k (G2.out.lt k hk).2)
    have HROW6 := Lib.hid hrow6
    have lb6 := Boxed.kept HI.out.lim hg6.grown (by simp)
    have HL6 := Lib.hid lb6
    clear hb6 hg6 hrow6 hg1 lb6
    obtain ⟨i1, hy, hy0, hy1, hy2⟩ := info_parts infoSl
    have hsz6 : w3.heap.size + 1 ≤ w6.heap.size := by omega
    have hpb : p + 1 ≤ 3000000 := by omega
    by_cases hlast : p + 1 = L
    · gi_wp2_with (gi_at_builtin; refine wpListIn_append_own _ rfl _ _ 30 rfl (w3.heap.size + 1) 32 i1 _ 1 24 Try.underlying30 hy hy0 hy1 hy2 rfl (by decide) _ _ _ rfl (HROW6.out.alloc _) ⟨w6.heap.size, 0, none⟩ 1 1 [.slice x.A x.n x.c] rfl rfl (cell_one_new _ _ _) (by simp [Value.oneCell']) (by unfold maxLen; omega) (by omega) (by simp; omega) ?_; intro v7 w7 hown7 hgrow7 _; obtain ⟨g7, c7, rfl⟩ := ownsRow_succ hown7; obtain ⟨hv1, hv2, hr2, hk2, hb2⟩ := HG1.out.appended (by decide) HROW6.out hsz6 (Nat.le_refl _) hown7 hgrow7; have hc1 := hv1.cell; have hf1 := hv1.frozen; have hc2 := hv2.cell; have hc3 := (Boxed.kept (HL6.out.alloc _) hgrow7 (HL6.out.not_row (by decide) HROW6.out)).cell)
      obtain ⟨r1, r2, r3⟩ := round_end HI.out HG6.out hgl hwl HG1.out HROW6.out G3.out HXG.out HXR.out hgrow7 hv2 hr2 hk2 hb2
      have hlen : (pre ++ [x]).length = p + 1 := by rw [List.length_append, ← HP.out]; rfl
      rw [hlast] at hlen r1 r3
      rw [hSz]
      exact ⟨r1, by rw [hlen]; exact r3, hlen, rfl⟩
    · have hlt2 : p + 1 < L := by omega
      have hpl2 : ((p : Int) + 1 = (L : Int)) = False := by simp; omega
      gi_wp2_with (gi_at_builtin; refine wpListIn_append_own _ rfl _ _ 30 rfl (w3.heap.size + 1) 32 i1 _ 1 24 Try.underlying30 hy hy0 hy1 hy2 rfl (by decide) _ _ _ rfl (HROW6.out.alloc _) ⟨w6.heap.size, 0, none⟩ 1 1 [.slice x.A x.n x.c] rfl rfl (cell_one_new _ _ _) (by simp [Value.oneCell']) (by unfold maxLen; omega) (by omega) (by simp; omega) ?_; intro v7 w7 hown7 hgrow7 _; obtain ⟨g7, c7, rfl⟩ := ownsRow_succ hown7; obtain ⟨hv1, hv2, hr2, hk2, hb2⟩ := HG1.out.appended (by decide) HROW6.out hsz6 (Nat.le_refl _) hown7 hgrow7; have hc1 := hv1.cell; have hf1 := hv1.frozen; have hc2 := hv2.cell; have hc3 := (Boxed.kept (HL6.out.alloc _) hgrow7 (HL6.out.not_row (by decide) HROW6.out)).cell)
      obtain ⟨r1, r2, r3⟩ := round_end HI.out HG6.out hgl hwl HG1.out HROW6.out G3.out HXG.out HXR.out hgrow7 hv2 hr2 hk2 hb2
      have hlen : (pre ++ [x]).length = p + 1 := by rw [List.length_append, ← HP.out]; rfl
      rw [hSz]
      exact ⟨r1, r2, by rw [hlen]; exact r3, by omega⟩
  case done =>
    rintro D xs W _ hxs ⟨_, hlt⟩
    have hxs2 : xs.length = countF t := hxs
    have := HN.out
    omega
  case stop =>
    rintro D q pre W hD _ ⟨hI, hlen, rfl⟩ hK
    refine wpIn_wide.2 ?_
    rw [hlen] at hI
    clear hlen
    have HI := Lib.hid hI
    obtain ⟨gv, vs', g1, g2, g3⟩ := hI.got
    obtain ⟨g8, c8, rfl⟩ : ∃ A c, gv = .slice (some ⟨A, 0, none⟩) L c := by
      rcases g2.2 with ⟨rfl, h0⟩ | ⟨g', cap, cur, rfl, _⟩
      · omega
      · exact ⟨_, _, rfl⟩
    have G1 := Lib.hid g1
    have G2 := Lib.hid g2
    have G3 := Lib.hid g3
    have gc := g1.cell
    have gl := g1.lt
    have HKD := Lib.hid hK
    clear hK g1 g2 g3 hI
    go_wp2_with fail
    go_loopw [12] (fun iv wr => ∃ j : Nat, j ≤ L ∧ iv = .int .i64 j ∧ Gr W wr) (fun iv _ => L - (intOf iv).toNat)
    case atStart => exact ⟨0, Nat.zero_le _, rfl, Gr.refl _⟩
    case round =>
      obtain ⟨j, hj, rfl, hG⟩ := hrel
      have gcr := (Boxed.kept G1.out hG.grown (by simp)).cell
      have glr := (Boxed.kept G1.out hG.grown (by simp)).lt
      have lcr := (Boxed.kept HI.out.lim hG.grown (by simp)).cell
      have llr := (Boxed.kept HI.out.lim hG.grown (by simp)).lt
      by_cases hjl : j < L
      · obtain ⟨zs, hzs⟩ : ∃ zs, (refF t)[j]? = some zs := ⟨(refF t)[j]'(by rw [refF_len, ← HN.out]; omega), List.getElem?_eq_getElem _⟩
        obtain ⟨u1, hu1⟩ : ∃ u, vs'[j]? = some u := ⟨vs'[j]'(by have := G2.out.1; omega), List.getElem?_eq_getElem _⟩
        obtain ⟨u2, hu2⟩ : ∃ u, vs[j]? = some u := ⟨vs[j]'(by rw [HI.out.wrow.1, refF_len, ← HN.out]; omega), List.getElem?_eq_getElem _⟩
        obtain ⟨A1, c1, rfl, hr1⟩ := G3.out.2 j u1 zs hu1 (by rw [List.getElem?_take_of_lt hjl]; exact hzs)
        obtain ⟨A2, c2, rfl, hr2⟩ := HI.out.wrow.2 j u2 zs hu2 hzs
        have ce1 := Gr.cell hG ((G2.out.cellAt j (by omega)).trans hu1)
        have ce2 := Gr.cell hG (HI.out.want j _ hu2)
        have HCI : Hid (∀ w', Gr W w' → Calls Try.prog 16 #[.slice A1 zs.length c1, .slice A2 zs.length c2] w' (RB true w')) := Lib.hid (fun w' hg => intsP_same A1 A2 zs.length c1 c2 zs w' (hr1.gr hg).ints (hr2.gr hg).ints (by have h1 := hr1.2.1; have h2 := hr1.2.2.1; unfold maxLen at h2; omega))
        clear hzs hu1 hu2 hr1 hr2
        go_wp2_with fail
        have kq9_0 := cell_regrown gcr
        have kq9_1 := cell_regrown lcr
        have kq9_2 := cell_regrown ce1
        have kq9_3 := cell_regrown ce2
        refine wp_region_quiet_below (by kernel_rfl) (by kernel_rfl) ?_
        repeat (go_big_quiet_step ((go_at_call 16; exact Calls.regrown_of (HCI.out _ (hG.trans (below_regrown _ _ _))))))
        refine wpQuiet_nil ?_
        intro wq9 hwq9
        have hbq9 := gr_regrown hwq9
        clear hwq9
        replace kq9_0 := hbq9.cell gcr
        replace kq9_1 := hbq9.cell lcr
        replace kq9_2 := hbq9.cell ce1
        replace kq9_3 := hbq9.cell ce2
        go_wp2_with fail
        go_roundw
        case rel => exact ⟨j + 1, by omega, by go_num, hG.trans hbq9⟩
        case measure => simp [intOf] <;> omega
      · obtain rfl : L = j := by omega
        go_wp2_with fail
        refine (livesP_any _).mono ?_
        rintro e w4 ⟨rfl, hb4⟩
        have hg4 := hG.trans hb4
        have hrb := Boxed.kept HI.out.rc hg4.grown (by simp)
        have rbc := hrb.cell
        have rbf := hrb.frozen
        have hDW := (Array.getElem?_eq_some_iff.1 HKD.out).1
        have hD4 : w4.heap[D]? = some (.deferred (some [])) := (hg4.block _ hDW).trans HKD.out
        have hHD := Lib.hid hD4
        have hne : D ≠ w.heap.size + 1 := by omega
        clear hD4
        go_wp2_with fail
        have hset := Boxed.set (.bool true) hrb
        have hK9 : (w4.setCell ⟨w.heap.size + 1, 0, none⟩ (.bool true)).heap[D]? = some (.deferred (some [])) := (heap_set_other hne).trans hHD.out
        refine ⟨by simp, .inl ⟨_, _, rfl, run_takeDeferred hK9, ?_⟩⟩
        have hset2 : Boxed ((w4.setCell ⟨w.heap.size + 1, 0, none⟩ (.bool true)).putObj D (.deferred none)) (w.heap.size + 1) 4 (.bool true) := hset.kept (grownBy_putObj' _ D _) (by simp; omega)
        refine ⟨_, results_bool rfl _ _ _ _ rfl hset2.cell, rfl, ?_⟩
        have hgw : Gr w w4 := HI.out.gr.trans hg4
        have hgs : Gr w (w4.setCell ⟨w.heap.size + 1, 0, none⟩ (.bool true)) := hgw.setCell (by first | (simp; done) | (simp; omega)) _
        exact (show Below w.heap.size w _ from hgs).trans (belowK_b (w := w) (Nat.le_refl _) _ D _ _ (by omega) hK9 rfl rfl)
set_option maxRecDepth 100000 in
set_option maxHeartbeats 4000000 in
theorem treeWalks_any (m : Nat) (v : ND) (t : NT) (most : Nat) (w : World) (hr : NRep anyB m w v t) (hm : most ≤ 255) : Calls Try.prog 3 #[.agg #[.int .i64 v.k, .string (bs v.l), .string (bs v.x), .slice v.A v.n v.c, .string (bs v.e)], .int .u8 most] w (RB true w) := by
  have HF : Hid (∀ w', Gr w w' → Calls Try.prog 10 #[.agg #[.int .i64 v.k, .string (bs v.l), .string (bs v.x), .slice v.A v.n v.c, .string (bs v.e)]] w' (RB (fitB t) w')) := Lib.hid (fun w' hg => fitP_any m v t w' (hr.gr hg))
  cases hfit : fitB t with
  | false =>
    rw [hfit] at HF
    exact treeWalks_out v most w HF
  | true =>
    rw [hfit] at HF
    obtain ⟨f1, f2, _⟩ := fit_facts hfit
    exact treeWalks_in m v t most w (Lib.hid hr) (Lib.hid ⟨f1, f2⟩) hm HF
theorem u8_nat {k : Int} (h : (Lit.int .u8 k).wf = true) : ∃ n : Nat, k = n ∧ n ≤ 255 := by
  have h2 : IntKind.u8.min = 0 := by rfl
  have h3 : IntKind.u8.max = 255 := by rfl
  simp only [Lit.wf, h2, h3, Bool.and_eq_true, decide_eq_true_eq] at h
  exact ⟨k.toNat, by omega, by omega⟩
namespace TreeWalks
set_option maxRecDepth 100000 in
theorem lifted (os : Os) (started : os.Started) (H : Type) (enc : TypeId × Value → H) :
    ReturnsInHanded {} Try.checked os 3 .any (Rows.treeWalksSpec.pre6 enc Try.prog Try.f3 Rows.treeWalksRow.domain false) (Rows.treeWalksSpec.post enc Try.prog Try.f3 false true false false) := by
  refine law_lifted (C := Try.checked) (tb := 4) own started (by kernel_rfl) Try.func3 laidOut rfl rfl Try.underlying4 (by kernel_rfl) ?_
    (ChangeSpec.witness6 (enc := enc) (C := Try.checked) false ⟨#[], #[.agg #[.int .i64 0, .string ⟨#[]⟩, .string ⟨#[]⟩, .slice none 0 0, .string ⟨#[]⟩], .int .u8 0], []⟩ 8 (by kernel_rfl) (by kernel_rfl) (by kernel_rfl) (by kernel_rfl)) ?_
  · intro ds hl
    match ds, hl with
    | [_, _], _ => rfl
  · intro W base args ds ps hval0 hA0 hlt
    have hval : ∀ (j : Nat) t v, Try.f3.params[j]? = some t → args[j]? = some v → Value.okWide Try.prog W .any base t v := hval0
    have hA : DataW.TrodAll enc Try.prog W 0 (fun _ => true) true Try.f3.params.toList args.toList ds ps := hA0
    rw [Try.params3] at hA hval
    obtain ⟨v0, v1, d0, d1, p0, p1, rfl, rfl, rfl, h0, h1⟩ := trodAll_two hA
    obtain ⟨ev0, tv0, mv0, rfl, hrv0⟩ := open_node (hval 0 24 v0 rfl rfl) h0
    obtain ⟨kk, rfl, rfl, rfl, wk⟩ := open_int Try.underlying5 (hval 1 5 v1 rfl rfl) h1
    obtain ⟨most, rfl, hmost⟩ := u8_nat wk
    exact treeWalks_any mv0 ev0 tv0 most W hrv0 hmost

theorem proved : Rows.TreeWalksSaid :=
  OpenClaim.holds_of_wide 3 Try.f3 rfl rfl rfl rfl rfl rfl rfl ⟨rfl, rfl, rfl, rfl, rfl⟩ rfl rfl rfl rfl rfl (by kernel_rfl) Try.func3 (by kernel_rfl)
    (of_decide_eq_true (by kernel_rfl)) (by unfold Func.isWrapper; first | (rw [if_pos (by decide +kernel)]; kernel_rfl) | (rw [if_neg (by decide +kernel)]; exact ⟨rfl, rfl⟩))
    (fun os started H enc _ => lifted os started H enc)
end TreeWalks
end Go.Proofs.Ytklncffhkdbkhaa
