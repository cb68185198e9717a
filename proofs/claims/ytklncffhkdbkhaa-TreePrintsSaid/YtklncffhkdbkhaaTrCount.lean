/- The number of nodes, counted by a range over a function, walked. -/
import Derived.Test.YtklncffhkdbkhaaTrKeep
namespace Go.Proofs.Ytklncffhkdbkhaa
open Go.ChangeShapes Go.WideShapes Go.ChangeAt Go.RowKit
open Go.Shelf
attribute [local go_sem] Oper.semAt_some

abbrev NDx := ND
def encN (d : NDx) : Array Value := #[.agg #[.int .i64 d.k, .string (bs d.l), .string (bs d.x), .slice d.A d.n d.c, .string (bs d.e)]]
def EachPost (s c : Nat) (J Jx : List NDx → World → Prop) (pre : List NDx) (W : World) (e : Ending) (W' : World) : Prop :=
  (e = .returned (.bool true) ∧ (∃ xs : List NDx, xs.length = c ∧ J (pre ++ xs) W') ∧ KeepC s W W') ∨ (e = .returned (.bool false) ∧ ∃ q : List NDx, q.length ≤ c ∧ Jx (pre ++ q) W')
theorem abides_alloc {B : Nat} {J : List NDx → World → Prop} (hJ : AbidesFrom B J) {pre : List NDx} {W : World} (h : J pre W) (o : Obj) : J pre (W.alloc o) := hJ pre W _ none h (World.grownBy_alloc W o none) (fun r e => by cases e)
def EaRel (s b0 B : Nat) (J : List NDx → World → Prop) (pre : List NDx) (d : ND) (ks : List NT) (W1 : World) (n : Nat) (iv : Value) (wr : World) : Prop :=
  ∃ (j : Nat) (xs : List NDx), j ≤ n ∧ iv = .int .i64 j ∧ xs.length = 1 + countL (ks.take j) ∧ J (pre ++ xs) wr ∧ NBox wr b0 d ∧ KeepC s W1 wr ∧ B ≤ wr.heap.size
set_option maxRecDepth 100000 in
set_option maxHeartbeats 4000000 in
theorem each_in (l s B N : Nat) (J Jx : List NDx → World → Prop) (hJ : AbidesFrom B J)
    (hY : ∀ k pre x W, J pre W → pre.length < N → YieldAt Fence.wide k Try.prog l (encN x) W fun e W' => (e = .returned (.bool true) ∧ J (pre ++ [x]) W' ∧ KeepC s W W') ∨ (e = .returned (.bool false) ∧ Jx (pre ++ [x]) W')) :
    ∀ (m : Nat) (v : ND) (t : NT) (k : Nat) (pre : List NDx) (W : World), NRep (fun b => b ≠ s) m W v t → J pre W → pre.length + countF t ≤ N → s < W.heap.size → B ≤ W.heap.size →
      CallsIn Fence.wide k Try.prog 53 #[.agg #[.int .i64 v.k, .string (bs v.l), .string (bs v.x), .slice v.A v.n v.c, .string (bs v.e)], .func (.yield l) #[] #[]] W (EachPost s (countF t) J Jx pre W) := by
  intro m
  induction m with
  | zero => intro v t k pre W h; exact h.elim
  | succ m ih =>
    intro v t k pre W hr hp hN hs hB
    obtain ⟨A, n, c, rfl, p1, p2, p3, p4, p5, p6, p7, p8, p9⟩ := hr.open5
    have hn63 : n ≤ maxLen := Nat.le_trans p2 p3
    unfold maxLen at hn63 p3
    have HI := Lib.hid ih
    have HN := Lib.hid p1
    have HK0 : Hid (Kids (fun b => b ≠ s) m W A t.ks) := Lib.hid p9
    have hcc := countF_eq t
    have HCC := Lib.hid hcc
    dsimp only
    have hbx : NBox (W.alloc (.cells #[.int .i64 t.k, .string (bs t.l), .string (bs t.x), .slice A n c, .string (bs t.e)] 24)) W.heap.size ⟨t.k, t.l, t.x, A, n, c, t.e⟩ := heap_alloc_new W _
    have HBX := Lib.hid hbx
    have hp1 : J pre (W.alloc (.cells #[.int .i64 t.k, .string (bs t.l), .string (bs t.x), .slice A n c, .string (bs t.e)] 24)) := abides_alloc hJ hp _
    have hyy := hY (k - 1) pre ⟨t.k, t.l, t.x, A, n, c, t.e⟩ _ hp1 (by omega)
    obtain ⟨fn, tmps, assign, body, hy, hR⟩ := hyy
    have HJ := Lib.hid hJ
    have HY := Lib.hid hY
    have hr0 := KeepC.gr (s := s) ((Gr.refl W).alloc (.cells #[.int .i64 t.k, .string (bs t.l), .string (bs t.x), .slice A n c, .string (bs t.e)] 24))
    have HKA := Lib.hid hr0
    have HP := Lib.hid hp
    dsimp only [encN] at hy
    clear ih hr p9 p8 p4 p5 p6 p7 p1 hcc hbx hJ hY hp1 hr0 hp
    refine callsIn_of_wp Try.func53 rfl trivial ?_ rfl
    simp only [Try.ntmps53, List.size_toArray, List.length_cons, List.length_nil, Nat.reduceAdd, Nat.reduceSub, Array.replicate_succ, Array.replicate_zero, List.push_toArray, List.append_toArray, List.nil_append, List.cons_append]
    gi_wp2
    refine ⟨(fun h => by cases h), ?_⟩
    refine hR.mono ?_
    clear hR hy
    rintro e W2 (⟨rfl, hJ2, hk2⟩ | ⟨rfl, hx2⟩)
    rotate_left
    · gi_wp2
      go_ret
      exact .inr ⟨rfl, [_], by have := HCC.out; simp; omega, hx2⟩
    · have hkA := HKA.out.trans hk2
      have hne0 : W.heap.size ≠ s := by omega
      have HBX2 := Lib.hid (hk2.box hne0 HBX.out)
      have HKK := Lib.hid hkA
      have HJ2 := Lib.hid hJ2
      have hW2 : W.heap.size ≤ W2.heap.size := hkA.1
      obtain ⟨k0, k1, k2, k3, k4⟩ := HBX2.out.cells
      simp only at k0 k1 k2 k3 k4
      have hlb := lt_of_block HBX2.out
      have hst : EaRel s W.heap.size B J pre ⟨t.k, t.l, t.x, A, n, c, t.e⟩ t.ks W n (.int .i64 0) W2 := ⟨0, [_], Nat.zero_le _, rfl, by simp [countL], hJ2, HBX2.out, hkA, by omega⟩
      have HST := Lib.hid hst
      clear hst hJ2 hk2 hkA
      gi_wp2
      obtain ⟨b0, hb0⟩ : ∃ b, b = W.heap.size := ⟨_, rfl⟩
      rw [← hb0] at HST hne0
      rw [← hb0]
      have HB0 := Lib.hid hb0
      clear hb0 k0 k1 k2 k3 k4
      gi_loopw [14] (fun iv wr => EaRel s b0 B J pre ⟨t.k, t.l, t.x, A, n, c, t.e⟩ t.ks W n iv wr) (fun iv _ => n - (intOf iv).toNat)
      case atStart => exact HST.out
      case round =>
        obtain ⟨j, xs, hj, rfl, hxl, hJx, hnb, hkw, hBw⟩ := hrel
        have HJX := Lib.hid hJx
        have HXL := Lib.hid hxl
        have HKW := Lib.hid hkw
        have HNB := Lib.hid hnb
        obtain ⟨g0, g1, g2, g3, g4⟩ := hnb.cells
        simp only at g0 g1 g2 g3 g4
        have hlb2 := lt_of_block hnb
        have hws : W.heap.size ≤ wr.heap.size := hkw.1
        clear hJx hxl hkw hnb
        by_cases hlt : j < n
        · obtain ⟨y, hy⟩ : ∃ y, t.ks[j]? = some y := ⟨t.ks[j]'(by rw [← HN.out]; omega), List.getElem?_eq_getElem _⟩
          have HY2 := Lib.hid hy
          obtain ⟨bk, ok, d, hA, hbs, hbk, hce, hre⟩ := HK0.out j y hy
          subst hA
          have hcg := countL_get _ _ _ hy
          have HRE := Lib.hid (NRep.keepC (HKW.out.trans (KeepC.gr ((Gr.refl wr).alloc (.cells #[.int .i64 d.k, .string (bs d.l), .string (bs d.x), .slice d.A d.n d.c, .string (bs d.e)] 24)))) m d y hre)
          obtain ⟨c0, c1, c2, c3, c4⟩ := hce
          have e0 := HKW.out.cell hbs c0
          have e1 := HKW.out.cell hbs c1
          have e2 := HKW.out.cell hbs c2
          have e3 := HKW.out.cell hbs c3
          have e4 := HKW.out.cell hbs c4
          have hbw : bk < wr.heap.size := by omega
          have hJ3 := abides_alloc HJ.out HJX.out (.cells #[.int .i64 d.k, .string (bs d.l), .string (bs d.x), .slice d.A d.n d.c, .string (bs d.e)] 24)
          have hlen : (pre ++ xs).length + countF y ≤ N := by
            have h1 := HXL.out
            have h2 := HCC.out
            rw [List.length_append]
            omega
          have hcall := HI.out d y (k - 1) (pre ++ xs) _ HRE.out hJ3 hlen (by simp; omega) (by simp; omega)
          have HCALL := Lib.hid hcall
          have hkA2 := KeepC.gr (s := s) ((Gr.refl wr).alloc (.cells #[.int .i64 d.k, .string (bs d.l), .string (bs d.x), .slice d.A d.n d.c, .string (bs d.e)] 24))
          have HKA2 := Lib.hid hkA2
          have hst : countL (t.ks.take (j + 1)) = countL (t.ks.take j) + countF y := by
            rw [take_succ_at hy, countL_app]
            simp [countL]
          have HST2 := Lib.hid hst
          have hle2 : 1 + countL (t.ks.take j) + countF y ≤ countF t := by have := HCC.out; omega
          clear hy hre c0 c1 c2 c3 c4 hJ3 hlen hcall hkA2 hst
          gi_wp2
          refine ⟨trivial, (fun h => by cases h), ?_⟩
          refine HCALL.out.mono ?_
          clear HCALL
          rintro e W5 (⟨rfl, ⟨ys, hys, hJ5⟩, hk5⟩ | ⟨rfl, q, hq, hx5⟩)
          · have hk6 := HKA2.out.trans hk5
            have HJ5 := Lib.hid hJ5
            have HYS := Lib.hid hys
            have HK6 := Lib.hid hk6
            have h56 := hk6.1
            clear hJ5 hys hk5 hk6
            gi_wp2
            go_roundw
            case rel => exact ⟨j + 1, xs ++ ys, by omega, by go_num, by rw [List.length_append, HXL.out, HYS.out, HST2.out]; omega, by rw [← List.append_assoc]; exact HJ5.out, HK6.out.box hne0 HNB.out, HKW.out.trans HK6.out, by omega⟩
            case measure => simp [intOf] <;> omega
          · have HX5 := Lib.hid hx5
            have HQL := Lib.hid hq
            clear hx5 hq
            gi_wp2
            go_ret
            exact .inr ⟨rfl, xs ++ q, by have h1 := HXL.out; have h2 := HQL.out; rw [List.length_append]; omega, by rw [← List.append_assoc]; exact HX5.out⟩
        · have hjn : t.ks.take j = t.ks := List.take_of_length_le (by have := HN.out; omega)
          have HJN := Lib.hid hjn
          clear hjn
          gi_wp2
          go_ret
          exact .inl ⟨rfl, ⟨xs, by rw [HXL.out, HJN.out, HCC.out], HJX.out⟩, HKW.out⟩
theorem zip_one (p : Tmp) (a : Value) : (#[p] : Array Tmp).zip #[a] = #[(p, a)] := Array.ext' (by simp)
theorem yield_any {k : Nat} (k' : Nat) {l : Nat} {args : Array Value} {W : World} {R : Ending → World → Prop} (h : YieldAt Fence.wide k Try.prog l args W R) : YieldAt Fence.wide k' Try.prog l args W R := by
  obtain ⟨fn, tmps, assign, body, hy, hR⟩ := h
  exact ⟨fn, tmps, assign, body, hy, ⟨hR.1, fun c cs _ => hR.2 c cs (fun d h => by cases h)⟩⟩
theorem KeepC.set (s : Nat) (W : World) (o : Nat) (v : Value) : KeepC s W (W.setCell ⟨s, o, none⟩ v) :=
  ⟨by simp, fun _ _ _ _ hk h => (heap_set_other hk).trans h⟩
set_option maxRecDepth 100000 in
set_option maxHeartbeats 4000000 in
theorem nodes_stops (k s Bn : Nat) (m : Nat) (d : ND) (t : NT) (w : World) (hb : NBox w Bn d) (_hne : Bn ≠ s) (hr : NRep (fun b => b ≠ s) m w d t) (hs : s < w.heap.size) :
    SeqStopsK Fence.wide k Try.prog 52 #[.pointer (some ⟨Bn, 0, none⟩)] encN (KeepC s) (fun xs => xs.length = countF t) (fun xs => xs.length ≤ countF t) (countF t) w := by
  intro l J Jx W hW hJ hJx hY h0
  have hG : Gr w W := hW
  have hbW := hb.gr hG
  have hrW := NRep.keepC (KeepC.gr hG) m d t hr
  have hsz := Below.size hG
  have hcall := each_in l s W.heap.size (countF t) J Jx hJ (fun k' pre x W1 h1 h2 => yield_any k' (hY pre x W1 h1 h2)) m d t (k - 1) [] W hrW h0 (by simp) (by omega) (Nat.le_refl _)
  have HC := Lib.hid hcall
  obtain ⟨k0, k1, k2, k3, k4⟩ := hbW.cells
  have hlb := lt_of_block hbW
  clear hcall hY hJ hJx h0 hb hr hbW hrW
  refine callsIn_of_wp Try.func52 rfl trivial ?_ rfl
  simp only [Try.ntmps52, List.size_toArray, List.length_cons, List.length_nil, Nat.reduceAdd, Nat.reduceSub, Array.replicate_succ, Array.replicate_zero, List.push_toArray, List.append_toArray, List.nil_append, List.cons_append]
  gi_wp2
  refine ⟨trivial, (fun h => by cases h), ?_⟩
  refine HC.out.mono ?_
  rintro e W5 (⟨rfl, ⟨xs, hxl, hJ5⟩, hk5⟩ | ⟨rfl, q, hq, hx5⟩)
  · have HXL := Lib.hid hxl
    clear hxl
    gi_wp2
    go_end0
    exact ⟨⟨_, rfl⟩, .inl ⟨xs, HXL.out, by simpa using hJ5⟩⟩
  · gi_wp2
    go_end0
    exact ⟨⟨_, rfl⟩, .inr ⟨q, hq, by simpa using hx5⟩⟩
set_option maxRecDepth 100000 in
set_option maxHeartbeats 4000000 in
theorem nodes_in (k : Nat) (v : ND) (w : World) : CallsIn Fence.wide k Try.prog 48 #[.agg #[.int .i64 v.k, .string (bs v.l), .string (bs v.x), .slice v.A v.n v.c, .string (bs v.e)]] w fun e w' => e = .returned (.func (.func 52) #[] #[.pointer (some ⟨w.heap.size, 0, none⟩)]) ∧ w' = w.alloc (.cells #[.int .i64 v.k, .string (bs v.l), .string (bs v.x), .slice v.A v.n v.c, .string (bs v.e)] 24) := by
  refine callsIn_of_wp Try.func48 rfl trivial ?_ rfl
  simp only [Try.ntmps48, List.size_toArray, List.length_cons, List.length_nil, Nat.reduceAdd, Nat.reduceSub, Array.replicate_succ, Array.replicate_zero, List.push_toArray, List.append_toArray, List.nil_append, List.cons_append]
  gi_wp2
  go_ret
  exact ⟨rfl, rfl⟩
set_option maxRecDepth 100000 in
set_option maxHeartbeats 4000000 in
theorem countP_any (m : Nat) (v : ND) (t : NT) (w : World) (hr : NRep anyB m w v t) (hc : countF t ≤ 1152921504606846976) : Calls Try.prog 33 #[.agg #[.int .i64 v.k, .string (bs v.l), .string (bs v.x), .slice v.A v.n v.c, .string (bs v.e)]] w (RI (countF t) w) := by
  refine (callsIn_wide (n := 3)).1 ?_
  refine callsIn_of_wp_marks Try.func33 rfl trivial ?_ rfl
  simp only [Try.ntmps33, List.size_toArray, List.length_cons, List.length_nil, Nat.reduceAdd, Nat.reduceSub, Array.replicate_succ, Array.replicate_zero, List.push_toArray, List.append_toArray, List.nil_append, List.cons_append]
  have HR := Lib.hid (hr.lt.mono (fun b h => (by omega : b ≠ w.heap.size + 1)))
  clear hr
  gi_wp2
  refine ⟨trivial, ?_⟩
  refine (nodes_in _ _ _).mono ?_
  rintro e w' ⟨rfl, rfl⟩
  gi_wp2
  have hsz2 : ((w.alloc (.cells #[.int .i64 v.k, .string (bs v.l), .string (bs v.x), .slice v.A v.n v.c, .string (bs v.e)] 24)).alloc (.cells #[.int .i64 0] 3)).heap.size = w.heap.size + 1 + 1 := by simp
  have hsz3 : (((w.alloc (.cells #[.int .i64 v.k, .string (bs v.l), .string (bs v.x), .slice v.A v.n v.c, .string (bs v.e)] 24)).alloc (.cells #[.int .i64 0] 3)).alloc (.cells #[.int .i64 v.k, .string (bs v.l), .string (bs v.x), .slice v.A v.n v.c, .string (bs v.e)] 24)).heap.size = w.heap.size + 1 + 1 + 1 := by simp
  have hbx : NBox (((w.alloc (.cells #[.int .i64 v.k, .string (bs v.l), .string (bs v.x), .slice v.A v.n v.c, .string (bs v.e)] 24)).alloc (.cells #[.int .i64 0] 3)).alloc (.cells #[.int .i64 v.k, .string (bs v.l), .string (bs v.x), .slice v.A v.n v.c, .string (bs v.e)] 24)) (w.heap.size + 1 + 1) v := by
    have h := heap_alloc_new ((w.alloc (.cells #[.int .i64 v.k, .string (bs v.l), .string (bs v.x), .slice v.A v.n v.c, .string (bs v.e)] 24)).alloc (.cells #[.int .i64 0] 3)) (.cells #[.int .i64 v.k, .string (bs v.l), .string (bs v.x), .slice v.A v.n v.c, .string (bs v.e)] 24)
    rwa [hsz2] at h
  have hsb : (((w.alloc (.cells #[.int .i64 v.k, .string (bs v.l), .string (bs v.x), .slice v.A v.n v.c, .string (bs v.e)] 24)).alloc (.cells #[.int .i64 0] 3)).alloc (.cells #[.int .i64 v.k, .string (bs v.l), .string (bs v.x), .slice v.A v.n v.c, .string (bs v.e)] 24)).heap[w.heap.size + 1]? = some (.cells #[.int .i64 0] 3 (0, 0)) := by
    have h := heap_alloc_new (w.alloc (.cells #[.int .i64 v.k, .string (bs v.l), .string (bs v.x), .slice v.A v.n v.c, .string (bs v.e)] 24)) (.cells #[.int .i64 0] 3)
    have hz : (w.alloc (.cells #[.int .i64 v.k, .string (bs v.l), .string (bs v.x), .slice v.A v.n v.c, .string (bs v.e)] 24)).heap.size = w.heap.size + 1 := by simp
    rw [hz] at h
    exact (heapOld (by simp)).trans h
  have hG3 : Gr w (((w.alloc (.cells #[.int .i64 v.k, .string (bs v.l), .string (bs v.x), .slice v.A v.n v.c, .string (bs v.e)] 24)).alloc (.cells #[.int .i64 0] 3)).alloc (.cells #[.int .i64 v.k, .string (bs v.l), .string (bs v.x), .slice v.A v.n v.c, .string (bs v.e)] 24)) := (((Gr.refl w).alloc _).alloc _).alloc _
  have hs0 : (((w.alloc (.cells #[.int .i64 v.k, .string (bs v.l), .string (bs v.x), .slice v.A v.n v.c, .string (bs v.e)] 24)).alloc (.cells #[.int .i64 0] 3)).alloc (.cells #[.int .i64 v.k, .string (bs v.l), .string (bs v.x), .slice v.A v.n v.c, .string (bs v.e)] 24)).cell? ⟨w.heap.size + 1, 0, none⟩ = some (.int .i64 0) := cell_of_cells hsb 0
  have hsf : (((w.alloc (.cells #[.int .i64 v.k, .string (bs v.l), .string (bs v.x), .slice v.A v.n v.c, .string (bs v.e)] 24)).alloc (.cells #[.int .i64 0] 3)).alloc (.cells #[.int .i64 v.k, .string (bs v.l), .string (bs v.x), .slice v.A v.n v.c, .string (bs v.e)] 24)).frozen? ⟨w.heap.size + 1, 0, none⟩ = false := free_of_cells hsb 0
  have hst := nodes_stops (3 - 1) (w.heap.size + 1) (w.heap.size + 1 + 1) m v t (((w.alloc (.cells #[.int .i64 v.k, .string (bs v.l), .string (bs v.x), .slice v.A v.n v.c, .string (bs v.e)] 24)).alloc (.cells #[.int .i64 0] 3)).alloc (.cells #[.int .i64 v.k, .string (bs v.l), .string (bs v.x), .slice v.A v.n v.c, .string (bs v.e)] 24)) hbx (by omega) (NRep.keepC (KeepC.gr hG3) m v t HR.out) (by omega)
  generalize (((w.alloc (.cells #[.int .i64 v.k, .string (bs v.l), .string (bs v.x), .slice v.A v.n v.c, .string (bs v.e)] 24)).alloc (.cells #[.int .i64 0] 3)).alloc (.cells #[.int .i64 v.k, .string (bs v.l), .string (bs v.x), .slice v.A v.n v.c, .string (bs v.e)] 24)) = W3 at *
  clear hbx hsb HR
  refine wpIn_rangeFunc_ownF rfl (by omega) (gf := 52) (lb := #[.pointer (some ⟨w.heap.size + 1 + 1, 0, none⟩)]) rfl trivial (enters_of Try.func52 (by kernel_rfl) rfl)
    hst KeepC.trans (fun W l o o' _ h hc _ => KeepC.put W l o o' h hc) (Below.refl _ _) (fun _ => rfl)
    (fun pre W => (W.cell? ⟨w.heap.size + 1, 0, none⟩ = some (.int .i64 (pre.length : Nat)) ∧ W.frozen? ⟨w.heap.size + 1, 0, none⟩ = false) ∧ Below w.heap.size w W)
    (fun _ _ _ => False)
    (OwnFrom.and (Own.from (fun s A B row hs hg hr => ⟨cell_kept hs.1 hg hr, (frozen_kept hs.1 hg hr).trans hs.2⟩) _) (ownFrom_below (Nat.le_refl _) (by omega)))
    (fun _ _ _ _ _ hs _ _ => hs)
    ⟨⟨hs0, hsf⟩, hG3⟩
    (fun x => { tmps := #[.agg #[.int .i64 v.k, .string (bs v.l), .string (bs v.x), .slice v.A v.n v.c, .string (bs v.e)], .pointer (some ⟨w.heap.size, 0, none⟩), .int .i64 0, .pointer (some ⟨w.heap.size + 1, 0, none⟩), .agg #[.int .i64 v.k, .string (bs v.l), .string (bs v.x), .slice v.A v.n v.c, .string (bs v.e)], .func (.func 52) #[] #[.pointer (some ⟨w.heap.size + 1 + 1, 0, none⟩)], .agg #[.int .i64 x.k, .string (bs x.l), .string (bs x.x), .slice x.A x.n x.c, .string (bs x.e)], undef, undef, undef], defers := [] }) ?assign ?body ?done ?stop
  case assign =>
    intro l x W K hK
    unfold encN
    gi_wp2
    simp only [zip_one]
    simpa using hK
  case body =>
    rintro l pre x W ⟨⟨hc1, hf⟩, hB⟩ hlt
    have hlt2 : pre.length ≤ 1152921504606846976 := by omega
    have hB1 := Below.size hB
    have hlw : w.heap.size + 1 < W.heap.size := World.block_lt_of_cell? W _ hc1
    gi_wp2
    exact ⟨KeepsOthers.setCell _ _ _, KeepC.set _ _ _ _, ⟨by rw [List.length_append]; exact World.cell?_setCell_same' _ _ _ (by rw [hc1]; rfl), by rw [World.frozen?_setCell]; exact hf⟩, hB.setCell (p := ⟨w.heap.size + 1, 0, none⟩) (by show w.heap.size ≤ w.heap.size + 1; omega) _⟩
  case done =>
    rintro D ys W hD hys ⟨⟨hc1, _⟩, hB⟩ hK
    have hlw : w.heap.size + 1 < W.heap.size := World.block_lt_of_cell? W _ hc1
    have HYS := Lib.hid hys
    clear hys
    gi_wp2
    refine ⟨by simp, .inl ⟨_, _, rfl, run_takeDeferred hK, ?_⟩⟩
    refine ⟨_, results_tmp rfl _ _ _, ?_, hB.trans (belowK_b (w := w) (Nat.le_refl _) W D _ _ (by omega) hK rfl rfl)⟩
    show Ending.returned (Value.int .i64 ((ys.length : Nat) : Int)) = Ending.returned (Value.int .i64 ((countF t : Nat) : Int))
    rw [HYS.out]
  case stop =>
    rintro D c pre W _ _ h _
    exact h.elim
end Go.Proofs.Ytklncffhkdbkhaa
