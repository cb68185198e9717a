/- Package span's Compose, walked. -/
import Derived.Test.YtapginodpikijaaSpanCompR
import Derived.Maps.AppendAt
namespace Go.Proofs.Ytapginodpikijaa
open Go.ChangeShapes Go.WideShapes Go.ChangeAt Go.RowKit
open Go.Lib hiding intOf

/- ## Plain -/
theorem skip_go {lim : Nat} {S : List Run} {k : Nat} {s : Run} (h : S[k]? = some s) (hs : s.i + s.n ≤ lim) : skipK lim (S.drop k) = skipK lim (S.drop (k + 1)) := by
  rw [drop_at h, skipK, if_pos hs]
theorem skip_stop {lim : Nat} {S : List Run} {k : Nat} (h : ∀ s, S[k]? = some s → ¬ s.i + s.n ≤ lim) : skipK lim (S.drop k) = S.drop k := by
  by_cases hk : k < S.length
  · have hg : S[k]? = some S[k] := List.getElem?_eq_getElem hk
    rw [drop_at hg, skipK, if_neg (h _ hg)]
  · rw [List.drop_of_length_le (by omega), skipK]
theorem inner_go {r s : Run} {S : List Run} {i : Nat} (h : S[i]? = some s) (hs : s.i < r.k + r.n) : innerK r (S.drop i) = interR r s :: innerK r (S.drop (i + 1)) := by
  rw [drop_at h, innerK, if_pos hs]
theorem inner_stop {r : Run} {S : List Run} {i : Nat} (h : ∀ s, S[i]? = some s → ¬ s.i < r.k + r.n) : innerK r (S.drop i) = [] := by
  by_cases hk : i < S.length
  · have hg : S[i]? = some S[i] := List.getElem?_eq_getElem hk
    rw [drop_at hg, innerK, if_neg (h _ hg)]
  · rw [List.drop_of_length_le (by omega), innerK]
theorem ok_next : ∀ (S : List Run) (a b i : Nat) (s s' : Run), RunsOk a b S → S[i]? = some s → S[i + 1]? = some s' → s.i + s.n ≤ s'.i ∧ 0 < s'.n
  | [], _, _, _, _, _, _, h, _ => by simp at h
  | x :: S, a, b, 0, s, s', ⟨h1, h2, h3, h4⟩, h, h' => by
    simp only [List.getElem?_cons_zero, Option.some.injEq] at h
    subst h
    match S, h4, h' with
    | [], _, h' => simp at h'
    | y :: S, h4, h' =>
      simp only [List.getElem?_cons_succ, List.getElem?_cons_zero, Option.some.injEq] at h'
      subst h'
      exact ⟨h4.1, h4.2.2.1⟩
  | x :: S, a, b, i + 1, s, s', ⟨h1, h2, h3, h4⟩, h, h' => ok_next S _ _ i s s' h4 (by simpa using h) (by simpa using h')
theorem chain_mem {la lb : Nat} : ∀ {rs : List Run} {f t : Nat}, ChainR la lb f t rs → ∀ r ∈ rs, r.i + r.n ≤ la ∧ r.k + r.n ≤ lb
  | [], _, _, _, r, h => by cases h
  | x :: rs, f, t, ⟨h1, h2, h3, h4, h5⟩, r, h => by
    rcases List.mem_cons.1 h with rfl | h
    · exact ⟨h3, h4⟩
    · exact chain_mem h5 r h
theorem rise_after : ∀ (n i k : Nat) (ps : List (Nat × Nat)) (f t : Nat), Rise f t ((Run.mk i k (n + 1)).pairs ++ ps) → f ≤ i ∧ t ≤ k ∧ Rise (i + (n + 1)) (k + (n + 1)) ps
  | 0, i, k, ps, f, t, h => by
    rw [range_map_cons, List.cons_append] at h
    obtain ⟨h1, h2, h3⟩ := h
    exact ⟨h1, h2, by simpa [Run.pairs] using h3⟩
  | n + 1, i, k, ps, f, t, h => by
    rw [range_map_cons, List.cons_append] at h
    obtain ⟨h1, h2, h3⟩ := h
    obtain ⟨_, _, h4⟩ := rise_after n (i + 1) (k + 1) ps _ _ h3
    refine ⟨h1, h2, ?_⟩
    rw [show i + (n + 1 + 1) = i + 1 + (n + 1) from by omega, show k + (n + 1 + 1) = k + 1 + (n + 1) from by omega]
    exact h4
theorem chain_of_rise {la lb : Nat} : ∀ (rs : List Run) (f t : Nat), (∀ r ∈ rs, 0 < r.n) → Rise f t (rs.flatMap Run.pairs) → (∀ p ∈ rs.flatMap Run.pairs, p.1 < la ∧ p.2 < lb) → ChainR la lb f t rs
  | [], _, _, _, _, _ => trivial
  | ⟨i, k, n⟩ :: rs, f, t, hp, hr, hb => by
    have hn : 0 < n := hp ⟨i, k, n⟩ (by simp)
    obtain ⟨m, rfl⟩ : ∃ m, n = m + 1 := ⟨n - 1, by omega⟩
    rw [List.flatMap_cons] at hr hb
    obtain ⟨h1, h2, h3⟩ := rise_after m i k _ f t hr
    have hl := hb (i + m, k + m) (List.mem_append_left _ ((mem_pairs _ _).2 ⟨m, by simp, rfl⟩))
    exact ⟨h1, h2, by show i + (m + 1) ≤ la; omega, by show k + (m + 1) ≤ lb; omega, chain_of_rise rs _ _ (fun r h => hp r (by simp [h])) h3 (fun p h => hb p (List.mem_append_right _ h))⟩
theorem runs_le_pairs : ∀ rs : List Run, (∀ r ∈ rs, 0 < r.n) → rs.length ≤ (rs.flatMap Run.pairs).length
  | [], _ => by simp
  | r :: rs, h => by
    have h1 := runs_le_pairs rs (fun x hx => h x (by simp [hx]))
    have h2 := h r (by simp)
    rw [List.flatMap_cons, List.length_append, List.length_cons]
    have : r.pairs.length = r.n := by simp [Run.pairs]
    omega
theorem both_chain (src : List UInt8) (a b : List EN) (ha : Ok src.length 0 a) (hb : Ok (appF src 0 a).length 0 b) :
    ChainR src.length (appF (appF src 0 a) 0 b).length 0 0 (bothF (runsF src.length 0 0 a) (runsF (appF src 0 a).length 0 0 b)) ∧ (bothF (runsF src.length 0 0 a) (runsF (appF src 0 a).length 0 0 b)).length ≤ src.length := by
  obtain ⟨h1, h2⟩ := compP_facts src a b ha hb
  have hp := both_pos (runsF src.length 0 0 a) (runsF (appF src 0 a).length 0 0 b) 0 0 0 0 (runsF_ok _ _ _ _ ha) (runsF_ok _ _ _ _ hb)
  have hc := rise_count _ _ _ _ _ h1 (fun p hp => ⟨(h2 p hp).1, (h2 p hp).2.1⟩)
  refine ⟨chain_of_rise _ _ _ hp h1 (fun p hp => ⟨(h2 p hp).1, (h2 p hp).2.1⟩), ?_⟩
  have := runs_le_pairs _ hp
  unfold compP at hc
  omega
/- ## The walk -/
def OwnR (w : World) (B : Nat) (v : Value) (n : Nat) (rs : List Run) : Prop := w.ownsRow B 57 3 v n (rs.flatMap Run.cells)
theorem OwnR.snoc {w : World} {B : Nat} {v : Value} {rs : List Run} {r : Run} {x y z : Int} (h : w.ownsRow B 57 3 v (rs.length + 1) (rs.flatMap Run.cells ++ [.int .i64 x, .int .i64 y, .int .i64 z])) (hx : (r.i : Int) = x) (hy : (r.k : Int) = y) (hz : (r.n : Int) = z) : OwnR w B v (rs ++ [r]).length (rs ++ [r]) := by
  subst hx hy hz
  unfold OwnR
  rw [List.length_append, List.flatMap_append]
  exact h
theorem own_none {w : World} {base : Nat} {e : TypeId} {size : Nat} {A : Option Addr} {n c m : Nat} {xs : List Value} (h : w.ownsRow base e size (.slice A n c) m xs) : A = none → c = 0 := by
  rintro rfl
  rcases h.2 with ⟨h1, _⟩ | ⟨g, cap, cur, h1, _⟩
  · cases h1; rfl
  · cases h1
def CompRel (w2 : World) (R S : List Run) (jv kv bv : Value) (wr : World) : Prop :=
  ∃ (j k : Nat) (rs : List Run), j ≤ R.length ∧ k ≤ S.length ∧ jv = .int .i64 j ∧ kv = .int .i64 k ∧ OwnR wr w2.heap.size bv rs.length rs ∧ rs ++ bothF (R.drop j) (S.drop k) = bothF R S ∧ Gr w2 wr
def SkipRel (W : World) (S : List Run) (lim k0 : Nat) (kv : Value) (wr : World) : Prop :=
  ∃ k n : Nat, k0 ≤ k ∧ k ≤ S.length ∧ kv = .int .i64 k ∧ skipK lim (S.drop k) = skipK lim (S.drop k0) ∧ wr = W.drewN n
theorem runs_pos : ∀ {S : List Run} {a b i : Nat} {s : Run}, RunsOk a b S → S[i]? = some s → 0 < s.n
  | [], _, _, _, _, _, h => by simp at h
  | x :: S, _, _, 0, s, ⟨_, _, h3, _⟩, h => by
    simp only [List.getElem?_cons_zero, Option.some.injEq] at h
    subst h
    exact h3
  | x :: S, _, _, i + 1, s, ⟨_, _, _, h4⟩, h => runs_pos h4 (by simpa using h)
def InnerRel (w2 : World) (r : Run) (S rs : List Run) (k b0 : Nat) (iv bv : Value) (wr : World) : Prop :=
  ∃ (i : Nat) (rs' : List Run), k ≤ i ∧ i ≤ S.length ∧ iv = .int .i64 i ∧ OwnR wr w2.heap.size bv rs'.length rs' ∧ rs' ++ innerK r (S.drop i) = rs ++ innerK r (S.drop k) ∧ (∀ s, S[i]? = some s → r.k < s.i + s.n ∧ 0 < s.n) ∧ Gr w2 wr ∧
    wr.cell? ⟨b0, 0, none⟩ = some (.int .i64 r.i) ∧ wr.cell? ⟨b0, 1, none⟩ = some (.int .i64 r.k) ∧ wr.cell? ⟨b0, 2, none⟩ = some (.int .i64 r.n) ∧ bv.ownBlock ≠ some b0 ∧ b0 < wr.heap.size
set_option maxRecDepth 100000 in
set_option maxHeartbeats 8000000 in
theorem composeP_bad1 (src : List UInt8) (A B : Option Addr) (la ca lb cb : Nat) (es : List ED) (w : World) (he : EditsAt w A la es) (hl : la ≤ 5000) (hc : checkF es src.length ≠ 0) :
    Calls Try.prog 27 #[.string (bs src), .slice A la ca, .slice B lb cb] w (R2 (.slice none 0 0) (.int .i64 (checkF es src.length)) w) := by
  have hcb : (checkF es src.length == 0) = false := by simpa using hc
  have hcb' : (checkF es src.length != 0) = true := by simpa using hc
  go_enter Try.func27, Try.ntmps27
  go_wp2_with fail
  refine (editedP_bad src A la ca es w he hl hc).mono ?_
  rintro e w1 ⟨rfl, hb1⟩
  go_wp2_with fail
  go_ret2
  exact ⟨rfl, hb1⟩
set_option maxRecDepth 100000 in
set_option maxHeartbeats 8000000 in
theorem composeP_bad2 (src : List UInt8) (A B : Option Addr) (la ca lb cb : Nat) (ns : List EN) (es : List ED) (w : World) (he : EditsAt w A la (ns.map EN.ed)) (hl : la ≤ 5000) (hc : checkF (ns.map EN.ed) src.length = 0) (hok : Ok src.length 0 ns) (hsum : src.length + texts ns ≤ 1048576)
    (he2 : EditsAt w B lb es) (hl2 : lb ≤ 5000) (hc2 : checkF es (appF src 0 ns).length ≠ 0) :
    Calls Try.prog 27 #[.string (bs src), .slice A la ca, .slice B lb cb] w (R2 (.slice none 0 0) (.int .i64 (checkF es (appF src 0 ns).length)) w) := by
  have hcb : (checkF es (appF src 0 ns).length == 0) = false := by simpa using hc2
  have hcb' : (checkF es (appF src 0 ns).length != 0) = true := by simpa using hc2
  go_enter Try.func27, Try.ntmps27
  go_wp2_with fail
  refine (editedP_ok src A la ca ns w he hl hc hok hsum).mono ?_
  rintro e w1 ⟨A1, n1, c1, rfl, _, _, _, hb1⟩
  go_wp2_with fail
  refine (editedP_bad _ B lb cb es _ (he2.keep hb1) hl2 hc2).mono ?_
  rintro e w2 ⟨rfl, hb2⟩
  go_wp2_with fail
  go_ret2
  exact ⟨rfl, hb1.trans hb2⟩
set_option maxRecDepth 100000 in
set_option maxHeartbeats 8000000 in
theorem composeP_ok (src : List UInt8) (A B : Option Addr) (la ca lb cb : Nat) (a b : List EN) (w : World) (he : EditsAt w A la (a.map EN.ed)) (hl : la ≤ 5000) (hc : checkF (a.map EN.ed) src.length = 0) (hok : Ok src.length 0 a) (hsum : src.length + texts a ≤ 1000000)
    (he2 : EditsAt w B lb (b.map EN.ed)) (hl2 : lb ≤ 5000) (hc2 : checkF (b.map EN.ed) (appF src 0 a).length = 0) (hok2 : Ok (appF src 0 a).length 0 b) (hsum2 : (appF src 0 a).length + texts b ≤ 1000000) :
    Calls Try.prog 27 #[.string (bs src), .slice A la ca, .slice B lb cb] w (InvPost (compF src a b) w) := by
  have hdl := appF_delta src a 0 hok (Nat.zero_le _)
  have hdb := delta_le src.length a 0 hok (Nat.zero_le _)
  have hdl2 := appF_delta _ b 0 hok2 (Nat.zero_le _)
  have hdb2 := delta_le _ b 0 hok2 (Nat.zero_le _)
  have hTb : (appF src 0 a).length ≤ 1048576 := by omega
  have hTb2 : (appF (appF src 0 a) 0 b).length ≤ 1048576 := by omega
  unfold compF
  obtain ⟨hbc, hbl⟩ := both_chain src a b hok hok2
  have hrc := runs_chain src a 0 0 hok (Nat.zero_le _)
  have hsc := runs_chain (appF src 0 a) b 0 0 hok2 (Nat.zero_le _)
  rw [Nat.zero_add] at hrc hsc
  have HSO := Lib.hid (runsF_ok (appF src 0 a).length b 0 0 hok2)
  have HRO := Lib.hid (runsF_ok src.length a 0 0 hok)
  have hRn : (runsF src.length 0 0 a).length ≤ 5001 := by have := runs_count src.length a 0 0; have := he.1; simp at this; omega
  have hSn : (runsF (appF src 0 a).length 0 0 b).length ≤ 5001 := by have := runs_count (appF src 0 a).length b 0 0; have := he2.1; simp at this; omega
  have HE1 : Hid (Calls Try.prog 29 #[.string (bs src), .slice A la ca] w (EdPost2 (appF src 0 a) (runsF src.length 0 0 a) w)) := Lib.hid (editedP_ok src A la ca a w he hl hc hok (by omega))
  have HE2 : Hid (∀ w', Gr w w' → Calls Try.prog 29 #[.string (bs (appF src 0 a)), .slice B lb cb] w' (EdPost2 (appF (appF src 0 a) 0 b) (runsF (appF src 0 a).length 0 0 b) w')) := Lib.hid (fun w' hg => editedP_ok (appF src 0 a) B lb cb b w' (he2.keep hg) hl2 hc2 hok2 (by omega))
  have HRB := Lib.hid (chain_mem hrc)
  have HSB := Lib.hid (chain_mem hsc)
  have HBC := Lib.hid hbc
  have hsrc : src.length ≤ 1048576 := by omega
  clear he he2 hc hc2 hok hok2 hdl hdb hdl2 hdb2 hrc hsc hbc
  generalize runsF src.length 0 0 a = R at *
  generalize runsF (appF src 0 a).length 0 0 b = S at *
  generalize appF (appF src 0 a) 0 b = dst at *
  generalize appF src 0 a = mid at *
  have HLB : Hid ((bothF R S).length ≤ src.length) := Lib.hid hbl
  clear hbl
  obtain ⟨i0, hi, hz0, hz1, hz2⟩ := info_parts infoRun
  go_enter Try.func27, Try.ntmps27
  go_wp2_with fail
  refine HE1.out.mono ?_
  rintro e w1 ⟨A1, n1, c1, rfl, hn1, _, hr1, hg1⟩
  have hnR : R.length = n1 := hr1.1
  have HR0 := Lib.hid hr1
  clear hr1
  go_wp2_with fail
  refine (HE2.out _ hg1).mono ?_
  rintro e w2 ⟨A2, n2, c2, rfl, hn2, _, hr2, hg2⟩
  have hnS : S.length = n2 := hr2.1
  have HR := Lib.hid (HR0.out.keep hg2)
  have HS := Lib.hid hr2
  have hg02 := hg1.trans hg2
  clear hr2 HE1 HE2 HR0
  have HNR := Lib.hid hnR
  have HNS := Lib.hid hnS
  have hnR1 : R.length ≤ n1 := by omega
  have hnR2 : n1 ≤ R.length := by omega
  have hnS1 : S.length ≤ n2 := by omega
  have hnS2 : n2 ≤ S.length := by omega
  clear hnR hnS
  go_wp2_with fail
  go_loopw [43, 14, 13] (fun jv kv bv wr => CompRel w2 R S jv kv bv wr) (fun jv _ _ _ => R.length - (intOf jv).toNat)
  case atStart => exact ⟨0, 0, [], Nat.zero_le _, Nat.zero_le _, rfl, rfl, World.ownsRow_nil _ _ _ _, rfl, Gr.refl _⟩
  case round =>
    obtain ⟨j, k0, rs, hj, hk0, rfl, rfl, hown, hbo, hG⟩ := hrel
    obtain ⟨A3, c3, rfl⟩ := own_form hown
    have HQ := Lib.hid hown
    have HBO := Lib.hid hbo
    have hwr := Below.size hG
    have hrsl : rs.length ≤ 1048576 := by
      have h1 := congrArg List.length hbo
      have h2 := HLB.out
      rw [List.length_append] at h1
      omega
    clear hown hbo
    by_cases hlt : j < R.length
    · obtain ⟨bR, oR, r, hAR, hbR, hgr, d0, d1, d2⟩ := (HR.out.keep hG).at (show j < n1 by omega)
      subst hAR
      obtain ⟨r1, r2⟩ := HRB.out r (List.mem_of_getElem? hgr)
      have hjn1 : j < n1 := by omega
      have HDR := Lib.hid (drop_at hgr)
      have hrn := runs_pos HRO.out hgr
      clear hgr
      have hx : (wr.alloc (.cells #[.int .i64 r.i, .int .i64 r.k, .int .i64 r.n] 57)).heap[wr.heap.size]? = some (.cells #[.int .i64 r.i, .int .i64 r.k, .int .i64 r.n] 57 (0, 0)) := heap_alloc_new _ _
      have c0 : (wr.alloc (.cells #[.int .i64 r.i, .int .i64 r.k, .int .i64 r.n] 57)).cell? ⟨wr.heap.size, 0, none⟩ = some (.int .i64 r.i) := cell_of_cells hx 0
      have c1 : (wr.alloc (.cells #[.int .i64 r.i, .int .i64 r.k, .int .i64 r.n] 57)).cell? ⟨wr.heap.size, 1, none⟩ = some (.int .i64 r.k) := cell_of_cells hx 1
      have c2 : (wr.alloc (.cells #[.int .i64 r.i, .int .i64 r.k, .int .i64 r.n] 57)).cell? ⟨wr.heap.size, 2, none⟩ = some (.int .i64 r.n) := cell_of_cells hx 2
      have HQ1 := Lib.hid (HQ.out.alloc (.cells #[.int .i64 r.i, .int .i64 r.k, .int .i64 r.n] 57))
      have hG1 := hG.alloc (.cells #[.int .i64 r.i, .int .i64 r.k, .int .i64 r.n] 57)
      have hb0 : wr.heap.size < (wr.alloc (.cells #[.int .i64 r.i, .int .i64 r.k, .int .i64 r.n] 57)).heap.size := by simp
      have hnb : (Value.slice A3 rs.length c3).ownBlock ≠ some wr.heap.size := fun h => by have := (HQ.out.lt _ h).2; omega
      go_wp2_with fail
      clear hx hwr d0 d1 d2 HQ hG hbR
      generalize wr.alloc (.cells #[.int .i64 r.i, .int .i64 r.k, .int .i64 r.n] 57) = W1 at *
      generalize wr.heap.size = b0 at *
      have hlw1 := Below.size hG1
      go_loopw [14] (fun kv wr => SkipRel W1 S r.k k0 kv wr) (fun kv _ => S.length - (intOf kv).toNat)
      case atStart => exact ⟨k0, 0, Nat.le_refl _, hk0, rfl, rfl, rfl⟩
      case round =>
        obtain ⟨k, m, hk1, hk2, rfl, hsk, rfl⟩ := hrel
        have HSK := Lib.hid hsk
        clear hsk
        by_cases hcont : ∃ s, S[k]? = some s ∧ s.i + s.n ≤ r.k
        · obtain ⟨s, hgs, hs1⟩ := hcont
          have hkl := (List.getElem?_eq_some_iff.1 hgs).1
          obtain ⟨bS, oS, s', hAS, hbS, hgs', e0, e1, e2⟩ := (HS.out.keep hG1).at (show k < n2 by omega)
          have hkn : k < n2 := by omega
          rw [hgs] at hgs'
          cases hgs'
          subst hAS
          obtain ⟨s4, s5⟩ := HSB.out s (List.mem_of_getElem? hgs)
          have HSG := Lib.hid (skip_go hgs hs1)
          have hs1' : (s.i : Int) + s.n ≤ r.k := by omega
          clear hgs
          go_wp2_with fail
          go_quiet (fail)
          go_wp2_with fail
          go_roundw
          case rel => exact ⟨k + 1, _, by omega, by omega, by go_num, by rw [← HSK.out, HSG.out], rfl⟩
          case measure => simp [intOf] <;> omega
        · have HST : Hid (skipK r.k (S.drop k0) = S.drop k) := Lib.hid (by rw [← HSK.out]; exact skip_stop (fun s hg hs => hcont ⟨s, hg, hs⟩))
          have HHD : Hid (∀ s, S[k]? = some s → r.k < s.i + s.n ∧ 0 < s.n) := Lib.hid (fun s hg => ⟨Nat.lt_of_not_le (fun h => hcont ⟨s, hg, h⟩), runs_pos HSO.out hg⟩)
          have HB2 : Hid (rs ++ (innerK r (S.drop k) ++ bothF (R.drop (j + 1)) (S.drop k)) = bothF R S) := Lib.hid (by rw [← HBO.out, HDR.out, bothF, HST.out])
          have HIL : Hid (rs.length + (innerK r (S.drop k)).length ≤ 1048576) := Lib.hid (by
            have h1 := congrArg List.length HB2.out
            have h2 := HLB.out
            simp only [List.length_append] at h1
            omega)
          by_cases hkl : k < S.length
          · obtain ⟨bS, oS, s, hAS, hbS, hgs, e0, e1, e2⟩ := (HS.out.keep hG1).at (show k < n2 by omega)
            have hkn : k < n2 := by omega
            subst hAS
            obtain ⟨s4, s5⟩ := HSB.out s (List.mem_of_getElem? hgs)
            have hs1 : (r.k : Int) < (s.i : Int) + s.n := by have := (HHD.out s hgs).1; omega
            clear hgs hcont
            go_wp2_with fail
            go_quiet (fail)
            go_wp2_with fail
            clear e0 e1 e2 hs1 hbS s4 s5
            go_loopw [17, 13] (fun iv bv wr => InnerRel w2 r S rs k b0 iv bv wr) (fun iv _ _ => S.length - (intOf iv).toNat)
            case atStart => exact ⟨k, rs, Nat.le_refl _, hk2, rfl, own_same HQ1.out (fun _ _ => rfl), rfl, HHD.out, (hG1.drewN m).drewN nq, c0, c1, c2, hnb, hb0⟩
            case round =>
              obtain ⟨i, rs', hi1, hi2, rfl, hown3, hin, hhd, hG3, e0, e1, e2, hnb3, hb3⟩ := hrel
              obtain ⟨A5, c5, rfl⟩ := own_form hown3
              have HQ3 := Lib.hid hown3
              have HIN := Lib.hid hin
              have hw3 := Below.size hG3
              have hlen3 : rs'.length ≤ 1048576 := by
                have h1 := congrArg List.length hin
                have h2 := HIL.out
                rw [List.length_append, List.length_append] at h1
                omega
              clear hin hown3
              by_cases hcont : ∃ s, S[i]? = some s ∧ s.i < r.k + r.n
              · obtain ⟨s, hgs, hs1⟩ := hcont
                have hil := (List.getElem?_eq_some_iff.1 hgs).1
                obtain ⟨hs2, hs3⟩ := hhd s hgs
                obtain ⟨s4, s5⟩ := HSB.out s (List.mem_of_getElem? hgs)
                obtain ⟨bS, oS, s', hAS, hbS, hgs', y0, y1, y2⟩ := (HS.out.keep hG3).at (show i < n2 by omega)
                have hkn : i < n2 := by omega
                rw [hgs] at hgs'
                cases hgs'
                cases hAS
                have HIG := Lib.hid (inner_go hgs hs1)
                have HHN : Hid (∀ s', S[i + 1]? = some s' → r.k < s'.i + s'.n ∧ 0 < s'.n) := Lib.hid (fun s' hg' => by
                  obtain ⟨h1, h2⟩ := ok_next S 0 0 i s s' HSO.out hgs hg'
                  exact ⟨by omega, h2⟩)
                obtain ⟨M, hM⟩ : ∃ M, M = max r.k s.i := ⟨_, rfl⟩
                obtain ⟨E, hE⟩ : ∃ E, E = min (r.k + r.n) (s.i + s.n) := ⟨_, rfl⟩
                have hM1 : r.k ≤ M := by omega
                have hM2 : s.i ≤ M := by omega
                have hM3 : M < E := by omega
                have hM4 : E ≤ 1048576 := by omega
                have hmx : max (r.k : Int) (s.i : Int) = (M : Int) := by omega
                have hmn : min ((r.k : Int) + r.n) ((s.i : Int) + s.n) = (E : Int) := by omega
                have q1 : ((interR r s).i : Int) = (r.i : Int) + M - r.k := by show ((r.i + (max r.k s.i - r.k) : Nat) : Int) = _; omega
                have q2 : ((interR r s).k : Int) = (s.k : Int) + M - s.i := by show ((s.k + (max r.k s.i - s.i) : Nat) : Int) = _; omega
                have q3 : ((interR r s).n : Int) = (E : Int) - M := by show ((min (r.k + r.n) (s.i + s.n) - max r.k s.i : Nat) : Int) = _; omega
                have Q1 := Lib.hid q1
                have Q2 := Lib.hid q2
                have Q3 := Lib.hid q3
                have HMX := Lib.hid hM
                have HEX := Lib.hid hE
                have hcc : (s.i : Int) < (r.k : Int) + r.n := by omega
                clear hgs hhd q1 q2 q3 hM hE
                go_wp2_with fail
                go_quiet (fail)
                replace e0 : (wr.drewN nq).cell? ⟨b0, 0, none⟩ = some (.int .i64 r.i) := e0
                replace e1 : (wr.drewN nq).cell? ⟨b0, 1, none⟩ = some (.int .i64 r.k) := e1
                replace e2 : (wr.drewN nq).cell? ⟨b0, 2, none⟩ = some (.int .i64 r.n) := e2
                replace y0 : (wr.drewN nq).cell? ⟨bS, oS + i * 3, none⟩ = some (.int .i64 s.i) := y0
                replace y1 : (wr.drewN nq).cell? ⟨bS, oS + i * 3 + 1, none⟩ = some (.int .i64 s.k) := y1
                replace y2 : (wr.drewN nq).cell? ⟨bS, oS + i * 3 + 2, none⟩ = some (.int .i64 s.n) := y2
                replace hb3 : b0 < (wr.drewN nq).heap.size := hb3
                replace hbS : bS < (wr.drewN nq).heap.size := hbS
                have HQ4 : Hid (OwnR (wr.drewN nq) w2.heap.size (Value.slice A5 rs'.length c5) rs'.length rs') := Lib.hid (own_same HQ3.out (fun _ _ => rfl))
                have hG4 : Gr w2 (wr.drewN nq) := hG3.drewN nq
                have hw4 : w2.heap.size ≤ (wr.drewN nq).heap.size := hw3
                clear HQ3 hG3 hw3
                generalize wr.drewN nq = W4 at *
                go_wp2_with (at_builtin; go_must (refine wpList_append_own_at _ rfl (.tmp 109) (.tmp 128) 53 rfl w2.heap.size 57 i0 _ 3 24 Try.underlying53 hi hz0 hz1 hz2 rfl (by decide) _ rs'.length (rs'.flatMap Run.cells) rfl ((HQ4.out.alloc _).alloc _) ⟨W4.heap.size + 1, 0, none⟩ 1 1 [.int .i64 ((r.i : Int) + M - r.k), .int .i64 ((s.k : Int) + M - s.i), .int .i64 ((E : Int) - M)] rfl rfl (news_new (by simp)) (by simp [Value.oneCell']) (by unfold maxLen; omega) (by omega) (by simp; omega) ?_); intro v5 w5 hown5 hgrow5 _ hat5)
                have hG5 : Gr w2 w5 := Gr.grownOwn ((hG4.alloc _).alloc _) hgrow5 (fun k hk => (HQ4.out.lt k hk).1)
                have HO5 := Lib.hid (OwnR.snoc hown5 Q1.out Q2.out Q3.out)
                have hnb4 : some b0 ≠ (Value.slice A5 rs'.length c5).ownBlock := fun h => hnb3 h.symm
                have z0 := (hgrow5.cell_far ⟨b0, 0, none⟩ (by simp; omega) hnb4)
                have z1 := (hgrow5.cell_far ⟨b0, 1, none⟩ (by simp; omega) hnb4)
                have z2 := (hgrow5.cell_far ⟨b0, 2, none⟩ (by simp; omega) hnb4)
                rw [World.cell?_alloc_lt _ _ _ (by simp; omega), World.cell?_alloc_lt _ _ _ hb3] at z0 z1 z2
                have hs5 : b0 < w5.heap.size := Nat.lt_of_lt_of_le (by simp; omega) hgrow5.size
                have hnb5 : v5.ownBlock ≠ some b0 := by
                  rcases hat5 with h | h
                  · rw [h]; exact hnb3
                  · rw [h]; simp; omega
                obtain ⟨A6, c6, rfl⟩ := own_form hown5
                clear hown5 hgrow5 hat5
                go_roundw
                case rel => exact ⟨i + 1, rs' ++ [interR r s], by omega, by omega, by go_num, HO5.out, by rw [← HIN.out, HIG.out, List.append_assoc]; rfl, HHN.out, hG5, z0.trans e0, z1.trans e1, z2.trans e2, hnb5, hs5⟩
                case measure => simp [intOf] <;> omega
              · have HIN2 : Hid (rs' = rs ++ innerK r (S.drop k)) := Lib.hid (by rw [← HIN.out, inner_stop (fun s hg hs => hcont ⟨s, hg, hs⟩), List.append_nil])
                by_cases hil : i < S.length
                · obtain ⟨bS, oS, s, hAS, hbS, hgs, y0, y1, y2⟩ := (HS.out.keep hG3).at (show i < n2 by omega)
                  have hkn : i < n2 := by omega
                  cases hAS
                  obtain ⟨s4, s5⟩ := HSB.out s (List.mem_of_getElem? hgs)
                  have hcc : (r.k : Int) + r.n ≤ s.i := by
                    have : ¬ s.i < r.k + r.n := fun h => hcont ⟨s, hgs, h⟩
                    omega
                  clear hgs hcont hhd
                  go_wp2_with fail
                  go_quiet (fail)
                  go_wp2_with fail
                  go_roundw
                  case rel => exact ⟨j + 1, k, rs', by omega, hk2, by go_num, rfl, own_same HQ3.out (fun _ _ => rfl), by rw [HIN2.out, List.append_assoc]; exact HB2.out, hG3.drewN _⟩
                  case measure => simp [intOf] <;> omega
                · have hin2 : ¬ i < n2 := by omega
                  clear hcont hhd
                  go_wp2_with fail
                  go_quiet (fail)
                  go_wp2_with fail
                  go_roundw
                  case rel => exact ⟨j + 1, k, rs', by omega, hk2, by go_num, rfl, own_same HQ3.out (fun _ _ => rfl), by rw [HIN2.out, List.append_assoc]; exact HB2.out, hG3.drewN _⟩
                  case measure => simp [intOf] <;> omega
          · have hkn : ¬ k < n2 := by omega
            clear hcont
            go_wp2_with fail
            go_quiet (fail)
            go_wp2_with fail
            go_loopw [17, 13] (fun iv bv wr => InnerRel w2 r S rs k b0 iv bv wr) (fun iv _ _ => S.length - (intOf iv).toNat)
            case atStart => exact ⟨k, rs, Nat.le_refl _, hk2, rfl, own_same HQ1.out (fun _ _ => rfl), rfl, HHD.out, (hG1.drewN m).drewN nq, c0, c1, c2, hnb, hb0⟩
            case round =>
              obtain ⟨i, rs', hi1, hi2, rfl, hown3, hin, hhd, hG3, e0, e1, e2, hnb3, hb3⟩ := hrel
              obtain ⟨A5, c5, rfl⟩ := own_form hown3
              have HQ3 := Lib.hid hown3
              have HIN := Lib.hid hin
              have hw3 := Below.size hG3
              have hlen3 : rs'.length ≤ 1048576 := by
                have h1 := congrArg List.length hin
                have h2 := HIL.out
                rw [List.length_append, List.length_append] at h1
                omega
              clear hin hown3
              have HIN2 : Hid (rs' = rs ++ innerK r (S.drop k)) := Lib.hid (by rw [← HIN.out, inner_stop (fun s hg hs => by have := (List.getElem?_eq_some_iff.1 hg).1; omega), List.append_nil])
              have hin2 : ¬ i < n2 := by omega
              clear hhd
              go_wp2_with fail
              go_quiet (fail)
              go_wp2_with fail
              go_roundw
              case rel => exact ⟨j + 1, k, rs', by omega, hk2, by go_num, rfl, own_same HQ3.out (fun _ _ => rfl), by rw [HIN2.out, List.append_assoc]; exact HB2.out, hG3.drewN _⟩
              case measure => simp [intOf] <;> omega
    · have hjn : j = R.length := by omega
      have hbo := HBO.out
      rw [hjn, List.drop_length, bothF, List.append_nil] at hbo
      have h2 := HQ.out
      rw [hbo] at h2
      obtain ⟨A4, c4, hv4, h41, _, hr4⟩ := RunsAt.of_own h2 rfl
      rw [← hbo] at hv4 hr4 h41
      simp only [Value.slice.injEq, true_and] at hv4
      obtain ⟨rfl, rfl⟩ := hv4
      have hcz := own_none HQ.out
      rw [← hbo] at HBC
      have HBT := Lib.hid (betweenP_any src dst rs wr A3 rs.length c3 hr4 h41 hcz HBC.out (by omega) (by omega) (by omega))
      have HBE := Lib.hid hbo
      clear h2 hr4 hbo hcz HQ hjn
      go_wp2_with fail
      refine HBT.out.mono ?_
      rintro e w5 ⟨A5, n5, c5, rfl, h5, h6, h7, h8⟩
      go_wp2_with fail
      go_ret2
      rw [← HBE.out]
      exact ⟨A5, n5, c5, rfl, h5, h6, h7, hg02.trans (hG.trans h8)⟩
end Go.Proofs.Ytapginodpikijaa
