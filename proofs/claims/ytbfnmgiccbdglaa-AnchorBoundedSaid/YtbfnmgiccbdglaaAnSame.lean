/- Whether two trees are the same, walked. -/
import Derived.Test.YtbfnmgiccbdglaaAnRPlain
namespace Go.Proofs.Ytbfnmgiccbdglaa
open Go.ChangeShapes Go.WideShapes Go.ChangeAt Go.RowKit

theorem sameF_mk (k k' : Int) (l l' x x' e e' : List UInt8) (ks ks' : List NT) : sameF (.mk k l x ks e) (.mk k' l' x' ks' e') = if k = k' ∧ l = l' ∧ x = x' ∧ e = e' ∧ ks.length = ks'.length then sameL ks ks' else false := by rw [sameF]
theorem sameL_go {ks ks' : List NT} {j : Nat} {y y' : NT} (h : ks[j]? = some y) (h' : ks'[j]? = some y') (hs : sameF y y' = true) : sameL (ks.drop j) (ks'.drop j) = sameL (ks.drop (j + 1)) (ks'.drop (j + 1)) := by
  rw [drop_at h, drop_at h', sameL, if_pos hs]
theorem sameL_no {ks ks' : List NT} {j : Nat} {y y' : NT} (h : ks[j]? = some y) (h' : ks'[j]? = some y') (hs : sameF y y' = false) : sameL (ks.drop j) (ks'.drop j) = false := by
  rw [drop_at h, drop_at h', sameL, if_neg (by rw [hs]; decide)]
theorem sameL_nil {ks ks' : List NT} : sameL (ks.drop ks.length) ks' = true := by
  rw [List.drop_length, sameL]
  intro _ _ _ _ h
  cases h
theorem bs_ne {a b : List UInt8} (h : a ≠ b) : ((bs a).toList == (bs b).toList) = false := by
  rw [bs_listR, bs_listR]
  exact beq_false_of_ne h
mutual
theorem sameF_eq : ∀ t t' : NT, sameF t t' = true → t = t'
  | .mk k l x ks e, .mk k' l' x' ks' e', h => by
    rw [sameF_mk] at h
    split at h
    · rename_i hc
      obtain ⟨rfl, rfl, rfl, rfl, hl⟩ := hc
      rw [sameL_eq ks ks' hl h]
    · cases h
theorem sameL_eq : ∀ l l' : List NT, l.length = l'.length → sameL l l' = true → l = l'
  | [], [], _, _ => rfl
  | [], _ :: _, hl, _ => by simp at hl
  | _ :: _, [], hl, _ => by simp at hl
  | y :: r, y' :: r', hl, h => by
    rw [sameL] at h
    split at h
    · rename_i hc
      rw [sameF_eq y y' hc, sameL_eq r r' (by simpa using hl) h]
    · cases h
end
def SmRel (w : World) (b0 : Nat) (d d' : ND) (ks ks' : List NT) (Q : Bool) (n : Nat) (iv : Value) (wr : World) : Prop :=
  ∃ j : Nat, j ≤ n ∧ iv = .int .i64 j ∧ sameL (ks.drop j) (ks'.drop j) = Q ∧ NBox wr b0 d ∧ NBox wr (b0 + 1) d' ∧ Gr w wr
set_option maxRecDepth 100000 in
set_option maxHeartbeats 4000000 in
theorem sameRP_any : ∀ (m : Nat) (v : ND) (t : NT) (v' : ND) (t' : NT) (S : Bool) (w : World), NRep anyB m w v t → NRep anyB m w v' t' → sameF t t' = S → Calls Try.prog 24 #[.agg #[.int .i64 v.k, .string (bs v.l), .string (bs v.x), .slice v.A v.n v.c, .string (bs v.e)], .agg #[.int .i64 v'.k, .string (bs v'.l), .string (bs v'.x), .slice v'.A v'.n v'.c, .string (bs v'.e)]] w (RB S w) := by
  intro m
  induction m with
  | zero => intro v t v' t' S w h; exact h.elim
  | succ m ih =>
    intro v t v' t' S w hr hr' hS
    obtain ⟨A, n, c, rfl, p1, p2, p3, p4, p5, p6, p7, p8, p9⟩ := hr.open5
    obtain ⟨A', n', c', rfl, p1', p2', p3', p4', p5', p6', p7', p8', p9'⟩ := hr'.open5
    have hn63 : n ≤ maxLen := Nat.le_trans p2 p3
    have hn63' : n' ≤ maxLen := Nat.le_trans p2' p3'
    unfold maxLen at hn63 p3 hn63' p3'
    obtain ⟨k, l, x, ks, e⟩ := t
    obtain ⟨k', l', x', ks', e'⟩ := t'
    simp only [NT.k, NT.l, NT.x, NT.ks, NT.e] at *
    have HI := Lib.hid ih
    have HN := Lib.hid p1
    have HN' := Lib.hid p1'
    have HK0 : Hid (Kids anyB m w A ks) := Lib.hid p9
    have HK0' : Hid (Kids anyB m w A' ks') := Lib.hid p9'
    have hS2 := hS
    rw [sameF_mk] at hS2
    clear ih hr hr' p9 p9' p8 p8' p4 p4' p5 p5' p6 p6' p7 p7' hS p1 p1'
    by_cases hk : k = k'
    case neg =>
      rw [if_neg (fun h => hk h.1)] at hS2
      subst hS2
      have h1 : (k == k') = false := beq_false_of_ne hk
      have h2 : (k != k') = true := bne_iff_ne.2 hk
      clear HK0 HK0'
      go_enter Try.func24, Try.ntmps24
      go_wp2_with fail
      go_ret
      exact ⟨rfl, (by with_reducible (repeat (first | exact Gr.refl _ | assumption | apply Gr.alloc | apply Gr.drew | apply Gr.drewN | refine Gr.setCell ?_ (by first | (simp; done) | (simp; omega)) _ | refine Gr.trans ?_ (by assumption))))⟩
    subst hk
    by_cases hl : l = l'
    case neg =>
      rw [if_neg (fun h => hl h.2.1)] at hS2
      subst hS2
      have h1 := bs_ne hl
      clear HK0 HK0'
      go_enter Try.func24, Try.ntmps24
      go_wp2_with fail
      go_ret
      exact ⟨rfl, (by with_reducible (repeat (first | exact Gr.refl _ | assumption | apply Gr.alloc | apply Gr.drew | apply Gr.drewN | refine Gr.setCell ?_ (by first | (simp; done) | (simp; omega)) _ | refine Gr.trans ?_ (by assumption))))⟩
    subst hl
    by_cases hx : x = x'
    case neg =>
      rw [if_neg (fun h => hx h.2.2.1)] at hS2
      subst hS2
      have h1 := bs_ne hx
      clear HK0 HK0'
      go_enter Try.func24, Try.ntmps24
      go_wp2_with fail
      go_ret
      exact ⟨rfl, (by with_reducible (repeat (first | exact Gr.refl _ | assumption | apply Gr.alloc | apply Gr.drew | apply Gr.drewN | refine Gr.setCell ?_ (by first | (simp; done) | (simp; omega)) _ | refine Gr.trans ?_ (by assumption))))⟩
    subst hx
    by_cases he : e = e'
    case neg =>
      rw [if_neg (fun h => he h.2.2.2.1)] at hS2
      subst hS2
      have h1 := bs_ne he
      clear HK0 HK0'
      go_enter Try.func24, Try.ntmps24
      go_wp2_with fail
      go_ret
      exact ⟨rfl, (by with_reducible (repeat (first | exact Gr.refl _ | assumption | apply Gr.alloc | apply Gr.drew | apply Gr.drewN | refine Gr.setCell ?_ (by first | (simp; done) | (simp; omega)) _ | refine Gr.trans ?_ (by assumption))))⟩
    subst he
    by_cases hnn : n = n'
    case neg =>
      have hS3 : S = false := by rw [← hS2, if_neg (fun h => hnn (by have h1 := HN.out; have h2 := HN'.out; rw [h1, h2]; exact h.2.2.2.2))]
      subst hS3
      have h1 : (n == n') = false := beq_false_of_ne hnn
      have h2 : (n != n') = true := bne_iff_ne.2 hnn
      have h3 : ((n : Int) == n') = false := beq_false_of_ne (by omega)
      have h4 : ((n : Int) != n') = true := bne_iff_ne.2 (by omega)
      clear HK0 HK0' hS2
      go_enter Try.func24, Try.ntmps24
      go_wp2_with fail
      go_ret
      exact ⟨rfl, (by with_reducible (repeat (first | exact Gr.refl _ | assumption | apply Gr.alloc | apply Gr.drew | apply Gr.drewN | refine Gr.setCell ?_ (by first | (simp; done) | (simp; omega)) _ | refine Gr.trans ?_ (by assumption))))⟩
    subst hnn
    rw [if_pos ⟨rfl, rfl, rfl, rfl, by rw [← HN.out, ← HN'.out]⟩] at hS2
    have HS := Lib.hid hS2
    clear hS2
    have hbn : NBox ((w.alloc (.cells #[.int .i64 k, .string (bs l), .string (bs x), .slice A n c, .string (bs e)] 24)).alloc (.cells #[.int .i64 k, .string (bs l), .string (bs x), .slice A' n c', .string (bs e)] 24)) w.heap.size ⟨k, l, x, A, n, c, e⟩ := (heapOldR (by simp)).trans (heap_alloc_new w _)
    have hbs : NBox ((w.alloc (.cells #[.int .i64 k, .string (bs l), .string (bs x), .slice A n c, .string (bs e)] 24)).alloc (.cells #[.int .i64 k, .string (bs l), .string (bs x), .slice A' n c', .string (bs e)] 24)) (w.heap.size + 1) ⟨k, l, x, A', n, c', e⟩ := by
      have h := heap_alloc_new (w.alloc (.cells #[.int .i64 k, .string (bs l), .string (bs x), .slice A n c, .string (bs e)] 24)) (.cells #[.int .i64 k, .string (bs l), .string (bs x), .slice A' n c', .string (bs e)] 24)
      have hz : (w.alloc (.cells #[.int .i64 k, .string (bs l), .string (bs x), .slice A n c, .string (bs e)] 24)).heap.size = w.heap.size + 1 := by simp
      rwa [hz] at h
    have hG1 : Gr w ((w.alloc (.cells #[.int .i64 k, .string (bs l), .string (bs x), .slice A n c, .string (bs e)] 24)).alloc (.cells #[.int .i64 k, .string (bs l), .string (bs x), .slice A' n c', .string (bs e)] 24)) := ((Gr.refl w).alloc _).alloc _
    have HBN := Lib.hid hbn
    have HBS := Lib.hid hbs
    clear hbn hbs
    go_enter Try.func24, Try.ntmps24
    go_wp2_with fail
    generalize ((w.alloc (.cells #[.int .i64 k, .string (bs l), .string (bs x), .slice A n c, .string (bs e)] 24)).alloc (.cells #[.int .i64 k, .string (bs l), .string (bs x), .slice A' n c', .string (bs e)] 24)) = W1 at *
    obtain ⟨b0, hb0⟩ : ∃ b0, b0 = w.heap.size := ⟨_, rfl⟩
    rw [← hb0] at HBN HBS
    rw [← hb0]
    clear hb0
    go_loopw [5] (fun iv wr => SmRel w b0 ⟨k, l, x, A, n, c, e⟩ ⟨k, l, x, A', n, c', e⟩ ks ks' S n iv wr) (fun iv _ => n - (intOf iv).toNat)
    case atStart => exact ⟨0, Nat.zero_le _, rfl, HS.out, HBN.out, HBS.out, hG1⟩
    case round =>
      obtain ⟨j, hj, rfl, hsl, hnb, hsb, hG⟩ := hrel
      have HSL := Lib.hid hsl
      have HNB := Lib.hid hnb
      have HSB := Lib.hid hsb
      obtain ⟨k0, k1, k2, k3, k4⟩ := hnb.cells
      obtain ⟨s0, s1, s2, s3, s4⟩ := hsb.cells
      simp only at k0 k1 k2 k3 k4 s0 s1 s2 s3 s4
      have hlb := lt_of_block hnb
      have hls := lt_of_block hsb
      clear hsl hnb hsb k0 k1 k2 k4 s0 s1 s2 s4
      by_cases hlt : j < n
      · obtain ⟨y, hy⟩ : ∃ y, ks[j]? = some y := ⟨ks[j]'(by have := HN.out; omega), List.getElem?_eq_getElem _⟩
        obtain ⟨y', hy'⟩ : ∃ y, ks'[j]? = some y := ⟨ks'[j]'(by have := HN'.out; omega), List.getElem?_eq_getElem _⟩
        obtain ⟨bk, ok, d, hA, _, hbk, hce, hre⟩ := HK0.out j y hy
        obtain ⟨bk', ok', d', hA', _, hbk', hce', hre'⟩ := HK0'.out j y' hy'
        subst hA hA'
        have HRE := Lib.hid hre
        have HRE' := Lib.hid hre'
        obtain ⟨e0, e1, e2, e3, e4⟩ := hce.keep (hG.on anyB) trivial hbk
        obtain ⟨q0, q1, q2, q3, q4⟩ := hce'.keep (hG.on anyB) trivial hbk'
        have hlt1 : (j : Int) < (n : Int) := by omega
        have hlt0 : (0 : Int) ≤ (j : Int) := by omega
        have hstep := fun (h : sameF y y' = true) => sameL_go hy hy' h
        have hstop := fun (h : sameF y y' = false) => sameL_no hy hy' h
        rw [HSL.out] at hstep hstop
        generalize hSS : sameF y y' = SS at hstep hstop
        have HSS := Lib.hid hSS
        have HSTEP := Lib.hid hstep
        have HSTOP := Lib.hid hstop
        clear hy hy' hce hce' hre hre' hstep hstop hSS
        go_wp2_with fail
        have kq9_0 := cell_regrown k3
        have kq9_1 := cell_regrown s3
        have kq9_2 := cell_regrown e0
        have kq9_3 := cell_regrown e1
        have kq9_4 := cell_regrown e2
        have kq9_5 := cell_regrown e3
        have kq9_6 := cell_regrown e4
        have kq9_7 := cell_regrown q0
        have kq9_8 := cell_regrown q1
        have kq9_9 := cell_regrown q2
        have kq9_10 := cell_regrown q3
        have kq9_11 := cell_regrown q4
        refine wp_region_quiet_below (by kernel_rfl) (by kernel_rfl) ?_
        repeat (go_big_quiet_step ((go_at_call 24; exact Calls.regrown_of (HI.out d y d' y' SS _ ((HRE.out.gr hG).gr (below_regrown _ _ _)) ((HRE'.out.gr hG).gr (below_regrown _ _ _)) HSS.out))))
        refine wpQuiet_nil ?_
        intro wq9 hwq9
        have hbq9 := gr_regrown hwq9
        clear hwq9
        replace kq9_0 := hbq9.cell k3
        replace kq9_1 := hbq9.cell s3
        replace kq9_2 := hbq9.cell e0
        replace kq9_3 := hbq9.cell e1
        replace kq9_4 := hbq9.cell e2
        replace kq9_5 := hbq9.cell e3
        replace kq9_6 := hbq9.cell e4
        replace kq9_7 := hbq9.cell q0
        replace kq9_8 := hbq9.cell q1
        replace kq9_9 := hbq9.cell q2
        replace kq9_10 := hbq9.cell q3
        replace kq9_11 := hbq9.cell q4
        cases SS with
        | true =>
          have HST := Lib.hid (HSTEP.out rfl)
          clear HSTEP HSTOP
          go_wp2_with fail
          go_roundw
          case rel => exact ⟨j + 1, by omega, by go_num, HST.out.symm, HNB.out.gr hbq9, HSB.out.gr hbq9, hG.trans hbq9⟩
          case measure => simp [intOf] <;> omega
        | false =>
          obtain rfl : S = false := HSTOP.out rfl
          clear HSTEP HSTOP
          go_wp2_with fail
          go_ret
          exact ⟨rfl, hG.trans hbq9⟩
      · have hjn : j = n := by omega
        have hS9 : S = true := by
          rw [← HSL.out, hjn, HN.out, sameL_nil]
        subst hS9
        clear hjn
        go_wp2_with fail
        go_ret
        exact ⟨rfl, hG⟩
end Go.Proofs.Ytbfnmgiccbdglaa
