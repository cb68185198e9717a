/- TreePuts returns true for every input: a tree with any descendant replaced is the reference's, and the tree itself is not changed. No condition. -/
import Derived.Test.YtklncffhkdbkhaaTreeGets
import Derived.Test.YtklncffhkdbkhaaTrPutR
namespace Go.Proofs.Ytklncffhkdbkhaa
open Go.ChangeShapes Go.WideShapes Go.ChangeAt Go.RowKit
open Go.Lib hiding intOf

theorem small_facts {t : NT} (h : smallB t 100 60 300 = true) : countF t ≤ 100 ∧ depthF t ≤ 60 ∧ lenF t ≤ 90000 := by
  unfold smallB at h
  have h1 := of_decide_eq_true h
  obtain ⟨q1, q2, q3⟩ := roomF_ok t 100 60 300 h1
  have h2 : (countF t : Int) ≤ 100 := by omega
  have h3 : (countF t : Int) * (3 * 300) ≤ 100 * (3 * 300) := Int.mul_le_mul_of_nonneg_right h2 (by omega)
  omega
set_option maxRecDepth 100000 in
set_option maxHeartbeats 4000000 in
theorem treePuts_any (m : Nat) (v : ND) (t : NT) (mx : Nat) (vx : ND) (x : NT) (A : Option Addr) (n c : Nat) (zs : List Int) (w : World) (hr : NRep anyB m w v t) (hx : NRep anyB mx w vx x) (hz : IntsAt .i64 w A n zs) (hnc : n ≤ c) (hcm : c ≤ maxLen) : Calls Try.prog 6 #[.agg #[.int .i64 v.k, .string (bs v.l), .string (bs v.x), .slice v.A v.n v.c, .string (bs v.e)], .agg #[.int .i64 vx.k, .string (bs vx.l), .string (bs vx.x), .slice vx.A vx.n vx.c, .string (bs vx.e)], .slice A n c] w (RB true w) := by
  have hn : n ≤ 9223372036854775807 := by unfold maxLen at hcm; omega
  have HF : Hid (∀ w', Gr w w' → Calls Try.prog 10 #[.agg #[.int .i64 v.k, .string (bs v.l), .string (bs v.x), .slice v.A v.n v.c, .string (bs v.e)]] w' (RB (fitB t) w')) := Lib.hid (fun w' hg => fitP_any m v t w' (hr.gr hg))
  have HSX : Hid (∀ w', Gr w w' → Calls Try.prog 24 #[.agg #[.int .i64 vx.k, .string (bs vx.l), .string (bs vx.x), .slice vx.A vx.n vx.c, .string (bs vx.e)], .int .i64 100, .int .i64 60, .int .i64 300] w' (RB (smallB x 100 60 300) w')) := Lib.hid (fun w' hg => smallP_any mx vx x 100 60 300 w' (hx.gr hg) (by omega) (by omega) (by omega) (by omega) (by omega) (by omega))
  cases hfit : fitB t with
  | false =>
    rw [hfit] at HF
    clear hr hx hz hfit HSX hcm
    go_enter Try.func6, Try.ntmps6
    go_wp2_with fail
    have hw2 : (w.alloc (.cells #[.int .i64 v.k, .string (bs v.l), .string (bs v.x), .slice v.A v.n v.c, .string (bs v.e)] 24)).heap.size = w.heap.size + 1 := by simp
    have BN := Lib.hid (show NBox ((w.alloc (.cells #[.int .i64 v.k, .string (bs v.l), .string (bs v.x), .slice v.A v.n v.c, .string (bs v.e)] 24)).alloc (.cells #[.int .i64 vx.k, .string (bs vx.l), .string (bs vx.x), .slice vx.A vx.n vx.c, .string (bs vx.e)] 24)) w.heap.size v from (heapOld (by simp)).trans (heap_alloc_new w _))
    have BX := Lib.hid (show NBox ((w.alloc (.cells #[.int .i64 v.k, .string (bs v.l), .string (bs v.x), .slice v.A v.n v.c, .string (bs v.e)] 24)).alloc (.cells #[.int .i64 vx.k, .string (bs vx.l), .string (bs vx.x), .slice vx.A vx.n vx.c, .string (bs vx.e)] 24)) (w.heap.size + 1) vx from by have h := heap_alloc_new (w.alloc (.cells #[.int .i64 v.k, .string (bs v.l), .string (bs v.x), .slice v.A v.n v.c, .string (bs v.e)] 24)) (.cells #[.int .i64 vx.k, .string (bs vx.l), .string (bs vx.x), .slice vx.A vx.n vx.c, .string (bs vx.e)] 24); rwa [hw2] at h)
    clear hw2
    refine (HF.out _ (((Gr.refl w).alloc _).alloc _)).mono ?_
    rintro e w1 ⟨rfl, hb1⟩
    have hw1 : Gr w w1 := (((Gr.refl w).alloc _).alloc _).trans hb1
    have hg1 : Gr w w1 := hw1
    replace BN := Lib.hid (BN.out.gr hb1)
    replace BX := Lib.hid (BX.out.gr hb1)
    clear hw1 hb1
    go_wp2_with fail
    refine (livesP_any _).mono ?_
    rintro e w2 ⟨rfl, hb2⟩
    have hw2 : Gr w1 w2 := hb2
    have hg2 := hg1.trans hw2
    clear hg1
    replace BN := Lib.hid (BN.out.gr hw2)
    replace BX := Lib.hid (BX.out.gr hw2)
    clear hw2
    try clear hb2
    go_wp2_with fail
    go_ret
    exact ⟨rfl, by with_reducible assumption⟩
  | true =>
    rw [hfit] at HF
    obtain ⟨f1, f2, f3⟩ := fit_facts hfit
    cases hsx : smallB x 100 60 300 with
    | false =>
      rw [hsx] at HSX
      clear hr hx hz hfit hsx hcm
      go_enter Try.func6, Try.ntmps6
      go_wp2_with fail
      have hw2 : (w.alloc (.cells #[.int .i64 v.k, .string (bs v.l), .string (bs v.x), .slice v.A v.n v.c, .string (bs v.e)] 24)).heap.size = w.heap.size + 1 := by simp
      have BN := Lib.hid (show NBox ((w.alloc (.cells #[.int .i64 v.k, .string (bs v.l), .string (bs v.x), .slice v.A v.n v.c, .string (bs v.e)] 24)).alloc (.cells #[.int .i64 vx.k, .string (bs vx.l), .string (bs vx.x), .slice vx.A vx.n vx.c, .string (bs vx.e)] 24)) w.heap.size v from (heapOld (by simp)).trans (heap_alloc_new w _))
      have BX := Lib.hid (show NBox ((w.alloc (.cells #[.int .i64 v.k, .string (bs v.l), .string (bs v.x), .slice v.A v.n v.c, .string (bs v.e)] 24)).alloc (.cells #[.int .i64 vx.k, .string (bs vx.l), .string (bs vx.x), .slice vx.A vx.n vx.c, .string (bs vx.e)] 24)) (w.heap.size + 1) vx from by have h := heap_alloc_new (w.alloc (.cells #[.int .i64 v.k, .string (bs v.l), .string (bs v.x), .slice v.A v.n v.c, .string (bs v.e)] 24)) (.cells #[.int .i64 vx.k, .string (bs vx.l), .string (bs vx.x), .slice vx.A vx.n vx.c, .string (bs vx.e)] 24); rwa [hw2] at h)
      clear hw2
      refine (HF.out _ (((Gr.refl w).alloc _).alloc _)).mono ?_
      rintro e w1 ⟨rfl, hb1⟩
      have hw1 : Gr w w1 := (((Gr.refl w).alloc _).alloc _).trans hb1
      have hg1 : Gr w w1 := hw1
      replace BN := Lib.hid (BN.out.gr hb1)
      replace BX := Lib.hid (BX.out.gr hb1)
      clear hw1 hb1
      obtain ⟨q0, q1, q2, q3, q4⟩ := BX.out.cells
      try simp only [List.getElem?_toArray, List.getElem?_cons_zero, List.getElem?_cons_succ] at q0 q1 q2 q3 q4
      have ql := lt_of_block BX.out
      go_wp2_with fail
      clear q0 q1 q2 q3 q4 ql
      refine (HSX.out _ hg1).mono ?_
      rintro e w2 ⟨rfl, hb2⟩
      have hw2 : Gr w1 w2 := hb2
      have hg2 := hg1.trans hw2
      clear hg1
      replace BN := Lib.hid (BN.out.gr hw2)
      replace BX := Lib.hid (BX.out.gr hw2)
      clear hw2
      try clear hb2
      go_wp2_with fail
      refine (livesP_any _).mono ?_
      rintro e w3 ⟨rfl, hb3⟩
      have hw3 : Gr w2 w3 := hb3
      have hg3 := hg2.trans hw3
      clear hg2
      replace BN := Lib.hid (BN.out.gr hw3)
      replace BX := Lib.hid (BX.out.gr hw3)
      clear hw3
      try clear hb3
      go_wp2_with fail
      go_ret
      exact ⟨rfl, by with_reducible assumption⟩
    | true =>
      rw [hsx] at HSX
      obtain ⟨g1, g2, g3⟩ := small_facts hsx
      by_cases hn60 : 60 < n
      · clear hr hx hz hfit hsx hcm
        go_enter Try.func6, Try.ntmps6
        go_wp2_with fail
        have hw2 : (w.alloc (.cells #[.int .i64 v.k, .string (bs v.l), .string (bs v.x), .slice v.A v.n v.c, .string (bs v.e)] 24)).heap.size = w.heap.size + 1 := by simp
        have BN := Lib.hid (show NBox ((w.alloc (.cells #[.int .i64 v.k, .string (bs v.l), .string (bs v.x), .slice v.A v.n v.c, .string (bs v.e)] 24)).alloc (.cells #[.int .i64 vx.k, .string (bs vx.l), .string (bs vx.x), .slice vx.A vx.n vx.c, .string (bs vx.e)] 24)) w.heap.size v from (heapOld (by simp)).trans (heap_alloc_new w _))
        have BX := Lib.hid (show NBox ((w.alloc (.cells #[.int .i64 v.k, .string (bs v.l), .string (bs v.x), .slice v.A v.n v.c, .string (bs v.e)] 24)).alloc (.cells #[.int .i64 vx.k, .string (bs vx.l), .string (bs vx.x), .slice vx.A vx.n vx.c, .string (bs vx.e)] 24)) (w.heap.size + 1) vx from by have h := heap_alloc_new (w.alloc (.cells #[.int .i64 v.k, .string (bs v.l), .string (bs v.x), .slice v.A v.n v.c, .string (bs v.e)] 24)) (.cells #[.int .i64 vx.k, .string (bs vx.l), .string (bs vx.x), .slice vx.A vx.n vx.c, .string (bs vx.e)] 24); rwa [hw2] at h)
        clear hw2
        refine (HF.out _ (((Gr.refl w).alloc _).alloc _)).mono ?_
        rintro e w1 ⟨rfl, hb1⟩
        have hw1 : Gr w w1 := (((Gr.refl w).alloc _).alloc _).trans hb1
        have hg1 : Gr w w1 := hw1
        replace BN := Lib.hid (BN.out.gr hb1)
        replace BX := Lib.hid (BX.out.gr hb1)
        clear hw1 hb1
        obtain ⟨q0, q1, q2, q3, q4⟩ := BX.out.cells
        try simp only [List.getElem?_toArray, List.getElem?_cons_zero, List.getElem?_cons_succ] at q0 q1 q2 q3 q4
        have ql := lt_of_block BX.out
        go_wp2_with fail
        clear q0 q1 q2 q3 q4 ql
        refine (HSX.out _ hg1).mono ?_
        rintro e w2 ⟨rfl, hb2⟩
        have hw2 : Gr w1 w2 := hb2
        have hg2 := hg1.trans hw2
        clear hg1
        replace BN := Lib.hid (BN.out.gr hw2)
        replace BX := Lib.hid (BX.out.gr hw2)
        clear hw2
        try clear hb2
        go_wp2_with fail
        refine (livesP_any _).mono ?_
        rintro e w3 ⟨rfl, hb3⟩
        have hw3 : Gr w2 w3 := hb3
        have hg3 := hg2.trans hw3
        clear hg2
        replace BN := Lib.hid (BN.out.gr hw3)
        replace BX := Lib.hid (BX.out.gr hw3)
        clear hw3
        try clear hb3
        go_wp2_with fail
        go_ret
        exact ⟨rfl, by with_reducible assumption⟩
      clear hfit hsx
      have HP : Hid (∀ w', Gr w w' → Calls Try.prog 26 #[.agg #[.int .i64 v.k, .string (bs v.l), .string (bs v.x), .slice v.A v.n v.c, .string (bs v.e)], .agg #[.int .i64 vx.k, .string (bs vx.l), .string (bs vx.x), .slice vx.A vx.n vx.c, .string (bs vx.e)], .slice A n c] w' (PutPost (putO t zs x) w')) := Lib.hid (fun w' hg => putP_any m v t mx vx x A n c zs w' (hr.gr hg) (hx.gr hg) (hz.keep hg) hn (by omega) (by omega))
      have HPR : Hid (∀ w', Gr w w' → Calls Try.prog 27 #[.agg #[.int .i64 v.k, .string (bs v.l), .string (bs v.x), .slice v.A v.n v.c, .string (bs v.e)], .agg #[.int .i64 vx.k, .string (bs vx.l), .string (bs vx.x), .slice vx.A vx.n vx.c, .string (bs vx.e)], .slice A n c] w' (PutPost (putO t zs x) w')) := Lib.hid (fun w' hg => (putRP_any m v t mx vx x A n c zs w.heap.size w' (Below.size hg) (hr.lt.gr hg) (hx.lt.gr hg) (hz.keep hg) hnc hcm (by omega)).mono (fun e w'' ⟨m5, d5, h5, h6, h7⟩ => ⟨m5, d5, h5, h6.mono (fun _ _ => trivial), h7⟩))
      have HPT : Hid (∀ w', Gr w w' → Calls Try.prog 25 #[.agg #[.int .i64 v.k, .string (bs v.l), .string (bs v.x), .slice v.A v.n v.c, .string (bs v.e)]] w' (RS (printF t) w')) := Lib.hid (fun w' hg => printRP_any m v t w' (hr.gr hg) (by omega))
      generalize putO t zs x = Q at *
      generalize printF t = PT at *
      clear hr hx hz hcm f1 f2 f3 g1 g2 g3
      go_enter Try.func6, Try.ntmps6
      go_wp2_with fail
      have hw2 : (w.alloc (.cells #[.int .i64 v.k, .string (bs v.l), .string (bs v.x), .slice v.A v.n v.c, .string (bs v.e)] 24)).heap.size = w.heap.size + 1 := by simp
      have BN := Lib.hid (show NBox ((w.alloc (.cells #[.int .i64 v.k, .string (bs v.l), .string (bs v.x), .slice v.A v.n v.c, .string (bs v.e)] 24)).alloc (.cells #[.int .i64 vx.k, .string (bs vx.l), .string (bs vx.x), .slice vx.A vx.n vx.c, .string (bs vx.e)] 24)) w.heap.size v from (heapOld (by simp)).trans (heap_alloc_new w _))
      have BX := Lib.hid (show NBox ((w.alloc (.cells #[.int .i64 v.k, .string (bs v.l), .string (bs v.x), .slice v.A v.n v.c, .string (bs v.e)] 24)).alloc (.cells #[.int .i64 vx.k, .string (bs vx.l), .string (bs vx.x), .slice vx.A vx.n vx.c, .string (bs vx.e)] 24)) (w.heap.size + 1) vx from by have h := heap_alloc_new (w.alloc (.cells #[.int .i64 v.k, .string (bs v.l), .string (bs v.x), .slice v.A v.n v.c, .string (bs v.e)] 24)) (.cells #[.int .i64 vx.k, .string (bs vx.l), .string (bs vx.x), .slice vx.A vx.n vx.c, .string (bs vx.e)] 24); rwa [hw2] at h)
      clear hw2
      refine (HF.out _ (((Gr.refl w).alloc _).alloc _)).mono ?_
      rintro e w1 ⟨rfl, hb1⟩
      have hw1 : Gr w w1 := (((Gr.refl w).alloc _).alloc _).trans hb1
      have hg1 : Gr w w1 := hw1
      replace BN := Lib.hid (BN.out.gr hb1)
      replace BX := Lib.hid (BX.out.gr hb1)
      clear hw1 hb1
      obtain ⟨q0, q1, q2, q3, q4⟩ := BX.out.cells
      try simp only [List.getElem?_toArray, List.getElem?_cons_zero, List.getElem?_cons_succ] at q0 q1 q2 q3 q4
      have ql := lt_of_block BX.out
      go_wp2_with fail
      clear q0 q1 q2 q3 q4 ql
      refine (HSX.out _ hg1).mono ?_
      rintro e w2 ⟨rfl, hb2⟩
      have hw2 : Gr w1 w2 := hb2
      have hg2 := hg1.trans hw2
      clear hg1
      replace BN := Lib.hid (BN.out.gr hw2)
      replace BX := Lib.hid (BX.out.gr hw2)
      clear hw2
      try clear hb2
      obtain ⟨k0, k1, k2, k3, k4⟩ := BN.out.cells
      try simp only [List.getElem?_toArray, List.getElem?_cons_zero, List.getElem?_cons_succ] at k0 k1 k2 k3 k4
      have kl := lt_of_block BN.out
      go_wp2_with fail
      clear k0 k1 k2 k3 k4 kl
      refine (HPT.out _ hg2).mono ?_
      rintro e w3 ⟨rfl, hb3⟩
      have hw3 : Gr w2 w3 := hb3
      have hg3 := hg2.trans hw3
      clear hg2
      replace BN := Lib.hid (BN.out.gr hw3)
      replace BX := Lib.hid (BX.out.gr hw3)
      clear hw3
      try clear hb3
      obtain ⟨k0, k1, k2, k3, k4⟩ := BN.out.cells
      try simp only [List.getElem?_toArray, List.getElem?_cons_zero, List.getElem?_cons_succ] at k0 k1 k2 k3 k4
      have kl := lt_of_block BN.out
      obtain ⟨q0, q1, q2, q3, q4⟩ := BX.out.cells
      try simp only [List.getElem?_toArray, List.getElem?_cons_zero, List.getElem?_cons_succ] at q0 q1 q2 q3 q4
      have ql := lt_of_block BX.out
      go_wp2_with fail
      clear k0 k1 k2 k3 k4 kl
      clear q0 q1 q2 q3 q4 ql
      refine (HP.out _ hg3).mono ?_
      rintro e w4 ⟨m4, d4, rfl, hr4, hb4⟩
      have hw4 : Gr w3 w4 := hb4
      have hg4 := hg3.trans hw4
      clear hg3
      replace BN := Lib.hid (BN.out.gr hw4)
      replace BX := Lib.hid (BX.out.gr hw4)
      clear hw4
      try clear hb4
      have HR4 := Lib.hid (show NRep anyB m4 w4 d4 (Q.getD zeroT) from hr4)
      clear hr4
      have B4 := Lib.hid (show NBox (w4.alloc (.cells #[.int .i64 d4.k, .string (bs d4.l), .string (bs d4.x), .slice d4.A d4.n d4.c, .string (bs d4.e)] 24)) w4.heap.size d4 from heap_alloc_new w4 _)
      obtain ⟨k0, k1, k2, k3, k4⟩ := BN.out.cells
      try simp only [List.getElem?_toArray, List.getElem?_cons_zero, List.getElem?_cons_succ] at k0 k1 k2 k3 k4
      have kl := lt_of_block BN.out
      obtain ⟨q0, q1, q2, q3, q4⟩ := BX.out.cells
      try simp only [List.getElem?_toArray, List.getElem?_cons_zero, List.getElem?_cons_succ] at q0 q1 q2 q3 q4
      have ql := lt_of_block BX.out
      go_wp2_with fail
      clear k0 k1 k2 k3 k4 kl
      clear q0 q1 q2 q3 q4 ql
      refine (HPR.out _ (hg4.trans ((Gr.refl _).alloc _))).mono ?_
      rintro e w5 ⟨m5, d5, rfl, hr5, hb5⟩
      have hw5 : Gr w4 w5 := ((Gr.refl w4).alloc _).trans hb5
      have hg5 := hg4.trans hw5
      clear hg4
      replace BN := Lib.hid (BN.out.gr hw5)
      replace BX := Lib.hid (BX.out.gr hw5)
      replace HR4 := Lib.hid (HR4.out.gr hw5)
      replace B4 := Lib.hid (B4.out.gr hb5)
      clear hw5 hb5
      have HR5 := Lib.hid (show NRep anyB m5 w5 d5 (Q.getD zeroT) from hr5)
      clear hr5 BX
      have B5 := Lib.hid (show NBox (w5.alloc (.cells #[.int .i64 d5.k, .string (bs d5.l), .string (bs d5.x), .slice d5.A d5.n d5.c, .string (bs d5.e)] 24)) w5.heap.size d5 from heap_alloc_new w5 _)
      obtain ⟨x0, x1, x2, x3, x4⟩ := B4.out.cells
      try simp only [List.getElem?_toArray, List.getElem?_cons_zero, List.getElem?_cons_succ] at x0 x1 x2 x3 x4
      have xl := lt_of_block B4.out
      obtain ⟨y0, y1, y2, y3, y4⟩ := B5.out.cells
      try simp only [List.getElem?_toArray, List.getElem?_cons_zero, List.getElem?_cons_succ] at y0 y1 y2 y3 y4
      have yl := lt_of_block B5.out
      go_wp2_with fail
      clear x0 x1 x2 x3 x4 xl
      clear y0 y1 y2 y3 y4 yl
      refine (sameRP_any (max m4 m5) d4 _ d5 _ true _ ((HR4.out.gr ((Gr.refl _).alloc _)).ups _ (Nat.le_max_left m4 m5)) ((HR5.out.gr ((Gr.refl _).alloc _)).ups _ (Nat.le_max_right m4 m5)) (sameF_refl _)).mono ?_
      rintro e w6 ⟨rfl, hb6⟩
      have hw6 : Gr w5 w6 := ((Gr.refl w5).alloc _).trans hb6
      have hg6 := hg5.trans hw6
      clear hg5
      replace BN := Lib.hid (BN.out.gr hw6)
      replace HR4 := Lib.hid (HR4.out.gr hw6)
      replace B4 := Lib.hid (B4.out.gr hw6)
      replace HR5 := Lib.hid (HR5.out.gr hw6)
      replace B5 := Lib.hid (B5.out.gr hb6)
      clear hw6 hb6
      obtain ⟨k0, k1, k2, k3, k4⟩ := BN.out.cells
      try simp only [List.getElem?_toArray, List.getElem?_cons_zero, List.getElem?_cons_succ] at k0 k1 k2 k3 k4
      have kl := lt_of_block BN.out
      go_wp2_with fail
      clear k0 k1 k2 k3 k4 kl
      refine (HPT.out _ hg6).mono ?_
      rintro e w7 ⟨rfl, hb7⟩
      have hw7 : Gr w6 w7 := hb7
      have hg7 := hg6.trans hw7
      clear hg6
      replace BN := Lib.hid (BN.out.gr hw7)
      replace HR4 := Lib.hid (HR4.out.gr hw7)
      replace B4 := Lib.hid (B4.out.gr hw7)
      replace HR5 := Lib.hid (HR5.out.gr hw7)
      replace B5 := Lib.hid (B5.out.gr hw7)
      clear hw7
      try clear hb7
      go_wp2_with fail
      refine (livesP_any _).mono ?_
      rintro e w8 ⟨rfl, hb8⟩
      have hw8 : Gr w7 w8 := hb8
      have hg8 := hg7.trans hw8
      clear hg7
      replace BN := Lib.hid (BN.out.gr hw8)
      replace HR4 := Lib.hid (HR4.out.gr hw8)
      replace B4 := Lib.hid (B4.out.gr hw8)
      replace HR5 := Lib.hid (HR5.out.gr hw8)
      replace B5 := Lib.hid (B5.out.gr hw8)
      clear hw8
      try clear hb8
      go_wp2_with fail
      go_ret
      exact ⟨rfl, by with_reducible assumption⟩

namespace TreePuts
set_option maxRecDepth 100000 in
theorem lifted (os : Os) (started : os.Started) (H : Type) (enc : TypeId × Value → H) :
    ReturnsInHanded {} Try.checked os 6 .any (Rows.treePutsSpec.pre6 enc Try.prog Try.f6 Rows.treePutsRow.domain false) (Rows.treePutsSpec.post enc Try.prog Try.f6 false true false false) := by
  refine law_lifted (C := Try.checked) (tb := 4) own started (by kernel_rfl) Try.func6 laidOut rfl rfl Try.underlying4 (by kernel_rfl) ?_
    (ChangeSpec.witness6 (enc := enc) (C := Try.checked) false ⟨#[], #[.agg #[.int .i64 0, .string ⟨#[]⟩, .string ⟨#[]⟩, .slice none 0 0, .string ⟨#[]⟩], .agg #[.int .i64 0, .string ⟨#[]⟩, .string ⟨#[]⟩, .slice none 0 0, .string ⟨#[]⟩], .slice none 0 0], []⟩ 8 (by kernel_rfl) (by kernel_rfl) (by kernel_rfl) (by kernel_rfl)) ?_
  · intro ds hl
    match ds, hl with
    | [_, _, _], _ => rfl
  · intro W base args ds ps hval0 hA0 hlt
    have hval : ∀ (j : Nat) t v, Try.f6.params[j]? = some t → args[j]? = some v → Value.okWide Try.prog W .any base t v := hval0
    have hA : DataW.TrodAll enc Try.prog W 0 (fun _ => true) true Try.f6.params.toList args.toList ds ps := hA0
    rw [Try.params6] at hA hval
    obtain ⟨v0, v1, v2, d0, d1, d2, p0, p1, p2, rfl, rfl, rfl, h0, h1, h2⟩ := trodAll_three hA
    obtain ⟨ev0, tv0, mv0, rfl, hrv0⟩ := open_node (hval 0 24 v0 rfl rfl) h0
    obtain ⟨ev1, tv1, mv1, rfl, hrv1⟩ := open_node (hval 1 24 v1 rfl rfl) h1
    obtain ⟨Av2, lenv2, capv2, rfl⟩ := okWide_slice Try.underlying32 (hval 2 32 v2 rfl rfl)
    obtain ⟨nv2, hrv2⟩ := Rd.of_trod h2
    obtain ⟨A', len', cap', zsv2, hcs, hlcv2, hcmv2, hzv2⟩ := rd_intslice Try.underlying32 Try.underlying3 cells1 hrv2
    simp only [Value.cells, List.cons.injEq, Value.slice.injEq, and_true] at hcs
    obtain ⟨rfl, rfl, rfl⟩ := hcs
    exact treePuts_any mv0 ev0 tv0 mv1 ev1 tv1 Av2 lenv2 capv2 zsv2 W hrv0 hrv1 hzv2 hlcv2 hcmv2

theorem proved : Rows.TreePutsSaid :=
  OpenClaim.holds_of_wide 6 Try.f6 rfl rfl rfl rfl rfl rfl rfl ⟨rfl, rfl, rfl, rfl, rfl⟩ rfl rfl rfl rfl rfl (by kernel_rfl) Try.func6 (by kernel_rfl)
    (of_decide_eq_true (by kernel_rfl)) (by unfold Func.isWrapper; first | (rw [if_pos (by decide +kernel)]; kernel_rfl) | (rw [if_neg (by decide +kernel)]; exact ⟨rfl, rfl⟩))
    (fun os started H enc _ => lifted os started H enc)
end TreePuts
end Go.Proofs.Ytklncffhkdbkhaa
