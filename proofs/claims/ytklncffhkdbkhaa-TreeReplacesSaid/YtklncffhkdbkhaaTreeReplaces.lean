/- TreeReplaces returns true for every input: replacing a descendant changes the text only in its span. No condition. -/
import Derived.Test.YtklncffhkdbkhaaTreePuts
import Derived.Test.YtklncffhkdbkhaaTrRepl
namespace Go.Proofs.Ytklncffhkdbkhaa
open Go.ChangeShapes Go.WideShapes Go.ChangeAt Go.RowKit
open Go.Lib hiding intOf

set_option maxRecDepth 100000 in
set_option maxHeartbeats 4000000 in
theorem treeReplaces_any (m : Nat) (v : ND) (t : NT) (mx : Nat) (vx : ND) (x : NT) (A : Option Addr) (n c : Nat) (zs : List Int) (w : World) (hr : NRep anyB m w v t) (hx : NRep anyB mx w vx x) (hz : IntsAt .i64 w A n zs) (hnc : n ≤ c) (hcm : c ≤ maxLen) : Calls Try.prog 7 #[.agg #[.int .i64 v.k, .string (bs v.l), .string (bs v.x), .slice v.A v.n v.c, .string (bs v.e)], .agg #[.int .i64 vx.k, .string (bs vx.l), .string (bs vx.x), .slice vx.A vx.n vx.c, .string (bs vx.e)], .slice A n c] w (RB true w) := by
  have hn : n ≤ 9223372036854775807 := by unfold maxLen at hcm; omega
  have HF : Hid (∀ w', Gr w w' → Calls Try.prog 10 #[.agg #[.int .i64 v.k, .string (bs v.l), .string (bs v.x), .slice v.A v.n v.c, .string (bs v.e)]] w' (RB (fitB t) w')) := Lib.hid (fun w' hg => fitP_any m v t w' (hr.gr hg))
  have HSX : Hid (∀ w', Gr w w' → Calls Try.prog 24 #[.agg #[.int .i64 vx.k, .string (bs vx.l), .string (bs vx.x), .slice vx.A vx.n vx.c, .string (bs vx.e)], .int .i64 100, .int .i64 60, .int .i64 300] w' (RB (smallB x 100 60 300) w')) := Lib.hid (fun w' hg => smallP_any mx vx x 100 60 300 w' (hx.gr hg) (by omega) (by omega) (by omega) (by omega) (by omega) (by omega))
  cases hfit : fitB t with
  | false =>
    rw [hfit] at HF
    clear hr hx hz hfit HSX hcm
    go_enter Try.func7, Try.ntmps7
    go_wp2_with fail
    have hw2 : (w.alloc (.cells #[.int .i64 v.k, .string (bs v.l), .string (bs v.x), .slice v.A v.n v.c, .string (bs v.e)] 24)).heap.size = w.heap.size + 1 := by simp
    have BN := Lib.hid (show NBox ((w.alloc (.cells #[.int .i64 v.k, .string (bs v.l), .string (bs v.x), .slice v.A v.n v.c, .string (bs v.e)] 24)).alloc (.cells #[.int .i64 vx.k, .string (bs vx.l), .string (bs vx.x), .slice vx.A vx.n vx.c, .string (bs vx.e)] 24)) w.heap.size v from (heapOld (by simp)).trans (heap_alloc_new w _))
    have BX := Lib.hid (show NBox ((w.alloc (.cells #[.int .i64 v.k, .string (bs v.l), .string (bs v.x), .slice v.A v.n v.c, .string (bs v.e)] 24)).alloc (.cells #[.int .i64 vx.k, .string (bs vx.l), .string (bs vx.x), .slice vx.A vx.n vx.c, .string (bs vx.e)] 24)) (w.heap.size + 1) vx from by have h := heap_alloc_new (w.alloc (.cells #[.int .i64 v.k, .string (bs v.l), .string (bs v.x), .slice v.A v.n v.c, .string (bs v.e)] 24)) (.cells #[.int .i64 vx.k, .string (bs vx.l), .string (bs vx.x), .slice vx.A vx.n vx.c, .string (bs vx.e)] 24); rwa [hw2] at h)
    clear hw2
    refine (HF.out _ (((Gr.refl w).alloc _).alloc _)).mono ?_
    rintro e w1 ⟨rfl, hb1⟩
    have hw1 : Gr w w1 := (((Gr.refl w).alloc _).alloc _).trans hb1
    have hg1 : Gr w w1 := hw1
    replace BN := Lib.hid (BN.out.gr hb1)
    replace BX := Lib.hid (BX.out.gr hb1)
    clear hw1 hb1
    go_wp2_with fail
    refine (livesP_any _).mono ?_
    rintro e w2 ⟨rfl, hb2⟩
    have hw2 : Gr w1 w2 := hb2
    have hg2 := hg1.trans hw2
    clear hg1
    replace BN := Lib.hid (BN.out.gr hw2)
    replace BX := Lib.hid (BX.out.gr hw2)
    clear hw2
    try clear hb2
    go_wp2_with fail
    go_ret
    exact ⟨rfl, by with_reducible assumption⟩
  | true =>
    rw [hfit] at HF
    obtain ⟨f1, f2, f3⟩ := fit_facts hfit
    cases hsx : smallB x 100 60 300 with
    | false =>
      rw [hsx] at HSX
      clear hr hx hz hfit hsx hcm
      go_enter Try.func7, Try.ntmps7
      go_wp2_with fail
      have hw2 : (w.alloc (.cells #[.int .i64 v.k, .string (bs v.l), .string (bs v.x), .slice v.A v.n v.c, .string (bs v.e)] 24)).heap.size = w.heap.size + 1 := by simp
      have BN := Lib.hid (show NBox ((w.alloc (.cells #[.int .i64 v.k, .string (bs v.l), .string (bs v.x), .slice v.A v.n v.c, .string (bs v.e)] 24)).alloc (.cells #[.int .i64 vx.k, .string (bs vx.l), .string (bs vx.x), .slice vx.A vx.n vx.c, .string (bs vx.e)] 24)) w.heap.size v from (heapOld (by simp)).trans (heap_alloc_new w _))
      have BX := Lib.hid (show NBox ((w.alloc (.cells #[.int .i64 v.k, .string (bs v.l), .string (bs v.x), .slice v.A v.n v.c, .string (bs v.e)] 24)).alloc (.cells #[.int .i64 vx.k, .string (bs vx.l), .string (bs vx.x), .slice vx.A vx.n vx.c, .string (bs vx.e)] 24)) (w.heap.size + 1) vx from by have h := heap_alloc_new (w.alloc (.cells #[.int .i64 v.k, .string (bs v.l), .string (bs v.x), .slice v.A v.n v.c, .string (bs v.e)] 24)) (.cells #[.int .i64 vx.k, .string (bs vx.l), .string (bs vx.x), .slice vx.A vx.n vx.c, .string (bs vx.e)] 24); rwa [hw2] at h)
      clear hw2
      refine (HF.out _ (((Gr.refl w).alloc _).alloc _)).mono ?_
      rintro e w1 ⟨rfl, hb1⟩
      have hw1 : Gr w w1 := (((Gr.refl w).alloc _).alloc _).trans hb1
      have hg1 : Gr w w1 := hw1
      replace BN := Lib.hid (BN.out.gr hb1)
      replace BX := Lib.hid (BX.out.gr hb1)
      clear hw1 hb1
      obtain ⟨q0, q1, q2, q3, q4⟩ := BX.out.cells
      try simp only [List.getElem?_toArray, List.getElem?_cons_zero, List.getElem?_cons_succ] at q0 q1 q2 q3 q4
      have ql := lt_of_block BX.out
      go_wp2_with fail
      clear q0 q1 q2 q3 q4 ql
      refine (HSX.out _ hg1).mono ?_
      rintro e w2 ⟨rfl, hb2⟩
      have hw2 : Gr w1 w2 := hb2
      have hg2 := hg1.trans hw2
      clear hg1
      replace BN := Lib.hid (BN.out.gr hw2)
      replace BX := Lib.hid (BX.out.gr hw2)
      clear hw2
      try clear hb2
      go_wp2_with fail
      refine (livesP_any _).mono ?_
      rintro e w3 ⟨rfl, hb3⟩
      have hw3 : Gr w2 w3 := hb3
      have hg3 := hg2.trans hw3
      clear hg2
      replace BN := Lib.hid (BN.out.gr hw3)
      replace BX := Lib.hid (BX.out.gr hw3)
      clear hw3
      try clear hb3
      go_wp2_with fail
      go_ret
      exact ⟨rfl, by with_reducible assumption⟩
    | true =>
      rw [hsx] at HSX
      obtain ⟨g1, g2, g3⟩ := small_facts hsx
      by_cases hn60 : 60 < n
      · clear hr hx hz hfit hsx hcm
        go_enter Try.func7, Try.ntmps7
        go_wp2_with fail
        have hw2 : (w.alloc (.cells #[.int .i64 v.k, .string (bs v.l), .string (bs v.x), .slice v.A v.n v.c, .string (bs v.e)] 24)).heap.size = w.heap.size + 1 := by simp
        have BN := Lib.hid (show NBox ((w.alloc (.cells #[.int .i64 v.k, .string (bs v.l), .string (bs v.x), .slice v.A v.n v.c, .string (bs v.e)] 24)).alloc (.cells #[.int .i64 vx.k, .string (bs vx.l), .string (bs vx.x), .slice vx.A vx.n vx.c, .string (bs vx.e)] 24)) w.heap.size v from (heapOld (by simp)).trans (heap_alloc_new w _))
        have BX := Lib.hid (show NBox ((w.alloc (.cells #[.int .i64 v.k, .string (bs v.l), .string (bs v.x), .slice v.A v.n v.c, .string (bs v.e)] 24)).alloc (.cells #[.int .i64 vx.k, .string (bs vx.l), .string (bs vx.x), .slice vx.A vx.n vx.c, .string (bs vx.e)] 24)) (w.heap.size + 1) vx from by have h := heap_alloc_new (w.alloc (.cells #[.int .i64 v.k, .string (bs v.l), .string (bs v.x), .slice v.A v.n v.c, .string (bs v.e)] 24)) (.cells #[.int .i64 vx.k, .string (bs vx.l), .string (bs vx.x), .slice vx.A vx.n vx.c, .string (bs vx.e)] 24); rwa [hw2] at h)
        clear hw2
        refine (HF.out _ (((Gr.refl w).alloc _).alloc _)).mono ?_
        rintro e w1 ⟨rfl, hb1⟩
        have hw1 : Gr w w1 := (((Gr.refl w).alloc _).alloc _).trans hb1
        have hg1 : Gr w w1 := hw1
        replace BN := Lib.hid (BN.out.gr hb1)
        replace BX := Lib.hid (BX.out.gr hb1)
        clear hw1 hb1
        obtain ⟨q0, q1, q2, q3, q4⟩ := BX.out.cells
        try simp only [List.getElem?_toArray, List.getElem?_cons_zero, List.getElem?_cons_succ] at q0 q1 q2 q3 q4
        have ql := lt_of_block BX.out
        go_wp2_with fail
        clear q0 q1 q2 q3 q4 ql
        refine (HSX.out _ hg1).mono ?_
        rintro e w2 ⟨rfl, hb2⟩
        have hw2 : Gr w1 w2 := hb2
        have hg2 := hg1.trans hw2
        clear hg1
        replace BN := Lib.hid (BN.out.gr hw2)
        replace BX := Lib.hid (BX.out.gr hw2)
        clear hw2
        try clear hb2
        go_wp2_with fail
        refine (livesP_any _).mono ?_
        rintro e w3 ⟨rfl, hb3⟩
        have hw3 : Gr w2 w3 := hb3
        have hg3 := hg2.trans hw3
        clear hg2
        replace BN := Lib.hid (BN.out.gr hw3)
        replace BX := Lib.hid (BX.out.gr hw3)
        clear hw3
        try clear hb3
        go_wp2_with fail
        go_ret
        exact ⟨rfl, by with_reducible assumption⟩
      clear hfit hsx
      have HP : Hid (∀ w', Gr w w' → Calls Try.prog 26 #[.agg #[.int .i64 v.k, .string (bs v.l), .string (bs v.x), .slice v.A v.n v.c, .string (bs v.e)], .agg #[.int .i64 vx.k, .string (bs vx.l), .string (bs vx.x), .slice vx.A vx.n vx.c, .string (bs vx.e)], .slice A n c] w' (PutPost (putO t zs x) w')) := Lib.hid (fun w' hg => putP_any m v t mx vx x A n c zs w' (hr.gr hg) (hx.gr hg) (hz.keep hg) hn (by omega) (by omega))
      have HPX : Hid (∀ w', Gr w w' → Calls Try.prog 25 #[.agg #[.int .i64 vx.k, .string (bs vx.l), .string (bs vx.x), .slice vx.A vx.n vx.c, .string (bs vx.e)]] w' (RS (printF x) w')) := Lib.hid (fun w' hg => printRP_any mx vx x w' (hx.gr hg) (by omega))
      have HW : Hid (∀ w', Gr w w' → Calls Try.prog 18 #[.agg #[.int .i64 v.k, .string (bs v.l), .string (bs v.x), .slice v.A v.n v.c, .string (bs v.e)], .slice A n c] w' (VPost (WholeVal (spanF t zs 0)) w')) := Lib.hid (fun w' hg => wholeP_any m v t A n c zs w' (hr.gr hg) (hz.keep hg) hn (by omega))
      have HPN : Hid (∀ w', Gr w w' → Calls Try.prog 28 #[.agg #[.int .i64 v.k, .string (bs v.l), .string (bs v.x), .slice v.A v.n v.c, .string (bs v.e)]] w' (RS (printF t) w')) := Lib.hid (fun w' hg => printP_any m v t w' (hr.gr hg) (by omega))
      cases hsp : spanF t zs 0 with
      | none =>
        have hpo : putO t zs x = none := by unfold putO; rw [getF_span zs t 0, hsp]; rfl
        rw [hsp] at HW
        rw [hpo] at HP
        unfold WholeVal at HW
        dsimp only at HW
        have he : errOf none = 7 := rfl
        unfold PutPost at HP
        rw [he] at HP
        clear hr hx hz hcm f1 f2 f3 g1 g2 g3 hsp hpo he HPN HPX
        go_enter Try.func7, Try.ntmps7
        go_wp2_with fail
        have hw2 : (w.alloc (.cells #[.int .i64 v.k, .string (bs v.l), .string (bs v.x), .slice v.A v.n v.c, .string (bs v.e)] 24)).heap.size = w.heap.size + 1 := by simp
        have BN := Lib.hid (show NBox ((w.alloc (.cells #[.int .i64 v.k, .string (bs v.l), .string (bs v.x), .slice v.A v.n v.c, .string (bs v.e)] 24)).alloc (.cells #[.int .i64 vx.k, .string (bs vx.l), .string (bs vx.x), .slice vx.A vx.n vx.c, .string (bs vx.e)] 24)) w.heap.size v from (heapOld (by simp)).trans (heap_alloc_new w _))
        have BX := Lib.hid (show NBox ((w.alloc (.cells #[.int .i64 v.k, .string (bs v.l), .string (bs v.x), .slice v.A v.n v.c, .string (bs v.e)] 24)).alloc (.cells #[.int .i64 vx.k, .string (bs vx.l), .string (bs vx.x), .slice vx.A vx.n vx.c, .string (bs vx.e)] 24)) (w.heap.size + 1) vx from by have h := heap_alloc_new (w.alloc (.cells #[.int .i64 v.k, .string (bs v.l), .string (bs v.x), .slice v.A v.n v.c, .string (bs v.e)] 24)) (.cells #[.int .i64 vx.k, .string (bs vx.l), .string (bs vx.x), .slice vx.A vx.n vx.c, .string (bs vx.e)] 24); rwa [hw2] at h)
        clear hw2
        refine (HF.out _ (((Gr.refl w).alloc _).alloc _)).mono ?_
        rintro e w1 ⟨rfl, hb1⟩
        have hw1 : Gr w w1 := (((Gr.refl w).alloc _).alloc _).trans hb1
        have hg1 : Gr w w1 := hw1
        replace BN := Lib.hid (BN.out.gr hb1)
        replace BX := Lib.hid (BX.out.gr hb1)
        clear hw1 hb1
        obtain ⟨q0, q1, q2, q3, q4⟩ := BX.out.cells
        try simp only [List.getElem?_toArray, List.getElem?_cons_zero, List.getElem?_cons_succ] at q0 q1 q2 q3 q4
        have ql := lt_of_block BX.out
        go_wp2_with fail
        clear q0 q1 q2 q3 q4 ql
        refine (HSX.out _ hg1).mono ?_
        rintro e w2 ⟨rfl, hb2⟩
        have hw2 : Gr w1 w2 := hb2
        have hg2 := hg1.trans hw2
        clear hg1
        replace BN := Lib.hid (BN.out.gr hw2)
        replace BX := Lib.hid (BX.out.gr hw2)
        clear hw2
        try clear hb2
        obtain ⟨k0, k1, k2, k3, k4⟩ := BN.out.cells
        try simp only [List.getElem?_toArray, List.getElem?_cons_zero, List.getElem?_cons_succ] at k0 k1 k2 k3 k4
        have kl := lt_of_block BN.out
        go_wp2_with fail
        clear k0 k1 k2 k3 k4 kl
        refine (HW.out _ hg2).mono ?_
        rintro e w3 ⟨rfl, hb3⟩
        have hw3 : Gr w2 w3 := hb3
        have hg3 := hg2.trans hw3
        clear hg2
        replace BN := Lib.hid (BN.out.gr hw3)
        replace BX := Lib.hid (BX.out.gr hw3)
        clear hw3
        try clear hb3
        obtain ⟨k0, k1, k2, k3, k4⟩ := BN.out.cells
        try simp only [List.getElem?_toArray, List.getElem?_cons_zero, List.getElem?_cons_succ] at k0 k1 k2 k3 k4
        have kl := lt_of_block BN.out
        obtain ⟨q0, q1, q2, q3, q4⟩ := BX.out.cells
        try simp only [List.getElem?_toArray, List.getElem?_cons_zero, List.getElem?_cons_succ] at q0 q1 q2 q3 q4
        have ql := lt_of_block BX.out
        go_wp2_with fail
        clear k0 k1 k2 k3 k4 kl
        clear q0 q1 q2 q3 q4 ql
        refine (HP.out _ (hg3.trans ((Gr.refl _).alloc _))).mono ?_
        rintro e w4 ⟨m4, d4, rfl, hr4, hb4⟩
        have hw4 : Gr w3 w4 := ((Gr.refl w3).alloc _).trans hb4
        have hg4 := hg3.trans hw4
        clear hg3
        replace BN := Lib.hid (BN.out.gr hw4)
        replace BX := Lib.hid (BX.out.gr hw4)
        clear hw4 hb4
        clear hr4
        go_wp2_with fail
        refine (livesP_any _).mono ?_
        rintro e w5 ⟨rfl, hb5⟩
        have hw5 : Gr w4 w5 := ((Gr.refl w4).alloc _).trans hb5
        have hg5 := hg4.trans hw5
        clear hg4
        replace BN := Lib.hid (BN.out.gr hw5)
        replace BX := Lib.hid (BX.out.gr hw5)
        clear hw5 hb5
        go_wp2_with fail
        go_ret
        exact ⟨rfl, by with_reducible assumption⟩
      | some py =>
        obtain ⟨p, y⟩ := py
        have hpo : putO t zs x = some (putF t zs x) := by unfold putO; rw [getF_span zs t 0, hsp]; rfl
        obtain ⟨_, hle, hpr⟩ := print_put x zs t 0 p y hsp
        have hpl := putF_len x zs t p y hsp
        rw [Nat.sub_zero] at hle hpr
        rw [hsp] at HW
        rw [hpo] at HP
        unfold WholeVal at HW
        dsimp only at HW
        have he : errOf (some (putF t zs x)) = 0 := rfl
        unfold PutPost at HP
        rw [he] at HP
        generalize putF t zs x = Y at *
        have HYL := Lib.hid hpl
        have HPRT := Lib.hid hpr
        have htl := printF_len t
        have hTs : ((bs (printF t)).size : Int) = lenF t := by show ((printF t).length : Int) = _; rw [htl]
        clear hr hx hz hcm hsp hpo he hpl hpr htl
        go_enter Try.func7, Try.ntmps7
        go_wp2_with fail
        have hw2 : (w.alloc (.cells #[.int .i64 v.k, .string (bs v.l), .string (bs v.x), .slice v.A v.n v.c, .string (bs v.e)] 24)).heap.size = w.heap.size + 1 := by simp
        have BN := Lib.hid (show NBox ((w.alloc (.cells #[.int .i64 v.k, .string (bs v.l), .string (bs v.x), .slice v.A v.n v.c, .string (bs v.e)] 24)).alloc (.cells #[.int .i64 vx.k, .string (bs vx.l), .string (bs vx.x), .slice vx.A vx.n vx.c, .string (bs vx.e)] 24)) w.heap.size v from (heapOld (by simp)).trans (heap_alloc_new w _))
        have BX := Lib.hid (show NBox ((w.alloc (.cells #[.int .i64 v.k, .string (bs v.l), .string (bs v.x), .slice v.A v.n v.c, .string (bs v.e)] 24)).alloc (.cells #[.int .i64 vx.k, .string (bs vx.l), .string (bs vx.x), .slice vx.A vx.n vx.c, .string (bs vx.e)] 24)) (w.heap.size + 1) vx from by have h := heap_alloc_new (w.alloc (.cells #[.int .i64 v.k, .string (bs v.l), .string (bs v.x), .slice v.A v.n v.c, .string (bs v.e)] 24)) (.cells #[.int .i64 vx.k, .string (bs vx.l), .string (bs vx.x), .slice vx.A vx.n vx.c, .string (bs vx.e)] 24); rwa [hw2] at h)
        clear hw2
        refine (HF.out _ (((Gr.refl w).alloc _).alloc _)).mono ?_
        rintro e w1 ⟨rfl, hb1⟩
        have hw1 : Gr w w1 := (((Gr.refl w).alloc _).alloc _).trans hb1
        have hg1 : Gr w w1 := hw1
        replace BN := Lib.hid (BN.out.gr hb1)
        replace BX := Lib.hid (BX.out.gr hb1)
        clear hw1 hb1
        obtain ⟨q0, q1, q2, q3, q4⟩ := BX.out.cells
        try simp only [List.getElem?_toArray, List.getElem?_cons_zero, List.getElem?_cons_succ] at q0 q1 q2 q3 q4
        have ql := lt_of_block BX.out
        go_wp2_with fail
        clear q0 q1 q2 q3 q4 ql
        refine (HSX.out _ hg1).mono ?_
        rintro e w2 ⟨rfl, hb2⟩
        have hw2 : Gr w1 w2 := hb2
        have hg2 := hg1.trans hw2
        clear hg1
        replace BN := Lib.hid (BN.out.gr hw2)
        replace BX := Lib.hid (BX.out.gr hw2)
        clear hw2
        try clear hb2
        obtain ⟨k0, k1, k2, k3, k4⟩ := BN.out.cells
        try simp only [List.getElem?_toArray, List.getElem?_cons_zero, List.getElem?_cons_succ] at k0 k1 k2 k3 k4
        have kl := lt_of_block BN.out
        go_wp2_with fail
        clear k0 k1 k2 k3 k4 kl
        refine (HW.out _ hg2).mono ?_
        rintro e w3 ⟨rfl, hb3⟩
        have hw3 : Gr w2 w3 := hb3
        have hg3 := hg2.trans hw3
        clear hg2
        replace BN := Lib.hid (BN.out.gr hw3)
        replace BX := Lib.hid (BX.out.gr hw3)
        clear hw3
        try clear hb3
        have BS := Lib.hid (show SBox (w3.alloc (.cells #[.int .i64 p, .int .i64 (p + lenF y : Nat)] 40)) w3.heap.size p (p + lenF y : Nat) from heap_alloc_new w3 _)
        obtain ⟨k0, k1, k2, k3, k4⟩ := BN.out.cells
        try simp only [List.getElem?_toArray, List.getElem?_cons_zero, List.getElem?_cons_succ] at k0 k1 k2 k3 k4
        have kl := lt_of_block BN.out
        obtain ⟨q0, q1, q2, q3, q4⟩ := BX.out.cells
        try simp only [List.getElem?_toArray, List.getElem?_cons_zero, List.getElem?_cons_succ] at q0 q1 q2 q3 q4
        have ql := lt_of_block BX.out
        go_wp2_with fail
        clear k0 k1 k2 k3 k4 kl
        clear q0 q1 q2 q3 q4 ql
        refine (HP.out _ (hg3.trans ((Gr.refl _).alloc _))).mono ?_
        rintro e w4 ⟨m4, d4, rfl, hr4, hb4⟩
        have hw4 : Gr w3 w4 := ((Gr.refl w3).alloc _).trans hb4
        have hg4 := hg3.trans hw4
        clear hg3
        replace BN := Lib.hid (BN.out.gr hw4)
        replace BX := Lib.hid (BX.out.gr hw4)
        replace BS := Lib.hid (BS.out.gr hb4)
        clear hw4 hb4
        have HR4 := Lib.hid (show NRep anyB m4 w4 d4 Y from hr4)
        clear hr4
        have B4 := Lib.hid (show NBox (w4.alloc (.cells #[.int .i64 d4.k, .string (bs d4.l), .string (bs d4.x), .slice d4.A d4.n d4.c, .string (bs d4.e)] 24)) w4.heap.size d4 from heap_alloc_new w4 _)
        obtain ⟨k0, k1, k2, k3, k4⟩ := BN.out.cells
        try simp only [List.getElem?_toArray, List.getElem?_cons_zero, List.getElem?_cons_succ] at k0 k1 k2 k3 k4
        have kl := lt_of_block BN.out
        go_wp2_with fail
        clear k0 k1 k2 k3 k4 kl
        refine (HPN.out _ (hg4.trans ((Gr.refl _).alloc _))).mono ?_
        rintro e w5 ⟨rfl, hb5⟩
        have hw5 : Gr w4 w5 := ((Gr.refl w4).alloc _).trans hb5
        have hg5 := hg4.trans hw5
        clear hg4
        replace BN := Lib.hid (BN.out.gr hw5)
        replace BX := Lib.hid (BX.out.gr hw5)
        replace BS := Lib.hid (BS.out.gr hw5)
        replace HR4 := Lib.hid (HR4.out.gr hw5)
        replace B4 := Lib.hid (B4.out.gr hb5)
        clear hw5 hb5
        have u0 := cell_of_cells BS.out 0
        have u1 := cell_of_cells BS.out 1
        try simp only [List.getElem?_toArray, List.getElem?_cons_zero, List.getElem?_cons_succ] at u0 u1
        have ul := lt_of_block BS.out
        clear BN
        go_wp2_with fail
        obtain ⟨x0, x1, x2, x3, x4⟩ := B4.out.cells
        try simp only [List.getElem?_toArray, List.getElem?_cons_zero, List.getElem?_cons_succ] at x0 x1 x2 x3 x4
        have xl := lt_of_block B4.out
        obtain ⟨q0, q1, q2, q3, q4⟩ := BX.out.cells
        try simp only [List.getElem?_toArray, List.getElem?_cons_zero, List.getElem?_cons_succ] at q0 q1 q2 q3 q4
        have ql := lt_of_block BX.out
        have HPY : Hid (∀ (d : Nat) (os : Array Obj), Calls Try.prog 25 #[.agg #[.int .i64 d4.k, .string (bs d4.l), .string (bs d4.x), .slice d4.A d4.n d4.c, .string (bs d4.e)]] (Go.Sort.grow (redrawn w5 d) os) (fun e w'' => e = .returned (.string (bs (printF Y))) ∧ ∃ p : Regrown, w'' = Go.Sort.grow (redrawn w5 p.d) p.os)) := Lib.hid (fun d os => Calls.regrown_of (printRP_any m4 d4 Y _ (HR4.out.gr (below_regrown _ _ _)) (by have := HYL.out; omega)))
        have HPZ : Hid (∀ (d : Nat) (os : Array Obj), Calls Try.prog 25 #[.agg #[.int .i64 vx.k, .string (bs vx.l), .string (bs vx.x), .slice vx.A vx.n vx.c, .string (bs vx.e)]] (Go.Sort.grow (redrawn w5 d) os) (fun e w'' => e = .returned (.string (bs (printF x))) ∧ ∃ p : Regrown, w'' = Go.Sort.grow (redrawn w5 p.d) p.os)) := Lib.hid (fun d os => Calls.regrown_of (HPX.out _ (hg5.trans (below_regrown _ _ _))))
        have hT1 : (p : Int) ≤ ((bs (printF t)).size : Int) := by omega
        have hT2 : ((p + lenF y : Nat) : Int) ≤ ((bs (printF t)).size : Int) := by omega
        have hT3 : (0 : Int) ≤ (p : Int) := by omega
        have hT4 : (0 : Int) ≤ ((p + lenF y : Nat) : Int) := by omega
        have hT5 : p ≤ (bs (printF t)).size := by omega
        have hT6 : p + lenF y ≤ (bs (printF t)).size := by omega
        have hXl := printF_len x
        have hX1 : (bs (printF x)).size ≤ 90000 := by show (printF x).length ≤ _; omega
        have hX0 : (bs (printF t)).size ≤ 360000 := by omega
        have hEQ := repl_eq HPRT.out
        clear HP HPN HW HSX HF hXl
        have kq9_0 := cell_regrown x0
        have kq9_1 := cell_regrown x1
        have kq9_2 := cell_regrown x2
        have kq9_3 := cell_regrown x3
        have kq9_4 := cell_regrown x4
        have kq9_5 := cell_regrown q0
        have kq9_6 := cell_regrown q1
        have kq9_7 := cell_regrown q2
        have kq9_8 := cell_regrown q3
        have kq9_9 := cell_regrown q4
        have kq9_10 := cell_regrown u0
        have kq9_11 := cell_regrown u1
        refine wp_region_quiet_below (by kernel_rfl) (by kernel_rfl) ?_
        repeat (go_big_quiet_step (first | (go_at_call 11; exact Calls.regrown_of (livesP_any _)) | (go_at_call 25; with_reducible exact HPY.out _ _) | (go_at_call 25; with_reducible exact HPZ.out _ _)))
        refine wpQuiet_nil ?_
        intro wq9 hwq9
        have hbq9 := gr_regrown hwq9
        clear hwq9
        replace kq9_0 := hbq9.cell x0
        replace kq9_1 := hbq9.cell x1
        replace kq9_2 := hbq9.cell x2
        replace kq9_3 := hbq9.cell x3
        replace kq9_4 := hbq9.cell x4
        replace kq9_5 := hbq9.cell q0
        replace kq9_6 := hbq9.cell q1
        replace kq9_7 := hbq9.cell q2
        replace kq9_8 := hbq9.cell q3
        replace kq9_9 := hbq9.cell q4
        replace kq9_10 := hbq9.cell u0
        replace kq9_11 := hbq9.cell u1
        go_wp2_with fail
        go_ret
        exact ⟨rfl, by with_reducible exact hg5.trans hbq9⟩


namespace TreeReplaces
set_option maxRecDepth 100000 in
theorem lifted (os : Os) (started : os.Started) (H : Type) (enc : TypeId × Value → H) :
    ReturnsInHanded {} Try.checked os 7 .any (Rows.treeReplacesSpec.pre6 enc Try.prog Try.f7 Rows.treeReplacesRow.domain false) (Rows.treeReplacesSpec.post enc Try.prog Try.f7 false true false false) := by
  refine law_lifted (C := Try.checked) (tb := 4) own started (by kernel_rfl) Try.func7 laidOut rfl rfl Try.underlying4 (by kernel_rfl) ?_
    (ChangeSpec.witness6 (enc := enc) (C := Try.checked) false ⟨#[], #[.agg #[.int .i64 0, .string ⟨#[]⟩, .string ⟨#[]⟩, .slice none 0 0, .string ⟨#[]⟩], .agg #[.int .i64 0, .string ⟨#[]⟩, .string ⟨#[]⟩, .slice none 0 0, .string ⟨#[]⟩], .slice none 0 0], []⟩ 8 (by kernel_rfl) (by kernel_rfl) (by kernel_rfl) (by kernel_rfl)) ?_
  · intro ds hl
    match ds, hl with
    | [_, _, _], _ => rfl
  · intro W base args ds ps hval0 hA0 hlt
    have hval : ∀ (j : Nat) t v, Try.f7.params[j]? = some t → args[j]? = some v → Value.okWide Try.prog W .any base t v := hval0
    have hA : DataW.TrodAll enc Try.prog W 0 (fun _ => true) true Try.f7.params.toList args.toList ds ps := hA0
    rw [Try.params7] at hA hval
    obtain ⟨v0, v1, v2, d0, d1, d2, p0, p1, p2, rfl, rfl, rfl, h0, h1, h2⟩ := trodAll_three hA
    obtain ⟨ev0, tv0, mv0, rfl, hrv0⟩ := open_node (hval 0 24 v0 rfl rfl) h0
    obtain ⟨ev1, tv1, mv1, rfl, hrv1⟩ := open_node (hval 1 24 v1 rfl rfl) h1
    obtain ⟨Av2, lenv2, capv2, rfl⟩ := okWide_slice Try.underlying32 (hval 2 32 v2 rfl rfl)
    obtain ⟨nv2, hrv2⟩ := Rd.of_trod h2
    obtain ⟨A', len', cap', zsv2, hcs, hlcv2, hcmv2, hzv2⟩ := rd_intslice Try.underlying32 Try.underlying3 cells1 hrv2
    simp only [Value.cells, List.cons.injEq, Value.slice.injEq, and_true] at hcs
    obtain ⟨rfl, rfl, rfl⟩ := hcs
    exact treeReplaces_any mv0 ev0 tv0 mv1 ev1 tv1 Av2 lenv2 capv2 zsv2 W hrv0 hrv1 hzv2 hlcv2 hcmv2

theorem proved : Rows.TreeReplacesSaid :=
  OpenClaim.holds_of_wide 7 Try.f7 rfl rfl rfl rfl rfl rfl rfl ⟨rfl, rfl, rfl, rfl, rfl⟩ rfl rfl rfl rfl rfl (by kernel_rfl) Try.func7 (by kernel_rfl)
    (of_decide_eq_true (by kernel_rfl)) (by unfold Func.isWrapper; first | (rw [if_pos (by decide +kernel)]; kernel_rfl) | (rw [if_neg (by decide +kernel)]; exact ⟨rfl, rfl⟩))
    (fun os started H enc _ => lifted os started H enc)
end TreeReplaces
end Go.Proofs.Ytklncffhkdbkhaa
