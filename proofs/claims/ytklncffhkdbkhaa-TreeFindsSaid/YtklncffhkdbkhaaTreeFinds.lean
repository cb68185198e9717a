/- TreeFinds returns true for every input: the descendant that has a byte is the reference's; the byte is in its span and in that of none of its kids. No condition. -/
import Derived.Test.YtklncffhkdbkhaaTreeGets
import Derived.Test.YtklncffhkdbkhaaFinReg
namespace Go.Proofs.Ytklncffhkdbkhaa
open Go.ChangeShapes Go.WideShapes Go.ChangeAt Go.RowKit
open Go.Lib hiding intOf

theorem IntsAt.gr {k : IntKind} {W w : World} {A : Option Addr} {len : Nat} {zs : List Int} (h : IntsAt k W A len zs) (hg : Gr W w) : IntsAt k w A len zs := h.keep hg
theorem findL_cases (t : NT) : ∀ (r pre : List NT) (a : Nat), t.ks = pre ++ r → lenL pre ≤ a →
    (findL r ((a : Int) - lenL pre) pre.length = [] ∧ lenL t.ks ≤ a) ∨ ∃ (k : Nat) (y : NT), t.ks[k]? = some y ∧ lenL (t.ks.take k) ≤ a ∧ a < lenL (t.ks.take k) + lenF y ∧ findL r ((a : Int) - lenL pre) pre.length = (k : Int) :: findF y ((a - lenL (t.ks.take k) : Nat) : Int)
  | [], pre, a, h, hp => by
    refine .inl ⟨by rw [findL], ?_⟩
    rw [h, List.append_nil]; exact hp
  | y :: r, pre, a, h, hp => by
    have hk : t.ks[pre.length]? = some y := by rw [h]; simp
    have htk : t.ks.take pre.length = pre := by rw [h]; simp
    by_cases hc : (a : Int) - lenL pre < lenF y
    · refine .inr ⟨pre.length, y, hk, by rw [htk]; exact hp, by rw [htk]; omega, ?_⟩
      rw [findL, if_pos hc, htk]
      congr 2
      omega
    · have e : lenL (pre ++ [y]) = lenL pre + lenF y := by rw [lenL_app]; simp [lenL]
      have h1 := findL_cases t r (pre ++ [y]) a (by rw [h]; simp) (by omega)
      rw [findL, if_neg hc]
      have e2 : (a : Int) - lenL (pre ++ [y]) = (a : Int) - lenL pre - lenF y := by rw [e]; omega
      rw [e2, List.length_append, List.length_singleton] at h1
      exact h1
theorem find_span : ∀ (N : Nat) (t : NT) (a p : Nat), depthF t ≤ N → a < lenF t → ∃ q y, spanF t (findF t a) p = some (q, y) ∧ q ≤ p + a ∧ p + a < q + lenF y ∧ lenF y ≤ lenF t ∧ countF y ≤ countF t ∧
    ∀ (i : Nat) (z : NT), y.ks[i]? = some z → ¬ (q + y.l.length + y.x.length + lenL (y.ks.take i) ≤ p + a ∧ p + a < q + y.l.length + y.x.length + lenL (y.ks.take i) + lenF z)
  | 0, t, a, p, hN, _ => by
    have := depthF_eq t
    omega
  | N + 1, t, a, p, hN, ha => by
    have hd := depthF_eq t
    have hlt := lenF_eq t
    rw [findF_eq]
    by_cases hc : (a : Int) - (t.l.length + t.x.length : Nat) < 0
    · rw [if_pos hc]
      exact ⟨p, t, rfl, by omega, by omega, Nat.le_refl _, Nat.le_refl _, fun i z _ => by omega⟩
    · rw [if_neg hc]
      have h1 := findL_cases t t.ks [] (a - (t.l.length + t.x.length)) (by simp) (by simp [lenL])
      have e : (a : Int) - (t.l.length + t.x.length : Nat) = ((a - (t.l.length + t.x.length) : Nat) : Int) := by omega
      simp only [lenL, List.length_nil] at h1
      rw [show ((a - (t.l.length + t.x.length) : Nat) : Int) - ((0 : Nat) : Int) = (a : Int) - (t.l.length + t.x.length : Nat) by omega] at h1
      rcases h1 with ⟨h2, h3⟩ | ⟨k, y, hk, h2, h3, h4⟩
      · rw [h2]
        refine ⟨p, t, rfl, by omega, by omega, Nat.le_refl _, Nat.le_refl _, fun i z hz => ?_⟩
        have := lenL_get _ _ _ hz
        omega
      · rw [h4]
        have hdy := depthL_get _ _ _ hk
        have hcy := countL_get _ _ _ hk
        have hcc := countF_eq t
        have hly := lenL_get _ _ _ hk
        obtain ⟨q, x, q1, q2, q3, q4, q5, q6⟩ := find_span N y (a - (t.l.length + t.x.length) - lenL (t.ks.take k)) (p + t.l.length + t.x.length + lenL (t.ks.take k)) (by omega) (by omega)
        refine ⟨q, x, ?_, by omega, by omega, by omega, by omega, fun i z hz => ?_⟩
        · rw [spanF_go hk]
          exact q1
        · have := q6 i z hz
          omega
theorem spanF_snoc : ∀ (zs : List Int) (t : NT) (p q : Nat) (y z : NT) (i : Nat), spanF t zs p = some (q, y) → y.ks[i]? = some z → spanF t (zs ++ [(i : Int)]) p = some (q + y.l.length + y.x.length + lenL (y.ks.take i), z)
  | [], t, p, q, y, z, i, h, hz => by
    rw [spanF] at h
    cases h
    rw [List.nil_append, spanF_go hz, spanF]
  | j :: r, t, p, q, y, z, i, h, hz => by
    by_cases hi : 0 ≤ j ∧ j < t.ks.length
    · obtain ⟨k, rfl⟩ := Int.eq_ofNat_of_zero_le hi.1
      have hk : t.ks[k]? = some (t.ks[k]'(by omega)) := List.getElem?_eq_getElem _
      rw [List.cons_append, spanF_go hk] at *
      exact spanF_snoc r _ _ q y z i h hz
    · rw [spanF_bad (by omega)] at h
      cases h
def LoRel (w : World) (b0 bx n : Nat) (v d : ND) (A : Option Addr) (k : Nat) (zs : List Int) (iv : Value) (wr : World) : Prop :=
  ∃ j : Nat, j ≤ n ∧ iv = .int .i64 j ∧ NBox wr b0 v ∧ NBox wr bx d ∧ IntsAt .i64 wr A k zs ∧ Gr w wr
set_option maxRecDepth 100000 in
set_option maxHeartbeats 80000000 in
theorem finds_in (m : Nat) (v : ND) (t : NT) (a : Nat) (w : World) (hr : NRep anyB m w v t) (ha : a < lenF t) (f1 : countF t ≤ 400) (f2 : depthF t ≤ 240) (f3 : lenF t ≤ 360000) (HF : Hid (∀ w', Gr w w' → Calls Try.prog 10 #[.agg #[.int .i64 v.k, .string (bs v.l), .string (bs v.x), .slice v.A v.n v.c, .string (bs v.e)]] w' (RB true w'))) : Calls Try.prog 5 #[.agg #[.int .i64 v.k, .string (bs v.l), .string (bs v.x), .slice v.A v.n v.c, .string (bs v.e)], .int .i64 a] w (RB true w) := by
  obtain ⟨q, y, q1, q2, q3, q4, q5, q6⟩ := find_span _ t a 0 (Nat.le_refl _) ha
  rw [Nat.zero_add] at q2 q3
  simp only [Nat.zero_add] at q6
  have hgt := getF_span (findF t a) t 0
  rw [q1, Option.map_some] at hgt
  have hfl := findF_len t a
  have HT : Hid (∀ w', Gr w w' → Calls Try.prog 22 #[.agg #[.int .i64 v.k, .string (bs v.l), .string (bs v.x), .slice v.A v.n v.c, .string (bs v.e)], .int .i64 a] w' (FindPost (some (findF t a)) w')) := Lib.hid (fun w' hg => findP_in m v t a w' (hr.gr hg) (by omega) (by omega) (by omega) (by omega))
  have HR : Hid (∀ w', Gr w w' → Calls Try.prog 23 #[.agg #[.int .i64 v.k, .string (bs v.l), .string (bs v.x), .slice v.A v.n v.c, .string (bs v.e)], .int .i64 a] w' (FindPost (some (findF t a)) w')) := Lib.hid (fun w' hg => findRP_in m v t a w' (hr.gr hg) (by omega) (by omega) (by omega) (by omega))
  have HRT := Lib.hid hr
  have HSP := Lib.hid q1
  have HGT := Lib.hid hgt
  have HNO := Lib.hid q6
  have hlb : (findF t a).length ≤ 240 := by omega
  have HLL := Lib.hid hlb
  generalize findF t a = L at *
  clear hr q1 q6 hgt hfl hlb
  go_enter Try.func5, Try.ntmps5
  go_wp2_with fail
  have BN := Lib.hid (show NBox (w.alloc (.cells #[.int .i64 v.k, .string (bs v.l), .string (bs v.x), .slice v.A v.n v.c, .string (bs v.e)] 24)) w.heap.size v from heap_alloc_new w _)
  refine (HF.out _ ((Gr.refl w).alloc _)).mono ?_
  rintro e w1 ⟨rfl, hb1⟩
  have hw1 : Gr w w1 := ((Gr.refl w).alloc _).trans hb1
  have hg1 : Gr w w1 := hw1
  replace BN := Lib.hid (BN.out.gr hb1)
  clear hw1 hb1
  obtain ⟨k0, k1, k2, k3, k4⟩ := BN.out.cells
  try simp only [List.getElem?_toArray, List.getElem?_cons_zero, List.getElem?_cons_succ] at k0 k1 k2 k3 k4
  have kl := lt_of_block BN.out
  go_wp2_with fail
  clear k0 k1 k2 k3 k4 kl
  refine (HT.out _ hg1).mono ?_
  rintro e w2 ⟨A2, n2, c2, rfl, hn2, hc2, hz2, hb2⟩
  have hw2 : Gr w1 w2 := hb2
  have hg2 := hg1.trans hw2
  clear hg1
  replace BN := Lib.hid (BN.out.gr hw2)
  clear hw2
  try clear hb2
  have HZ2 := Lib.hid (show IntsAt .i64 w2 A2 n2 L from hz2)
  obtain ⟨k0, k1, k2, k3, k4⟩ := BN.out.cells
  try simp only [List.getElem?_toArray, List.getElem?_cons_zero, List.getElem?_cons_succ] at k0 k1 k2 k3 k4
  have kl := lt_of_block BN.out
  go_wp2_with fail
  clear k0 k1 k2 k3 k4 kl
  refine (HR.out _ hg2).mono ?_
  rintro e w3 ⟨A3, n3, c3, rfl, hn3, hc3, hz3, hb3⟩
  have hw3 : Gr w2 w3 := hb3
  have hg3 := hg2.trans hw3
  clear hg2
  replace BN := Lib.hid (BN.out.gr hw3)
  replace HZ2 := Lib.hid (HZ2.out.gr hw3)
  clear hw3
  try clear hb3
  have HZ3 := Lib.hid (show IntsAt .i64 w3 A3 n3 L from hz3)
  obtain rfl : n3 = n2 := hz3.1.symm.trans hz2.1
  have hnl : n3 ≤ 1000000 := by have := hz3.1; have := HLL.out; omega
  clear hz2 hz3
  unfold maxLen at hc2 hc3
  go_wp2_with fail
  refine (intsP_same A2 A3 n3 c2 c3 L _ HZ2.out HZ3.out (by omega)).mono ?_
  rintro e w4 ⟨rfl, hb4⟩
  have hw4 : Gr w3 w4 := hb4
  have hg4 := hg3.trans hw4
  clear hg3
  replace BN := Lib.hid (BN.out.gr hw4)
  replace HZ2 := Lib.hid (HZ2.out.gr hw4)
  replace HZ3 := Lib.hid (HZ3.out.gr hw4)
  clear hw4
  try clear hb4
  clear HZ3
  obtain ⟨k0, k1, k2, k3, k4⟩ := BN.out.cells
  try simp only [List.getElem?_toArray, List.getElem?_cons_zero, List.getElem?_cons_succ] at k0 k1 k2 k3 k4
  have kl := lt_of_block BN.out
  go_wp2_with fail
  clear k0 k1 k2 k3 k4 kl
  refine (wholeP_any m v t A2 n3 c2 L _ (HRT.out.gr hg4) HZ2.out (by omega) (by omega)).mono ?_
  rw [HSP.out]
  unfold WholeVal
  dsimp only
  rintro e w5 ⟨rfl, hb5⟩
  have hw5 : Gr w4 w5 := hb5
  have hg5 := hg4.trans hw5
  clear hg4
  replace BN := Lib.hid (BN.out.gr hw5)
  replace HZ2 := Lib.hid (HZ2.out.gr hw5)
  clear hw5
  try clear hb5
  have BS := Lib.hid (show SBox (w5.alloc (.cells #[.int .i64 q, .int .i64 (q + lenF y : Nat)] 40)) w5.heap.size q (q + lenF y : Nat) from heap_alloc_new w5 _)
  obtain ⟨k0, k1, k2, k3, k4⟩ := BN.out.cells
  try simp only [List.getElem?_toArray, List.getElem?_cons_zero, List.getElem?_cons_succ] at k0 k1 k2 k3 k4
  have kl := lt_of_block BN.out
  go_wp2_with fail
  clear k0 k1 k2 k3 k4 kl
  refine (getP_any m v t A2 n3 c2 L _ (HRT.out.gr (hg5.trans ((Gr.refl _).alloc _))) (HZ2.out.gr ((Gr.refl _).alloc _)) (by omega) (by omega)).mono ?_
  rw [HGT.out]
  rintro e w6 ⟨m6, d6, rfl, hr6, hb6⟩
  have hw6 : Gr w5 w6 := ((Gr.refl w5).alloc _).trans hb6
  have hg6 := hg5.trans hw6
  clear hg5
  replace BN := Lib.hid (BN.out.gr hw6)
  replace HZ2 := Lib.hid (HZ2.out.gr hw6)
  replace BS := Lib.hid (BS.out.gr hb6)
  clear hw6 hb6
  have HR6 := Lib.hid (show NRep anyB m6 w6 d6 y from hr6)
  clear hr6
  have BX := Lib.hid (show NBox (w6.alloc (.cells #[.int .i64 d6.k, .string (bs d6.l), .string (bs d6.x), .slice d6.A d6.n d6.c, .string (bs d6.e)] 24)) w6.heap.size d6 from heap_alloc_new w6 _)
  have u0 := cell_of_cells BS.out 0
  have u1 := cell_of_cells BS.out 1
  try simp only [List.getElem?_toArray, List.getElem?_cons_zero, List.getElem?_cons_succ] at u0 u1
  have ul := lt_of_block BS.out
  have hgA : Gr w6 (w6.alloc (.cells #[.int .i64 d6.k, .string (bs d6.l), .string (bs d6.x), .slice d6.A d6.n d6.c, .string (bs d6.e)] 24)) := (Gr.refl _).alloc _
  obtain ⟨m', hm', h6k, h6l, h6x, h6e, h6n, h6c, h6m, _⟩ := HR6.out.parts
  have H6N := Lib.hid h6n
  have h6b : d6.n ≤ maxLen := Nat.le_trans h6c h6m
  unfold maxLen at h6b h6m
  have HYL := Lib.hid (lenF_eq y)
  have HCY := Lib.hid (countF_eq y)
  have HKL := Lib.hid (countL_length y.ks)
  have h6s : d6.n ≤ 1000000 := by rw [h6n]; have := HCY.out; have := HKL.out; omega
  clear h6k h6l h6x h6e h6n hm'
  go_wp2_with fail
  have HB0 := Lib.hid (BN.out.gr hgA)
  have HZZ := Lib.hid (HZ2.out.gr hgA)
  have hGG := hg6.trans hgA
  have HBX := Lib.hid BX.out
  obtain ⟨bx, hbx⟩ : ∃ b, b = w6.heap.size := ⟨_, rfl⟩
  rw [← hbx] at HBX
  rw [← hbx]
  have HBXE := Lib.hid hbx
  clear hbx BN BS BX HZ2 ul u0 u1 hg6
  obtain ⟨WA, hWA⟩ : ∃ W, W = w6.alloc (.cells #[.int .i64 d6.k, .string (bs d6.l), .string (bs d6.x), .slice d6.A d6.n d6.c, .string (bs d6.e)] 24) := ⟨_, rfl⟩
  rw [← hWA] at HB0 HZZ HBX hGG hgA
  try rw [← hWA]
  have HWA := Lib.hid hWA
  clear hWA
  go_loopw [13] (fun iv wr => LoRel w w.heap.size bx d6.n v d6 A2 n3 L iv wr) (fun iv _ => d6.n - (intOf iv).toNat)
  case atStart => exact ⟨0, Nat.zero_le _, rfl, by first | exact HB0.out | (rw [← HWA.out]; exact HB0.out), by first | exact HBX.out | (rw [← HWA.out]; exact HBX.out), by first | exact HZZ.out | (rw [← HWA.out]; exact HZZ.out), by first | exact hGG | (rw [← HWA.out]; exact hGG)⟩
  case round =>
    obtain ⟨j, hj, rfl, hb0, hbx, hz, hG⟩ := hrel
    have HBN := Lib.hid hb0
    have HBX2 := Lib.hid hbx
    have HZ := Lib.hid hz
    obtain ⟨x0, x1, x2, x3, x4⟩ := hbx.cells
    have hlx := lt_of_block hbx
    clear hb0 hbx hz
    by_cases hlt : j < d6.n
    · obtain ⟨z, hz⟩ : ∃ z, y.ks[j]? = some z := ⟨y.ks[j]'(by have := H6N.out; omega), List.getElem?_eq_getElem _⟩
      have hno := HNO.out j z hz
      have hspz := spanF_snoc L t 0 q y z j HSP.out hz
      have hlz := lenL_get _ _ _ hz
      have hyl := HYL.out
      obtain ⟨g, hgd⟩ : ∃ g : Nat, g = q + y.l.length + y.x.length + lenL (y.ks.take j) := ⟨_, rfl⟩
      rw [← hgd] at hno hspz
      have hgz : g + lenF z ≤ 1000000 := by omega
      have HSPZ := Lib.hid hspz
      have hjw : (Lit.int .i64 (j : Int)).wf = true := wf_int (by omega)
      have HJW := Lib.hid hjw
      have HHNO := Lib.hid hno
      obtain ⟨k0, k1, k2, k3, k4⟩ := HBN.out.cells
      have hlb := lt_of_block HBN.out
      have hsz := Below.size hG
      have HSRC := Lib.hid HZ.out.src
      obtain ⟨i0, hi, hz0, hz1, hz2⟩ := info_parts infoInt
      clear hz hspz hjw hno hlz hyl hgd
      go_wp2_with fail
      clear x0 x1 x2 x3 x4 hlx
      refine wp_region_frame (by kernel_rfl) (by kernel_rfl) [14, 15, 81, 82, 83, 84, 85, 86, 87, 88, 89, 90, 91] (by simp) (FF wr w.heap.size (.agg #[.int .i64 v.k, .string (bs v.l), .string (bs v.x), .slice v.A v.n v.c, .string (bs v.e)]) A2 n3 c2 L j (g : Int) ((g : Int) + (lenF z : Int))) ?_ ?_ ?_
      · exact { gr := (Gr.refl _).drew, u2 := by simp [slot], u5 := by simp [slot], u13 := by simp [slot], f0 := fun h => (by cases h), f1 := fun h => (by cases h), f2 := fun h => (by cases h), f3 := fun h => (by cases h), f4 := fun h => (by cases h), f5 := fun h => (by cases h), c6 := fun h => (by cases h), f6 := fun h => (by cases h), c7 := fun h => (by cases h), f7 := fun h => (by cases h), f8 := fun h => (by cases h), f9 := fun h => (by cases h), f10 := fun h => (by cases h), f11 := fun h => (by cases h), c12 := fun h => (by cases h), f13 := fun h => (by cases h) }
      · intro B a' w' i o hfr hF ho hBi hdep
        have hi14 := (Array.getElem?_eq_some_iff.1 ho).1
        simp only [List.size_toArray, List.length_cons, List.length_nil] at hi14
        have hor : i = 0 ∨ i = 1 ∨ i = 2 ∨ i = 3 ∨ i = 4 ∨ i = 5 ∨ i = 6 ∨ i = 7 ∨ i = 8 ∨ i = 9 ∨ i = 10 ∨ i = 11 ∨ i = 12 ∨ i = 13 := by omega
        clear hi14
        rcases hor with rfl | rfl | rfl | rfl | rfl | rfl | rfl | rfl | rfl | rfl | rfl | rfl | rfl | rfl
        all_goals (
          simp only [List.getElem?_toArray, List.getElem?_cons_zero, List.getElem?_cons_succ, Option.some.injEq] at ho
          subst ho
          rw [if_pos (show Region.wanted _ _ = true from rfl)]
          refine wp_hideK ?_
          intro K hK)
        · have hb := HBN.out.gr hF.gr
          obtain ⟨y0, y1, y2, y3, y4⟩ := hb.cells
          have e2 := slot_spell hF.u2
          go_simp
          exact hK.out _ _ (close_put hfr (d := 82) (by decide) (by simp) _ (F := fun u => FF wr w.heap.size (.agg #[.int .i64 v.k, .string (bs v.l), .string (bs v.x), .slice v.A v.n v.c, .string (bs v.e)]) A2 n3 c2 L j (g : Int) ((g : Int) + (lenF z : Int)) (upB B 0) u _) (hF.s0))
        · go_simp
          exact hK.out _ _ (close_put hfr (d := 83) (by decide) (by simp) _ (F := fun u => FF wr w.heap.size (.agg #[.int .i64 v.k, .string (bs v.l), .string (bs v.x), .slice v.A v.n v.c, .string (bs v.e)]) A2 n3 c2 L j (g : Int) ((g : Int) + (lenF z : Int)) (upB B 1) u _) (hF.s1))
        · have e5 := slot_spell hF.u5
          go_simp
          exact hK.out _ _ (close_put hfr (d := 84) (by decide) (by simp) _ (F := fun u => FF wr w.heap.size (.agg #[.int .i64 v.k, .string (bs v.l), .string (bs v.x), .slice v.A v.n v.c, .string (bs v.e)]) A2 n3 c2 L j (g : Int) ((g : Int) + (lenF z : Int)) (upB B 2) u _) (hF.s2))
        · have hB1 : B 1 = true := hdep ⟨1, .data⟩ (by simp) (by rfl)
          have hB2 : B 2 = true := hdep ⟨2, .data⟩ (by simp) (by rfl)
          refine wp_app2 (.tmp 83) (.tmp 84) 32 rfl wr.heap.size 3 i0 _ 1 8 Try.underlying32 hi hz0 hz1 hz2 rfl (by decide) _ 0 [] rfl (hF.f1 hB1 hBi) A2 n3 c2 _ (hF.f2 hB2) (HSRC.out.gr hF.gr) (by unfold maxLen; omega) (by omega) (Below.size hF.gr) ?_
          intro v8 w8 hown hgrow hat
          exact hK.out _ _ (close_put hfr (d := 85) (by decide) (by simp) _ (F := fun u => FF wr w.heap.size (.agg #[.int .i64 v.k, .string (bs v.l), .string (bs v.x), .slice v.A v.n v.c, .string (bs v.e)]) A2 n3 c2 L j (g : Int) ((g : Int) + (lenF z : Int)) (upB B 3) u _) (hF.s3 hown hgrow hat hB1 hBi))
        · have e13 := slot_spell hF.u13
          go_simp
          exact hK.out _ _ (close_put hfr (d := 86) (by decide) (by simp) _ (F := fun u => FF wr w.heap.size (.agg #[.int .i64 v.k, .string (bs v.l), .string (bs v.x), .slice v.A v.n v.c, .string (bs v.e)]) A2 n3 c2 L j (g : Int) ((g : Int) + (lenF z : Int)) (upB B 4) u _) (hF.s4))
        · have hB4 : B 4 = true := hdep ⟨4, .data⟩ (by simp) (by rfl)
          have e86 := slot_spell (hF.f4 hB4)
          go_simp
          exact hK.out _ _ (close_put hfr (d := 87) (by decide) (by simp) _ (F := fun u => FF wr w.heap.size (.agg #[.int .i64 v.k, .string (bs v.l), .string (bs v.x), .slice v.A v.n v.c, .string (bs v.e)]) A2 n3 c2 L j (g : Int) ((g : Int) + (lenF z : Int)) (upB B 5) u _) (hF.s5 hBi))
        · have hB3 : B 3 = true := hdep ⟨3, .data⟩ (by simp) (by rfl)
          have hB5 : B 5 = true := hdep ⟨5, .data⟩ (by simp) (by rfl)
          obtain ⟨b, q1, q2, q3, _, _⟩ := hF.f5 hB5 hBi
          refine wp_app2 (.tmp 85) (.tmp 87) 32 rfl wr.heap.size 3 i0 _ 1 8 Try.underlying32 hi hz0 hz1 hz2 rfl (by decide) _ (0 + n3) _ rfl (hF.f3 hB3 hBi) (some ⟨b, 0, none⟩) 1 1 _ q1 (src_fresh (cs := [.int .i64 (j : Int)]) q3 rfl (by simp [Value.oneCell'])) (by unfold maxLen; omega) (by omega) (Below.size hF.gr) ?_
          intro v8 w8 hown hgrow _
          exact hK.out _ _ (close_put hfr (d := 88) (by decide) (by simp) _ (F := fun u => FF wr w.heap.size (.agg #[.int .i64 v.k, .string (bs v.l), .string (bs v.x), .slice v.A v.n v.c, .string (bs v.e)]) A2 n3 c2 L j (g : Int) ((g : Int) + (lenF z : Int)) (upB B 6) u _) (hF.s6 hown hgrow HZ.out HJW.out hB3 hB5 hBi))
        · have hB0 : B 0 = true := hdep ⟨0, .data⟩ (by simp) (by rfl)
          have hB6 : B 6 = true := hdep ⟨6, .data⟩ (by simp) (by rfl)
          obtain ⟨A9, c9, q1, hia⟩ := hF.f6 hB6 hBi
          have e82 := slot_spell (hF.f0 hB0)
          have e88 := slot_spell q1
          have HFF := Lib.hid hF
          have HFR := Lib.hid hfr
          have HIA := Lib.hid hia
          clear hF hfr hia q1 hdep
          go_simp
          refine (wholeP_any m v t A9 (n3 + 1) c9 (L ++ [(j : Int)]) _ (HRT.out.gr (hG.trans HFF.out.gr)) HIA.out (by omega) (by omega)).mono ?_
          rw [HSPZ.out]
          unfold WholeVal
          simp only [Int.natCast_add]
          rintro e w10 ⟨rfl, hb10⟩
          have hF := HFF.out
          have hfr := HFR.out
          exact hK.out _ _ (close_put hfr (d := 89) (by decide) (by simp) _ (F := fun u => FF wr w.heap.size (.agg #[.int .i64 v.k, .string (bs v.l), .string (bs v.x), .slice v.A v.n v.c, .string (bs v.e)]) A2 n3 c2 L j (g : Int) ((g : Int) + (lenF z : Int)) (upB B 7) u _) (hF.s7 hb10 hB6))
        · have hB7 : B 7 = true := hdep ⟨7, .data⟩ (by simp) (by rfl)
          have e89 := slot_spell (hF.f7 hB7)
          go_simp
          exact hK.out _ _ (close_put hfr (d := 81) (by decide) (by simp) _ (F := fun u => FF wr w.heap.size (.agg #[.int .i64 v.k, .string (bs v.l), .string (bs v.x), .slice v.A v.n v.c, .string (bs v.e)]) A2 n3 c2 L j (g : Int) ((g : Int) + (lenF z : Int)) (upB B 8) u _) (hF.s8))
        · have hB8 : B 8 = true := hdep ⟨8, .data⟩ (by simp) (by rfl)
          have e81 := slot_spell (hF.f8 hB8)
          go_simp
          exact hK.out _ _ (close_put hfr (d := 90) (by decide) (by simp) _ (F := fun u => FF wr w.heap.size (.agg #[.int .i64 v.k, .string (bs v.l), .string (bs v.x), .slice v.A v.n v.c, .string (bs v.e)]) A2 n3 c2 L j (g : Int) ((g : Int) + (lenF z : Int)) (upB B 9) u _) (hF.s9))
        · have hB8 : B 8 = true := hdep ⟨8, .data⟩ (by simp) (by rfl)
          have e81 := slot_spell (hF.f8 hB8)
          go_simp
          exact hK.out _ _ (close_put hfr (d := 91) (by decide) (by simp) _ (F := fun u => FF wr w.heap.size (.agg #[.int .i64 v.k, .string (bs v.l), .string (bs v.x), .slice v.A v.n v.c, .string (bs v.e)]) A2 n3 c2 L j (g : Int) ((g : Int) + (lenF z : Int)) (upB B 10) u _) (hF.s10))
        · go_simp
          exact hK.out _ _ (close_put hfr (d := 14) (by decide) (by simp) _ (F := fun u => FF wr w.heap.size (.agg #[.int .i64 v.k, .string (bs v.l), .string (bs v.x), .slice v.A v.n v.c, .string (bs v.e)]) A2 n3 c2 L j (g : Int) ((g : Int) + (lenF z : Int)) (upB B 11) u _) (hF.s11 hBi))
        · have hB11 : B 11 = true := hdep ⟨11, .data⟩ (by simp) (by rfl)
          have hB9 : B 9 = true := hdep ⟨9, .data⟩ (by simp) (by rfl)
          have hB7 : B 7 = true := hdep ⟨7, .chain⟩ (by simp) (by rfl)
          obtain ⟨b, q1, q2, q3, _⟩ := hF.f11 hB11
          have hsb := q3 hBi
          have e14 := slot_spell q1
          have e90 := slot_spell (hF.f9 hB9)
          have y0 := cell_of_cells hsb 0
          have y1 := cell_of_cells hsb 1
          simp only [List.getElem?_toArray, List.getElem?_cons_zero, List.getElem?_cons_succ] at y0 y1
          have z0 := free_of_cells hsb 0
          have z1 := free_of_cells hsb 1
          have hlt := lt_of_block hsb
          go_simp
          exact hK.out _ _ ⟨hfr, hF.s12 q1 hB11 hB7 hBi⟩
        · have hB10 : B 10 = true := hdep ⟨10, .data⟩ (by simp) (by rfl)
          have e91 := slot_spell (hF.f10 hB10)
          go_simp
          exact hK.out _ _ (close_put hfr (d := 15) (by decide) (by simp) _ (F := fun u => FF wr w.heap.size (.agg #[.int .i64 v.k, .string (bs v.l), .string (bs v.x), .slice v.A v.n v.c, .string (bs v.e)]) A2 n3 c2 L j (g : Int) ((g : Int) + (lenF z : Int)) (upB B 13) u _) (hF.s13))
      · intro B u w' hall hF
        obtain ⟨b, q1, q2, _, q4⟩ := hF.f11 (hall 11 (by simp))
        have hsb := q4 (hall 12 (by simp))
        have hu15 := hF.f13 (hall 13 (by simp))
        simp only [List.foldl_cons, List.foldl_nil, Act.put, List.setIfInBounds_toArray, List.set_cons_zero, List.set_cons_succ]
        rw [q1, hu15]
        have y0 := cell_of_cells hsb 0
        have y1 := cell_of_cells hsb 1
        simp only [List.getElem?_toArray, List.getElem?_cons_zero, List.getElem?_cons_succ] at y0 y1
        have hlt2 := lt_of_block hsb
        have HBN2 := Lib.hid (HBN.out.gr hF.gr)
        have HBX3 := Lib.hid (HBX2.out.gr hF.gr)
        have HZ2 := Lib.hid (HZ.out.gr hF.gr)
        have hG2 := hG.trans hF.gr
        have hno := HHNO.out
        clear q1 q2 q4 hsb hu15 hF hall hi hz0 hz1 hz2
        by_cases hga : g ≤ a
        case pos =>
          have hbig : g + lenF z ≤ a := by omega
          have t1 : decide ((g : Int) ≤ (a : Int)) = true := decide_eq_true (by omega)
          have t2 : decide ((a : Int) < (g : Int) + (lenF z : Int)) = false := decide_eq_false (by omega)
          have t3 : decide (g ≤ a) = true := decide_eq_true hga
          have t4 : decide (a < g + lenF z) = false := decide_eq_false (by omega)
          clear hno
          go_wp2_with fail
          go_roundw
          case rel => exact ⟨j + 1, by omega, by go_num, HBN2.out, HBX3.out, HZ2.out, hG2⟩
          case measure => simp [intOf] <;> omega
        case neg =>
          have t1 : decide ((g : Int) ≤ (a : Int)) = false := decide_eq_false (by omega)
          have t3 : decide (g ≤ a) = false := decide_eq_false hga
          clear hno
          go_wp2_with fail
          go_roundw
          case rel => exact ⟨j + 1, by omega, by go_num, HBN2.out, HBX3.out, HZ2.out, hG2⟩
          case measure => simp [intOf] <;> omega
    
    · go_wp2_with fail
      refine (livesP_any _).mono ?_
      rintro e w9 ⟨rfl, hb9⟩
      go_wp2_with fail
      go_ret
      exact ⟨rfl, hG.trans hb9⟩

set_option maxRecDepth 100000 in
set_option maxHeartbeats 4000000 in
theorem treeFinds_any (m : Nat) (v : ND) (t : NT) (a : Int) (w : World) (hr : NRep anyB m w v t) : Calls Try.prog 5 #[.agg #[.int .i64 v.k, .string (bs v.l), .string (bs v.x), .slice v.A v.n v.c, .string (bs v.e)], .int .i64 a] w (RB true w) := by
  have HF : Hid (∀ w', Gr w w' → Calls Try.prog 10 #[.agg #[.int .i64 v.k, .string (bs v.l), .string (bs v.x), .slice v.A v.n v.c, .string (bs v.e)]] w' (RB (fitB t) w')) := Lib.hid (fun w' hg => fitP_any m v t w' (hr.gr hg))
  cases hfit : fitB t with
  | false =>
    rw [hfit] at HF
    clear hr hfit
    go_enter Try.func5, Try.ntmps5
    go_wp2_with fail
    refine (HF.out _ ((Gr.refl w).alloc _)).mono ?_
    rintro e w1 ⟨rfl, hb1⟩
    have hw1 : Gr w w1 := ((Gr.refl w).alloc _).trans hb1
    have hg1 : Gr w w1 := hw1
    clear hw1 hb1
    go_wp2_with fail
    refine (livesP_any _).mono ?_
    rintro e w2 ⟨rfl, hb2⟩
    have hw2 : Gr w1 w2 := hb2
    have hg2 := hg1.trans hw2
    clear hg1
    clear hw2
    try clear hb2
    go_wp2_with fail
    go_ret
    exact ⟨rfl, by with_reducible assumption⟩
  | true =>
    rw [hfit] at HF
    obtain ⟨f1, f2, f3⟩ := fit_facts hfit
    by_cases hin : 0 ≤ a ∧ a < lenF t
    · obtain ⟨h0, h1⟩ := hin
      obtain ⟨a, rfl⟩ := Int.eq_ofNat_of_zero_le h0
      exact finds_in m v t a w hr (by omega) f1 f2 f3 HF
    · have HT : Hid (∀ w', Gr w w' → Calls Try.prog 22 #[.agg #[.int .i64 v.k, .string (bs v.l), .string (bs v.x), .slice v.A v.n v.c, .string (bs v.e)], .int .i64 a] w' (FindPost none w')) := Lib.hid (fun w' hg => by
        by_cases h0 : a < 0
        · exact findP_neg m v t a w' (hr.gr hg) (by omega) h0
        · exact findP_past m v t a w' (hr.gr hg) (by omega) (by omega) (by omega))
      have HR : Hid (∀ w', Gr w w' → Calls Try.prog 23 #[.agg #[.int .i64 v.k, .string (bs v.l), .string (bs v.x), .slice v.A v.n v.c, .string (bs v.e)], .int .i64 a] w' (FindPost none w')) := Lib.hid (fun w' hg => by
        by_cases h0 : a < 0
        · exact findRP_neg v a w' h0
        · exact findRP_past m v t a w' (hr.gr hg) (by omega) (by omega) (by omega))
      clear hr hfit hin f1 f2 f3
      go_enter Try.func5, Try.ntmps5
      go_wp2_with fail
      have BN := Lib.hid (show NBox (w.alloc (.cells #[.int .i64 v.k, .string (bs v.l), .string (bs v.x), .slice v.A v.n v.c, .string (bs v.e)] 24)) w.heap.size v from heap_alloc_new w _)
      refine (HF.out _ ((Gr.refl w).alloc _)).mono ?_
      rintro e w1 ⟨rfl, hb1⟩
      have hw1 : Gr w w1 := ((Gr.refl w).alloc _).trans hb1
      have hg1 : Gr w w1 := hw1
      replace BN := Lib.hid (BN.out.gr hb1)
      clear hw1 hb1
      obtain ⟨k0, k1, k2, k3, k4⟩ := BN.out.cells
      try simp only [List.getElem?_toArray, List.getElem?_cons_zero, List.getElem?_cons_succ] at k0 k1 k2 k3 k4
      have kl := lt_of_block BN.out
      go_wp2_with fail
      clear k0 k1 k2 k3 k4 kl
      refine (HT.out _ hg1).mono ?_
      rintro e w2 ⟨rfl, hb2⟩
      have hw2 : Gr w1 w2 := hb2
      have hg2 := hg1.trans hw2
      clear hg1
      replace BN := Lib.hid (BN.out.gr hw2)
      clear hw2
      try clear hb2
      obtain ⟨k0, k1, k2, k3, k4⟩ := BN.out.cells
      try simp only [List.getElem?_toArray, List.getElem?_cons_zero, List.getElem?_cons_succ] at k0 k1 k2 k3 k4
      have kl := lt_of_block BN.out
      go_wp2_with fail
      clear k0 k1 k2 k3 k4 kl
      refine (HR.out _ hg2).mono ?_
      rintro e w3 ⟨rfl, hb3⟩
      have hw3 : Gr w2 w3 := hb3
      have hg3 := hg2.trans hw3
      clear hg2
      replace BN := Lib.hid (BN.out.gr hw3)
      clear hw3
      try clear hb3
      go_wp2_with fail
      refine (intsP_same none none 0 0 0 [] _ ⟨rfl, (fun _ h => by cases h), fun h => absurd h (by omega)⟩ ⟨rfl, (fun _ h => by cases h), fun h => absurd h (by omega)⟩ (by omega)).mono ?_
      rintro e w4 ⟨rfl, hb4⟩
      have hw4 : Gr w3 w4 := hb4
      have hg4 := hg3.trans hw4
      clear hg3
      replace BN := Lib.hid (BN.out.gr hw4)
      clear hw4
      try clear hb4
      go_wp2_with fail
      refine (livesP_any _).mono ?_
      rintro e w5 ⟨rfl, hb5⟩
      have hw5 : Gr w4 w5 := hb5
      have hg5 := hg4.trans hw5
      clear hg4
      replace BN := Lib.hid (BN.out.gr hw5)
      clear hw5
      try clear hb5
      go_wp2_with fail
      go_ret
      exact ⟨rfl, by with_reducible assumption⟩

namespace TreeFinds
set_option maxRecDepth 100000 in
theorem lifted (os : Os) (started : os.Started) (H : Type) (enc : TypeId × Value → H) :
    ReturnsInHanded {} Try.checked os 5 .any (Rows.treeFindsSpec.pre6 enc Try.prog Try.f5 Rows.treeFindsRow.domain false) (Rows.treeFindsSpec.post enc Try.prog Try.f5 false true false false) := by
  refine law_lifted (C := Try.checked) (tb := 4) own started (by kernel_rfl) Try.func5 laidOut rfl rfl Try.underlying4 (by kernel_rfl) ?_
    (ChangeSpec.witness6 (enc := enc) (C := Try.checked) false ⟨#[], #[.agg #[.int .i64 0, .string ⟨#[]⟩, .string ⟨#[]⟩, .slice none 0 0, .string ⟨#[]⟩], .int .i64 0], []⟩ 8 (by kernel_rfl) (by kernel_rfl) (by kernel_rfl) (by kernel_rfl)) ?_
  · intro ds hl
    match ds, hl with
    | [_, _], _ => rfl
  · intro W base args ds ps hval0 hA0 hlt
    have hval : ∀ (j : Nat) t v, Try.f5.params[j]? = some t → args[j]? = some v → Value.okWide Try.prog W .any base t v := hval0
    have hA : DataW.TrodAll enc Try.prog W 0 (fun _ => true) true Try.f5.params.toList args.toList ds ps := hA0
    rw [Try.params5] at hA hval
    obtain ⟨v0, v1, d0, d1, p0, p1, rfl, rfl, rfl, h0, h1⟩ := trodAll_two hA
    obtain ⟨ev0, tv0, mv0, rfl, hrv0⟩ := open_node (hval 0 24 v0 rfl rfl) h0
    obtain ⟨k, rfl, rfl, rfl, wk⟩ := open_int Try.underlying3 (hval 1 3 v1 rfl rfl) h1
    exact treeFinds_any mv0 ev0 tv0 k W hrv0

theorem proved : Rows.TreeFindsSaid :=
  OpenClaim.holds_of_wide 5 Try.f5 rfl rfl rfl rfl rfl rfl rfl ⟨rfl, rfl, rfl, rfl, rfl⟩ rfl rfl rfl rfl rfl (by kernel_rfl) Try.func5 (by kernel_rfl)
    (of_decide_eq_true (by kernel_rfl)) (by unfold Func.isWrapper; first | (rw [if_pos (by decide +kernel)]; kernel_rfl) | (rw [if_neg (by decide +kernel)]; exact ⟨rfl, rfl⟩))
    (fun os started H enc _ => lifted os started H enc)
end TreeFinds
end Go.Proofs.Ytklncffhkdbkhaa
