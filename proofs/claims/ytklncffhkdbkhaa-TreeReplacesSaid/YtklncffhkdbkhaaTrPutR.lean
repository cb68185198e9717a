/- Put of the reference, walked. -/
import Derived.Test.YtklncffhkdbkhaaTrPut
import Derived.Deep.RegionHeld3
import Derived.Deep.DrawnRows
namespace Go.Proofs.Ytklncffhkdbkhaa
open Go.ChangeShapes Go.WideShapes Go.ChangeAt Go.RowKit
attribute [local go_sem ↓] Go.wp_at_zero Go.wp_at_succ

theorem IntsAt.rest {W : World} {A : Option Addr} {n : Nat} {z : Int} {r : List Int} (h : IntsAt .i64 W A (n + 1) (z :: r)) : ∃ b o, A = some ⟨b, o, none⟩ ∧ b < W.heap.size ∧ W.cell? ⟨b, o, none⟩ = some (.int .i64 z) ∧ (Lit.int .i64 z).wf = true ∧ ∀ A', (0 < n → A' = some ⟨b, o + 1, none⟩) → IntsAt .i64 W A' n r := by
  obtain ⟨h1, h2, h3⟩ := h
  obtain ⟨b, o, ha, hb, hc⟩ := h3 (by omega)
  refine ⟨b, o, ha, hb, by simpa using hc 0 (by omega), h2 z (by simp), fun A' hA => ⟨by simpa using h1, fun u hu => h2 u (by simp [hu]), fun hn => ⟨b, o + 1, hA hn, hb, fun i hi => ?_⟩⟩⟩
  have := hc (i + 1) (by omega)
  rw [show o + 1 + i = o + (i + 1) by omega, this]
  rfl
theorem NRep.and_lt {P : Nat → Prop} : ∀ {m : Nat} {W : World} {v : ND} {t : NT}, NRep P m W v t → NRep (fun b => P b ∧ b < W.heap.size) m W v t
  | 0, _, _, _, h => h
  | m + 1, W, v, .mk k l x ks e, h => by
    obtain ⟨h1, h2, h3, h4, h5, h6, h7, h8, h9, h10, h11, h12, h13⟩ := h
    refine ⟨h1, h2, h3, h4, h5, h6, h7, h8, h9, h10, h11, h12, fun i y hy => ?_⟩
    obtain ⟨b, o, d, ha, hp, hb, hc, hr⟩ := h13 i y hy
    exact ⟨b, o, d, ha, ⟨hp, hb⟩, hb, hc, hr.and_lt⟩
def PutB (B : Nat) (q : Option NT) (w : World) (e : Ending) (w' : World) : Prop :=
  ∃ (m : Nat) (d : ND), e = .returned (.tuple #[.agg #[.int .i64 d.k, .string (bs d.l), .string (bs d.x), .slice d.A d.n d.c, .string (bs d.e)], .int .i64 (errOf q)]) ∧ NRep (fun b => b < B ∨ w.heap.size ≤ b) m w' d (q.getD zeroT) ∧ Gr w w'
def PutNo (w : World) (e : Ending) (w' : World) : Prop :=
  ∃ (d : ND), e = .returned (.tuple #[.agg #[.int .i64 d.k, .string (bs d.l), .string (bs d.x), .slice d.A d.n d.c, .string (bs d.e)], .int .i64 7]) ∧ Gr w w'
def PutYes (B : Nat) (s : NT) (w : World) (e : Ending) (w' : World) : Prop :=
  ∃ (m : Nat) (d : ND), e = .returned (.tuple #[.agg #[.int .i64 d.k, .string (bs d.l), .string (bs d.x), .slice d.A d.n d.c, .string (bs d.e)], .int .i64 0]) ∧ NRep (fun b => b < B ∨ w.heap.size ≤ b) m w' d s ∧ Gr w w'
theorem own_some {w : World} {base n size : Nat} {e : TypeId} {v : Value} {xs : List Value} (h : w.ownsRow base e size v n xs) (hn : 0 < n) : ∃ g cap, v = .slice (some ⟨g, 0, none⟩) n cap := by
  rcases h.2 with ⟨_, h0⟩ | ⟨g, cap, cur, rfl, _⟩
  · omega
  · exact ⟨g, cap, rfl⟩
theorem cell_set5r {W : World} {B b o : Nat} {u0 u1 u2 u3 u4 : Value} (h : b ≠ B) : (((((W.setCell ⟨B, 0, none⟩ u0).setCell ⟨B, 1, none⟩ u1).setCell ⟨B, 2, none⟩ u2).setCell ⟨B, 3, none⟩ u3).setCell ⟨B, 4, none⟩ u4).cell? ⟨b, o, none⟩ = W.cell? ⟨b, o, none⟩ := by
  apply World.cell?_of_block
  have k : ∀ (w : World) (o : Nat) (u : Value), (w.setCell ⟨B, o, none⟩ u).heap[b]? = w.heap[b]? := fun w o u => heap_set_other h
  rw [k, k, k, k, k]
theorem put_rep {P : Nat → Prop} {m m5 g n0 cap i : Nat} {W9 : World} {t s : NT} {ds : List ND} {d5 : ND} (hn : n0 = t.ks.length) (hcap : n0 ≤ cap) (hcm : cap ≤ maxLen) (q2 : (Lit.int .i64 t.k).wf = true) (q3 : t.l.length ≤ maxLen) (q4 : t.x.length ≤ maxLen) (q5 : t.e.length ≤ maxLen)
    (hi : i < n0) (hg : g < W9.heap.size) (hPg : P g) (hdl : ds.length = t.ks.length) (hc : NCells W9 g (i * 5) d5) (hr : NRep P m5 W9 d5 s)
    (hk : ∀ (j : Nat) (d : ND), j ≠ i → ds[j]? = some d → NCells W9 g (j * 5) d) (hd : ∀ (j : Nat) (d : ND) (y : NT), ds[j]? = some d → t.ks[j]? = some y → NRep P m W9 d y) :
    NRep P (max m m5 + 1) W9 ⟨t.k, t.l, t.x, some ⟨g, 0, none⟩, n0, cap, t.e⟩ (.mk t.k t.l t.x (t.ks.set i s) t.e) := by
  refine ⟨rfl, rfl, rfl, rfl, by rw [List.length_set]; exact hn, hcap, hcm, q2, q3, q4, q5, (fun h => by cases h), fun j z hz => ?_⟩
  by_cases hji : i = j
  · subst hji
    rw [List.getElem?_set_self (by omega)] at hz
    simp only [Option.some.injEq] at hz
    subst hz
    exact ⟨g, 0, d5, rfl, hPg, hg, by simpa using hc, hr.ups _ (Nat.le_max_right _ _)⟩
  · rw [List.getElem?_set_ne hji] at hz
    have hj := (List.getElem?_eq_some_iff.1 hz).1
    obtain ⟨d, hdj⟩ : ∃ d, ds[j]? = some d := ⟨ds[j]'(by omega), List.getElem?_eq_getElem _⟩
    exact ⟨g, 0, d, rfl, hPg, hg, by simpa using hk j d (fun h => hji h.symm) hdj, (hd j d z hdj hz).ups _ (Nat.le_max_left _ _)⟩
theorem putO_nil (t x : NT) : putO t [] x = some x := rfl
theorem putO_bad {t x : NT} {z : Int} {r : List Int} (h : z < 0 ∨ (t.ks.length : Int) ≤ z) : putO t (z :: r) x = none := by
  unfold putO
  rw [getF_bad h]
  rfl
theorem putO_go {t y x : NT} {i : Nat} {r : List Int} (h : t.ks[i]? = some y) : putO t ((i : Int) :: r) x = (putO y r x).map fun q => .mk t.k t.l t.x (t.ks.set i q) t.e := by
  unfold putO
  rw [getF_go h]
  cases getF y r with
  | none => rfl
  | some _ => simp only [Option.map_some]; rw [putF_go h]
set_option maxRecDepth 100000 in
set_option maxHeartbeats 8000000 in
theorem putRP_any : ∀ (m : Nat) (v : ND) (t : NT) (mx : Nat) (vx : ND) (x : NT) (A : Option Addr) (n c : Nat) (zs : List Int) (B : Nat) (w : World), B ≤ w.heap.size → NRep (fun b => b < B) m w v t → NRep (fun b => b < B) mx w vx x → IntsAt .i64 w A n zs → n ≤ c → c ≤ maxLen → countF t ≤ 1000000 →
    Calls Try.prog 27 #[.agg #[.int .i64 v.k, .string (bs v.l), .string (bs v.x), .slice v.A v.n v.c, .string (bs v.e)], .agg #[.int .i64 vx.k, .string (bs vx.l), .string (bs vx.x), .slice vx.A vx.n vx.c, .string (bs vx.e)], .slice A n c] w (PutB B (putO t zs x) w) := by
  intro m
  induction m with
  | zero => intro v t mx vx x A n c zs B w _ h; exact h.elim
  | succ m ih =>
    intro v t mx vx x A n c zs B w hB hr hx hz hnc hcm hct
    obtain ⟨A0, n0, c0, rfl, p1, p2, p3, p4, p5, p6, p7, p8, p9⟩ := hr.open5
    have hn63 : n0 ≤ maxLen := Nat.le_trans p2 p3
    have PP := Lib.hid (And.intro p2 (And.intro p3 (And.intro p4 (And.intro p5 (And.intro p6 p7)))))
    have HCM := Lib.hid hcm
    have hcc := countF_eq t
    have hkl := countL_length t.ks
    have hn6 : n0 ≤ 1000000 := by omega
    have hkb : countL t.ks ≤ 1000000 := by omega
    unfold maxLen at hn63 p3 hcm
    have HI := Lib.hid ih
    have HN := Lib.hid p1
    have HK0 : Hid (Kids (fun b => b < B) m w A0 t.ks) := Lib.hid p9
    have HX := Lib.hid hx
    dsimp only
    have hbn : NBox (((w.alloc (.cells #[.int .i64 t.k, .string (bs t.l), .string (bs t.x), .slice A0 n0 c0, .string (bs t.e)] 24)).alloc (.cells #[.int .i64 vx.k, .string (bs vx.l), .string (bs vx.x), .slice vx.A vx.n vx.c, .string (bs vx.e)] 24)).alloc (.cells #[.int .i64 0, .string (bs []), .string (bs []), .slice none 0 0, .string (bs [])] 24)) w.heap.size ⟨t.k, t.l, t.x, A0, n0, c0, t.e⟩ := (heapOld (by simp; omega)).trans ((heapOld (by simp)).trans (heap_alloc_new w _))
    have hbx : NBox (((w.alloc (.cells #[.int .i64 t.k, .string (bs t.l), .string (bs t.x), .slice A0 n0 c0, .string (bs t.e)] 24)).alloc (.cells #[.int .i64 vx.k, .string (bs vx.l), .string (bs vx.x), .slice vx.A vx.n vx.c, .string (bs vx.e)] 24)).alloc (.cells #[.int .i64 0, .string (bs []), .string (bs []), .slice none 0 0, .string (bs [])] 24)) (w.heap.size + 1) vx := by
      have h := heap_alloc_new (w.alloc (.cells #[.int .i64 t.k, .string (bs t.l), .string (bs t.x), .slice A0 n0 c0, .string (bs t.e)] 24)) (.cells #[.int .i64 vx.k, .string (bs vx.l), .string (bs vx.x), .slice vx.A vx.n vx.c, .string (bs vx.e)] 24)
      have hz : (w.alloc (.cells #[.int .i64 t.k, .string (bs t.l), .string (bs t.x), .slice A0 n0 c0, .string (bs t.e)] 24)).heap.size = w.heap.size + 1 := by simp
      rw [hz] at h
      exact (heapOld (by simp)).trans h
    have hbr : NBox (((w.alloc (.cells #[.int .i64 t.k, .string (bs t.l), .string (bs t.x), .slice A0 n0 c0, .string (bs t.e)] 24)).alloc (.cells #[.int .i64 vx.k, .string (bs vx.l), .string (bs vx.x), .slice vx.A vx.n vx.c, .string (bs vx.e)] 24)).alloc (.cells #[.int .i64 0, .string (bs []), .string (bs []), .slice none 0 0, .string (bs [])] 24)) (w.heap.size + 1 + 1) zeroD := by
      have h := heap_alloc_new ((w.alloc (.cells #[.int .i64 t.k, .string (bs t.l), .string (bs t.x), .slice A0 n0 c0, .string (bs t.e)] 24)).alloc (.cells #[.int .i64 vx.k, .string (bs vx.l), .string (bs vx.x), .slice vx.A vx.n vx.c, .string (bs vx.e)] 24)) (.cells #[.int .i64 0, .string (bs []), .string (bs []), .slice none 0 0, .string (bs [])] 24)
      have hz : ((w.alloc (.cells #[.int .i64 t.k, .string (bs t.l), .string (bs t.x), .slice A0 n0 c0, .string (bs t.e)] 24)).alloc (.cells #[.int .i64 vx.k, .string (bs vx.l), .string (bs vx.x), .slice vx.A vx.n vx.c, .string (bs vx.e)] 24)).heap.size = w.heap.size + 1 + 1 := by simp
      rwa [hz] at h
    have hG1 : Gr w (((w.alloc (.cells #[.int .i64 t.k, .string (bs t.l), .string (bs t.x), .slice A0 n0 c0, .string (bs t.e)] 24)).alloc (.cells #[.int .i64 vx.k, .string (bs vx.l), .string (bs vx.x), .slice vx.A vx.n vx.c, .string (bs vx.e)] 24)).alloc (.cells #[.int .i64 0, .string (bs []), .string (bs []), .slice none 0 0, .string (bs [])] 24)) := (((Gr.refl w).alloc _).alloc _).alloc _
    have HBN := Lib.hid hbn
    have HBX := Lib.hid hbx
    have HBR := Lib.hid hbr
    clear ih hr hx p9 p8 p4 p5 p6 p7 p1 hcc hkl hbn hbx hbr
    cases zs with
    | nil =>
      have hn0 : n = 0 := hz.1.symm
      subst hn0
      rw [putO_nil]
      obtain ⟨s0, s1, s2, s3, s4⟩ := HBR.out.cells
      simp only [zeroD] at s0 s1 s2 s3 s4
      clear hz HK0
      go_enter Try.func27, Try.ntmps27
      go_wp2_with fail
      refine bodyPost_ret (v := .tuple #[.agg #[.int .i64 vx.k, .string (bs vx.l), .string (bs vx.x), .slice vx.A vx.n vx.c, .string (bs vx.e)], .int .i64 0]) ?_ rfl ?_
      · simp [results, Try.results27, go_sem]
      · exact ⟨mx, vx, rfl, (HX.out.gr (by with_reducible (repeat (first | exact Gr.refl _ | assumption | apply Gr.alloc | apply Gr.drew | apply Gr.drewN | refine Gr.setCell ?_ (by first | (simp; done) | (simp; omega)) _ | refine Gr.trans ?_ (by assumption))))).mono (fun b h => .inl h), (by with_reducible (repeat (first | exact Gr.refl _ | assumption | apply Gr.alloc | apply Gr.drew | apply Gr.drewN | refine Gr.setCell ?_ (by first | (simp; done) | (simp; omega)) _ | refine Gr.trans ?_ (by assumption))))⟩
    | cons z r =>
      obtain ⟨n, rfl⟩ : ∃ k, n = k + 1 := ⟨r.length, hz.1.symm⟩
      obtain ⟨bz, oz, rfl, hbz, hcz, hwf, hrest⟩ := hz.rest
      have hwz := wf_bounds hwf
      have HREST := Lib.hid hrest
      have t0 : ((n : Int) + 1 == 0) = false := beq_false_of_ne (by omega)
      have hbz1 : bz < w.heap.size + 1 := by omega
      have hbz2 : bz < w.heap.size + 1 + 1 := by omega
      have hbz3 : bz < w.heap.size + 1 + 1 + 1 := by omega
      clear hz hwf hrest
      by_cases hbad : z < 0 ∨ (n0 : Int) ≤ z
      · have HPO := Lib.hid (putO_bad (t := t) (x := x) (r := r) (z := z) (by have := HN.out; omega))
        obtain ⟨s0, s1, s2, s3, s4⟩ := HBR.out.cells
        simp only [zeroD] at s0 s1 s2 s3 s4
        clear HK0 HREST
        by_cases hz0 : z < 0
        case pos =>
          go_enter Try.func27, Try.ntmps27
          go_wp2_with fail
          refine bodyPost_ret (v := .tuple #[.agg #[.int .i64 0, .string (bs []), .string (bs []), .slice none 0 0, .string (bs [])], .int .i64 7]) ?_ rfl ?_
          · simp [results, Try.results27, go_sem]
            try rfl
          · rw [HPO.out]
            exact ⟨1, zeroD, rfl, zero_rep _ _, (by with_reducible (repeat (first | exact Gr.refl _ | assumption | apply Gr.alloc | apply Gr.drew | apply Gr.drewN | refine Gr.setCell ?_ (by first | (simp; done) | (simp; omega)) _ | refine Gr.trans ?_ (by assumption))))⟩
        case neg =>
          have hz1 : (n0 : Int) ≤ z := by omega
          have t1 : decide (z < 0) = false := decide_eq_false hz0
          have t2 : decide ((n0 : Int) ≤ z) = true := decide_eq_true hz1
          go_enter Try.func27, Try.ntmps27
          go_wp2_with fail
          refine bodyPost_ret (v := .tuple #[.agg #[.int .i64 0, .string (bs []), .string (bs []), .slice none 0 0, .string (bs [])], .int .i64 7]) ?_ rfl ?_
          · simp [results, Try.results27, go_sem]
            try rfl
          · rw [HPO.out]
            exact ⟨1, zeroD, rfl, zero_rep _ _, (by with_reducible (repeat (first | exact Gr.refl _ | assumption | apply Gr.alloc | apply Gr.drew | apply Gr.drewN | refine Gr.setCell ?_ (by first | (simp; done) | (simp; omega)) _ | refine Gr.trans ?_ (by assumption))))⟩
      · obtain ⟨i, rfl⟩ := Int.eq_ofNat_of_zero_le (show 0 ≤ z by omega)
        have hin : i < n0 := by omega
        obtain ⟨y, hy⟩ : ∃ y, t.ks[i]? = some y := ⟨t.ks[i]'(by rw [← HN.out]; exact hin), List.getElem?_eq_getElem _⟩
        obtain ⟨bk, ok, d, hA, hbB, hbk, hce, hre⟩ := HK0.out i y hy
        subst hA
        have HPO := Lib.hid (putO_go (x := x) (r := r) hy)
        have hcy := countL_get _ _ _ hy
        have HRE := Lib.hid hre
        have HCE := Lib.hid hce
        have HG1 := Lib.hid hG1
        have hi1 : (0 : Int) ≤ (i : Int) := by omega
        have hi2 : (i : Int) < (n0 : Int) := by omega
        have t19 : decide ((i : Int) < 0) = false := decide_eq_false (by omega)
        have t25 : decide (n0 ≤ i) = false := decide_eq_false (by omega)
        clear hy hce hre hbad hG1
        go_enter Try.func27, Try.ntmps27
        go_upto_region 6 with (fail)
        change Code.wp _ _ _ _ (((w.alloc (.cells #[.int .i64 t.k, .string (bs t.l), .string (bs t.x), .slice (some ⟨bk, ok, none⟩) n0 c0, .string (bs t.e)] 24)).alloc (.cells #[.int .i64 vx.k, .string (bs vx.l), .string (bs vx.x), .slice vx.A vx.n vx.c, .string (bs vx.e)] 24)).alloc (.cells #[.int .i64 0, .string (bs []), .string (bs []), .slice none 0 0, .string (bs [])] 24))
        generalize (((w.alloc (.cells #[.int .i64 t.k, .string (bs t.l), .string (bs t.x), .slice (some ⟨bk, ok, none⟩) n0 c0, .string (bs t.e)] 24)).alloc (.cells #[.int .i64 vx.k, .string (bs vx.l), .string (bs vx.x), .slice vx.A vx.n vx.c, .string (bs vx.e)] 24)).alloc (.cells #[.int .i64 0, .string (bs []), .string (bs []), .slice none 0 0, .string (bs [])] 24)) = W1 at *
        obtain ⟨ds, hdl, hsrc, hdr⟩ := HK0.out.row
        have HSRC := Lib.hid hsrc
        have HDL := Lib.hid hdl
        have HDR := Lib.hid hdr
        obtain ⟨k0, k1, k2, k3, k4⟩ := HBN.out.cells
        obtain ⟨q0, q1, q2, q3, q4⟩ := HBX.out.cells
        simp only at k0 k1 k2 k3 k4 q0 q1 q2 q3 q4
        obtain ⟨e0, e1, e2, e3, e4⟩ := HCE.out.keep (HG1.out.on anyB) trivial hbk
        have hbw : bk < W1.heap.size := Gr.lt HG1.out hbk
        have hlr := lt_of_block HBR.out
        have hlb : w.heap.size < W1.heap.size := by omega
        have hlx : w.heap.size + 1 < W1.heap.size := by omega
        obtain ⟨b0, hb0⟩ : ∃ b, b = w.heap.size := ⟨_, rfl⟩
        rw [← hb0] at k0 k1 k2 k3 k4 q0 q1 q2 q3 q4 hlb hlx hlr HBN HBX HBR
        rw [← hb0]
        have HB0 := Lib.hid hb0
        have hBb : B ≤ b0 := by omega
        clear hsrc hdl hdr hcz hb0
        have hstep : ∀ (w' : World) (A' : Option Addr) (c' : Nat), Gr w w' → (0 < n → A' = some ⟨bz, oz + 1, none⟩) → n ≤ c' → c' ≤ 9223372036854775807 → Calls Try.prog 27 #[.agg #[.int .i64 d.k, .string (bs d.l), .string (bs d.x), .slice d.A d.n d.c, .string (bs d.e)], .agg #[.int .i64 vx.k, .string (bs vx.l), .string (bs vx.x), .slice vx.A vx.n vx.c, .string (bs vx.e)], .slice A' n c'] w' (PutB B (putO y r x) w') := fun w' A' c' hg hA hc hm =>
          HI.out d y mx vx x A' n c' r B w' (by have := Below.size hg; omega) (HRE.out.gr hg) (HX.out.gr hg) ((HREST.out A' hA).keep hg) hc (by unfold maxLen; omega) (by omega)
        cases hq : putO y r x with
        | none =>
          have hpo : putO t ((i : Int) :: r) x = none := by rw [HPO.out, hq]; rfl
          rw [hq] at hstep
          have HS : Hid (∀ (w' : World) (A' : Option Addr) (c' : Nat), Gr w w' → (0 < n → A' = some ⟨bz, oz + 1, none⟩) → n ≤ c' → c' ≤ 9223372036854775807 → Calls Try.prog 27 #[.agg #[.int .i64 d.k, .string (bs d.l), .string (bs d.x), .slice d.A d.n d.c, .string (bs d.e)], .agg #[.int .i64 vx.k, .string (bs vx.l), .string (bs vx.x), .slice vx.A vx.n vx.c, .string (bs vx.e)], .slice A' n c'] w' (PutNo w')) := Lib.hid (fun w' A' c' h1 h2 h3 h4 => (hstep w' A' c' h1 h2 h3 h4).mono (fun e w'' ⟨m5, d5, h5, _, h6⟩ => ⟨d5, h5, h6⟩))
          have HPN := Lib.hid hpo
          clear hstep hq hpo
          by_cases hc1 : c = 1
          all_goals
            have hcb1 : (1 : Int) ≤ (c : Int) := by omega
            have hcb2 : (1 : Int) ≤ (n : Int) + 1 := by omega
            have hcb3 : (n : Int) + 1 ≤ (c : Int) := by omega
            have hcb4 : 1 ≤ n + 1 := by omega
            have hcb5 : 1 ≤ c := by omega
            go_region_held3 (fun w' => w'.cell? ⟨b0, 0, none⟩ = some (.int .i64 t.k) ∧ w'.cell? ⟨b0, 1, none⟩ = some (.string (bs t.l)) ∧ w'.cell? ⟨b0, 2, none⟩ = some (.string (bs t.x)) ∧ w'.cell? ⟨b0, 3, none⟩ = some (.slice (some ⟨bk, ok, none⟩) n0 c0) ∧ w'.cell? ⟨b0, 4, none⟩ = some (.string (bs t.e)) ∧ w'.cell? ⟨b0 + 1, 0, none⟩ = some (.int .i64 vx.k) ∧ w'.cell? ⟨b0 + 1, 1, none⟩ = some (.string (bs vx.l)) ∧ w'.cell? ⟨b0 + 1, 2, none⟩ = some (.string (bs vx.x)) ∧ w'.cell? ⟨b0 + 1, 3, none⟩ = some (.slice vx.A vx.n vx.c) ∧ w'.cell? ⟨b0 + 1, 4, none⟩ = some (.string (bs vx.e)) ∧ w'.cell? ⟨bk, ok + i * 5, none⟩ = some (.int .i64 d.k) ∧ w'.cell? ⟨bk, ok + i * 5 + 1, none⟩ = some (.string (bs d.l)) ∧ w'.cell? ⟨bk, ok + i * 5 + 2, none⟩ = some (.string (bs d.x)) ∧ w'.cell? ⟨bk, ok + i * 5 + 3, none⟩ = some (.slice d.A d.n d.c) ∧ w'.cell? ⟨bk, ok + i * 5 + 4, none⟩ = some (.string (bs d.e)))
              (first | with_reducible exact ⟨k0, k1, k2, k3, k4, q0, q1, q2, q3, q4, e0, e1, e2, e3, e4⟩ | with_reducible exact ⟨(Gr.refl W1).drew.cell k0, (Gr.refl W1).drew.cell k1, (Gr.refl W1).drew.cell k2, (Gr.refl W1).drew.cell k3, (Gr.refl W1).drew.cell k4, (Gr.refl W1).drew.cell q0, (Gr.refl W1).drew.cell q1, (Gr.refl W1).drew.cell q2, (Gr.refl W1).drew.cell q3, (Gr.refl W1).drew.cell q4, (Gr.refl W1).drew.cell e0, (Gr.refl W1).drew.cell e1, (Gr.refl W1).drew.cell e2, (Gr.refl W1).drew.cell e3, (Gr.refl W1).drew.cell e4⟩ | with_reducible exact ⟨k0_5, k1_5, k2_5, k3_5, k4_5, q0_5, q1_5, q2_5, q3_5, q4_5, e0_5, e1_5, e2_5, e3_5, e4_5⟩ | with_reducible exact ⟨(((Gr.refl W1).drew).alloc _).cell k0, (((Gr.refl W1).drew).alloc _).cell k1, (((Gr.refl W1).drew).alloc _).cell k2, (((Gr.refl W1).drew).alloc _).cell k3, (((Gr.refl W1).drew).alloc _).cell k4, (((Gr.refl W1).drew).alloc _).cell q0, (((Gr.refl W1).drew).alloc _).cell q1, (((Gr.refl W1).drew).alloc _).cell q2, (((Gr.refl W1).drew).alloc _).cell q3, (((Gr.refl W1).drew).alloc _).cell q4, (((Gr.refl W1).drew).alloc _).cell e0, (((Gr.refl W1).drew).alloc _).cell e1, (((Gr.refl W1).drew).alloc _).cell e2, (((Gr.refl W1).drew).alloc _).cell e3, (((Gr.refl W1).drew).alloc _).cell e4⟩ | with_reducible exact ⟨((Gr.refl W1).alloc _).cell k0, ((Gr.refl W1).alloc _).cell k1, ((Gr.refl W1).alloc _).cell k2, ((Gr.refl W1).alloc _).cell k3, ((Gr.refl W1).alloc _).cell k4, ((Gr.refl W1).alloc _).cell q0, ((Gr.refl W1).alloc _).cell q1, ((Gr.refl W1).alloc _).cell q2, ((Gr.refl W1).alloc _).cell q3, ((Gr.refl W1).alloc _).cell q4, ((Gr.refl W1).alloc _).cell e0, ((Gr.refl W1).alloc _).cell e1, ((Gr.refl W1).alloc _).cell e2, ((Gr.refl W1).alloc _).cell e3, ((Gr.refl W1).alloc _).cell e4⟩ | with_reducible exact ⟨(((Gr.refl W1).alloc _).drew).cell k0, (((Gr.refl W1).alloc _).drew).cell k1, (((Gr.refl W1).alloc _).drew).cell k2, (((Gr.refl W1).alloc _).drew).cell k3, (((Gr.refl W1).alloc _).drew).cell k4, (((Gr.refl W1).alloc _).drew).cell q0, (((Gr.refl W1).alloc _).drew).cell q1, (((Gr.refl W1).alloc _).drew).cell q2, (((Gr.refl W1).alloc _).drew).cell q3, (((Gr.refl W1).alloc _).drew).cell q4, (((Gr.refl W1).alloc _).drew).cell e0, (((Gr.refl W1).alloc _).drew).cell e1, (((Gr.refl W1).alloc _).drew).cell e2, (((Gr.refl W1).alloc _).drew).cell e3, (((Gr.refl W1).alloc _).drew).cell e4⟩ | with_reducible exact ⟨((Gr.refl w5).alloc _).cell k0_5, ((Gr.refl w5).alloc _).cell k1_5, ((Gr.refl w5).alloc _).cell k2_5, ((Gr.refl w5).alloc _).cell k3_5, ((Gr.refl w5).alloc _).cell k4_5, ((Gr.refl w5).alloc _).cell q0_5, ((Gr.refl w5).alloc _).cell q1_5, ((Gr.refl w5).alloc _).cell q2_5, ((Gr.refl w5).alloc _).cell q3_5, ((Gr.refl w5).alloc _).cell q4_5, ((Gr.refl w5).alloc _).cell e0_5, ((Gr.refl w5).alloc _).cell e1_5, ((Gr.refl w5).alloc _).cell e2_5, ((Gr.refl w5).alloc _).cell e3_5, ((Gr.refl w5).alloc _).cell e4_5⟩ | ((with_reducible refine ⟨(cell_set5r ?_).trans k0_5, (cell_set5r ?_).trans k1_5, (cell_set5r ?_).trans k2_5, (cell_set5r ?_).trans k3_5, (cell_set5r ?_).trans k4_5, (cell_set5r ?_).trans q0_5, (cell_set5r ?_).trans q1_5, (cell_set5r ?_).trans q2_5, (cell_set5r ?_).trans q3_5, (cell_set5r ?_).trans q4_5, (cell_set5r ?_).trans e0_5, (cell_set5r ?_).trans e1_5, (cell_set5r ?_).trans e2_5, (cell_set5r ?_).trans e3_5, (cell_set5r ?_).trans e4_5⟩) <;> omega) | fail)
              ((go_at_call 27; refine (HS.out _ _ _ (HG1.out.trans (by first | exact Gr.refl _ | exact (Gr.refl _).drew | exact (Gr.refl _).alloc _ | exact ((Gr.refl _).drew).alloc _ | exact ((Gr.refl _).alloc _).drew)) (fun h => by first | rfl | omega) (by omega) (by omega)).mono ?_; rintro e w5 ⟨d5, rfl, hb5⟩; have hg5 : Gr W1 w5 := (by first | exact hb5 | exact ((Gr.refl _).drew).trans hb5 | exact ((Gr.refl _).alloc _).trans hb5 | exact (((Gr.refl _).drew).alloc _).trans hb5 | exact (((Gr.refl _).alloc _).drew).trans hb5); have k0_5 := hg5.cell k0; have k1_5 := hg5.cell k1; have k2_5 := hg5.cell k2; have k3_5 := hg5.cell k3; have k4_5 := hg5.cell k4; have q0_5 := hg5.cell q0; have q1_5 := hg5.cell q1; have q2_5 := hg5.cell q2; have q3_5 := hg5.cell q3; have q4_5 := hg5.cell q4; have e0_5 := hg5.cell e0; have e1_5 := hg5.cell e1; have e2_5 := hg5.cell e2; have e3_5 := hg5.cell e3; have e4_5 := hg5.cell e4; (try (refine (fun (hy5 : NBox w5 W1.heap.size zeroD) => ?_) ?_; rotate_left 1; (focus (refine NBox.gr ?_ hb5; exact heap_alloc_new W1 _)))); (try (have y0 := hy5.cells; obtain ⟨s0, s1, s2, s3, s4⟩ := y0; simp only [zeroD] at s0 s1 s2 s3 s4; have z0 := free_of_cells hy5 0; have z1 := free_of_cells hy5 1; have z2 := free_of_cells hy5 2; have z3 := free_of_cells hy5 3; have z4 := free_of_cells hy5 4; have hly := lt_of_block hy5)); have hz5 := Below.size hg5))
          all_goals
            have hbr5 := HBR.out.gr hg5
            obtain ⟨r0, r1, r2, r3, r4⟩ := hbr5.cells
            simp only [zeroD] at r0 r1 r2 r3 r4
            have x0 := free_of_cells hbr5 0
            have x1 := free_of_cells hbr5 1
            have x2 := free_of_cells hbr5 2
            have x3 := free_of_cells hbr5 3
            have x4 := free_of_cells hbr5 4
            have hl5 := lt_of_block hbr5
            have hne1 : b0 + 1 + 1 ≠ W1.heap.size := by omega
            have hne2 : W1.heap.size ≠ b0 + 1 + 1 := by omega
            clear hbr5
            go_wp2_with fail
            refine bodyPost_ret (v := .tuple #[.agg #[.int .i64 0, .string (bs []), .string (bs []), .slice none 0 0, .string (bs [])], .int .i64 7]) ?_ rfl ?_
            · simp [results, Try.results27, go_sem, r0, r1, r2, r3, r4, hl5]
              try rfl
            · have hg := HG1.out
              have hb0 := HB0.out
              rw [HPN.out]
              exact ⟨1, zeroD, rfl, zero_rep _ _, (by with_reducible (repeat (first | exact Gr.refl _ | assumption | apply Gr.alloc | apply Gr.drew | apply Gr.drewN | refine Gr.setCell ?_ (by first | (simp; done) | (simp; omega)) _ | refine Gr.trans ?_ (by assumption))))⟩
        | some s =>
          have hpo : putO t ((i : Int) :: r) x = some (.mk t.k t.l t.x (t.ks.set i s) t.e) := by rw [HPO.out, hq]; rfl
          rw [hq] at hstep
          have HS : Hid (∀ (w' : World) (A' : Option Addr) (c' : Nat), Gr w w' → (0 < n → A' = some ⟨bz, oz + 1, none⟩) → n ≤ c' → c' ≤ 9223372036854775807 → Calls Try.prog 27 #[.agg #[.int .i64 d.k, .string (bs d.l), .string (bs d.x), .slice d.A d.n d.c, .string (bs d.e)], .agg #[.int .i64 vx.k, .string (bs vx.l), .string (bs vx.x), .slice vx.A vx.n vx.c, .string (bs vx.e)], .slice A' n c'] w' (PutYes B s w')) := Lib.hid hstep
          have HPN := Lib.hid hpo
          clear hstep hq hpo
          by_cases hc1 : c = 1
          all_goals
            have hcb1 : (1 : Int) ≤ (c : Int) := by omega
            have hcb2 : (1 : Int) ≤ (n : Int) + 1 := by omega
            have hcb3 : (n : Int) + 1 ≤ (c : Int) := by omega
            have hcb4 : 1 ≤ n + 1 := by omega
            have hcb5 : 1 ≤ c := by omega
            go_region_held3 (fun w' => w'.cell? ⟨b0, 0, none⟩ = some (.int .i64 t.k) ∧ w'.cell? ⟨b0, 1, none⟩ = some (.string (bs t.l)) ∧ w'.cell? ⟨b0, 2, none⟩ = some (.string (bs t.x)) ∧ w'.cell? ⟨b0, 3, none⟩ = some (.slice (some ⟨bk, ok, none⟩) n0 c0) ∧ w'.cell? ⟨b0, 4, none⟩ = some (.string (bs t.e)) ∧ w'.cell? ⟨b0 + 1, 0, none⟩ = some (.int .i64 vx.k) ∧ w'.cell? ⟨b0 + 1, 1, none⟩ = some (.string (bs vx.l)) ∧ w'.cell? ⟨b0 + 1, 2, none⟩ = some (.string (bs vx.x)) ∧ w'.cell? ⟨b0 + 1, 3, none⟩ = some (.slice vx.A vx.n vx.c) ∧ w'.cell? ⟨b0 + 1, 4, none⟩ = some (.string (bs vx.e)) ∧ w'.cell? ⟨bk, ok + i * 5, none⟩ = some (.int .i64 d.k) ∧ w'.cell? ⟨bk, ok + i * 5 + 1, none⟩ = some (.string (bs d.l)) ∧ w'.cell? ⟨bk, ok + i * 5 + 2, none⟩ = some (.string (bs d.x)) ∧ w'.cell? ⟨bk, ok + i * 5 + 3, none⟩ = some (.slice d.A d.n d.c) ∧ w'.cell? ⟨bk, ok + i * 5 + 4, none⟩ = some (.string (bs d.e)))
              (first | with_reducible exact ⟨k0, k1, k2, k3, k4, q0, q1, q2, q3, q4, e0, e1, e2, e3, e4⟩ | with_reducible exact ⟨(Gr.refl W1).drew.cell k0, (Gr.refl W1).drew.cell k1, (Gr.refl W1).drew.cell k2, (Gr.refl W1).drew.cell k3, (Gr.refl W1).drew.cell k4, (Gr.refl W1).drew.cell q0, (Gr.refl W1).drew.cell q1, (Gr.refl W1).drew.cell q2, (Gr.refl W1).drew.cell q3, (Gr.refl W1).drew.cell q4, (Gr.refl W1).drew.cell e0, (Gr.refl W1).drew.cell e1, (Gr.refl W1).drew.cell e2, (Gr.refl W1).drew.cell e3, (Gr.refl W1).drew.cell e4⟩ | with_reducible exact ⟨k0_5, k1_5, k2_5, k3_5, k4_5, q0_5, q1_5, q2_5, q3_5, q4_5, e0_5, e1_5, e2_5, e3_5, e4_5⟩ | with_reducible exact ⟨(((Gr.refl W1).drew).alloc _).cell k0, (((Gr.refl W1).drew).alloc _).cell k1, (((Gr.refl W1).drew).alloc _).cell k2, (((Gr.refl W1).drew).alloc _).cell k3, (((Gr.refl W1).drew).alloc _).cell k4, (((Gr.refl W1).drew).alloc _).cell q0, (((Gr.refl W1).drew).alloc _).cell q1, (((Gr.refl W1).drew).alloc _).cell q2, (((Gr.refl W1).drew).alloc _).cell q3, (((Gr.refl W1).drew).alloc _).cell q4, (((Gr.refl W1).drew).alloc _).cell e0, (((Gr.refl W1).drew).alloc _).cell e1, (((Gr.refl W1).drew).alloc _).cell e2, (((Gr.refl W1).drew).alloc _).cell e3, (((Gr.refl W1).drew).alloc _).cell e4⟩ | with_reducible exact ⟨((Gr.refl W1).alloc _).cell k0, ((Gr.refl W1).alloc _).cell k1, ((Gr.refl W1).alloc _).cell k2, ((Gr.refl W1).alloc _).cell k3, ((Gr.refl W1).alloc _).cell k4, ((Gr.refl W1).alloc _).cell q0, ((Gr.refl W1).alloc _).cell q1, ((Gr.refl W1).alloc _).cell q2, ((Gr.refl W1).alloc _).cell q3, ((Gr.refl W1).alloc _).cell q4, ((Gr.refl W1).alloc _).cell e0, ((Gr.refl W1).alloc _).cell e1, ((Gr.refl W1).alloc _).cell e2, ((Gr.refl W1).alloc _).cell e3, ((Gr.refl W1).alloc _).cell e4⟩ | with_reducible exact ⟨(((Gr.refl W1).alloc _).drew).cell k0, (((Gr.refl W1).alloc _).drew).cell k1, (((Gr.refl W1).alloc _).drew).cell k2, (((Gr.refl W1).alloc _).drew).cell k3, (((Gr.refl W1).alloc _).drew).cell k4, (((Gr.refl W1).alloc _).drew).cell q0, (((Gr.refl W1).alloc _).drew).cell q1, (((Gr.refl W1).alloc _).drew).cell q2, (((Gr.refl W1).alloc _).drew).cell q3, (((Gr.refl W1).alloc _).drew).cell q4, (((Gr.refl W1).alloc _).drew).cell e0, (((Gr.refl W1).alloc _).drew).cell e1, (((Gr.refl W1).alloc _).drew).cell e2, (((Gr.refl W1).alloc _).drew).cell e3, (((Gr.refl W1).alloc _).drew).cell e4⟩ | with_reducible exact ⟨((Gr.refl w5).alloc _).cell k0_5, ((Gr.refl w5).alloc _).cell k1_5, ((Gr.refl w5).alloc _).cell k2_5, ((Gr.refl w5).alloc _).cell k3_5, ((Gr.refl w5).alloc _).cell k4_5, ((Gr.refl w5).alloc _).cell q0_5, ((Gr.refl w5).alloc _).cell q1_5, ((Gr.refl w5).alloc _).cell q2_5, ((Gr.refl w5).alloc _).cell q3_5, ((Gr.refl w5).alloc _).cell q4_5, ((Gr.refl w5).alloc _).cell e0_5, ((Gr.refl w5).alloc _).cell e1_5, ((Gr.refl w5).alloc _).cell e2_5, ((Gr.refl w5).alloc _).cell e3_5, ((Gr.refl w5).alloc _).cell e4_5⟩ | ((with_reducible refine ⟨(cell_set5r ?_).trans k0_5, (cell_set5r ?_).trans k1_5, (cell_set5r ?_).trans k2_5, (cell_set5r ?_).trans k3_5, (cell_set5r ?_).trans k4_5, (cell_set5r ?_).trans q0_5, (cell_set5r ?_).trans q1_5, (cell_set5r ?_).trans q2_5, (cell_set5r ?_).trans q3_5, (cell_set5r ?_).trans q4_5, (cell_set5r ?_).trans e0_5, (cell_set5r ?_).trans e1_5, (cell_set5r ?_).trans e2_5, (cell_set5r ?_).trans e3_5, (cell_set5r ?_).trans e4_5⟩) <;> omega) | fail)
              ((go_at_call 27; refine (HS.out _ _ _ (HG1.out.trans (by first | exact Gr.refl _ | exact (Gr.refl _).drew | exact (Gr.refl _).alloc _ | exact ((Gr.refl _).drew).alloc _ | exact ((Gr.refl _).alloc _).drew)) (fun h => by first | rfl | omega) (by omega) (by omega)).mono ?_; rintro e w5 ⟨m5, d5, rfl, hr5, hb5⟩; have HR5 := Lib.hid hr5.and_lt; clear hr5; have hg5 : Gr W1 w5 := (by first | exact hb5 | exact ((Gr.refl _).drew).trans hb5 | exact ((Gr.refl _).alloc _).trans hb5 | exact (((Gr.refl _).drew).alloc _).trans hb5 | exact (((Gr.refl _).alloc _).drew).trans hb5); have k0_5 := hg5.cell k0; have k1_5 := hg5.cell k1; have k2_5 := hg5.cell k2; have k3_5 := hg5.cell k3; have k4_5 := hg5.cell k4; have q0_5 := hg5.cell q0; have q1_5 := hg5.cell q1; have q2_5 := hg5.cell q2; have q3_5 := hg5.cell q3; have q4_5 := hg5.cell q4; have e0_5 := hg5.cell e0; have e1_5 := hg5.cell e1; have e2_5 := hg5.cell e2; have e3_5 := hg5.cell e3; have e4_5 := hg5.cell e4; (try (refine (fun (hy5 : NBox w5 W1.heap.size zeroD) => ?_) ?_; rotate_left 1; (focus (refine NBox.gr ?_ hb5; exact heap_alloc_new W1 _)))); (try (have y0 := hy5.cells; obtain ⟨s0, s1, s2, s3, s4⟩ := y0; simp only [zeroD] at s0 s1 s2 s3 s4; have z0 := free_of_cells hy5 0; have z1 := free_of_cells hy5 1; have z2 := free_of_cells hy5 2; have z3 := free_of_cells hy5 3; have z4 := free_of_cells hy5 4; have hly := lt_of_block hy5)); have hz5 := Below.size hg5))
          · go_upto_region 9 with (fail)
            change Code.wp _ _ _ _ (w5.alloc (.cells #[.int .i64 d5.k, .string (bs d5.l), .string (bs d5.x), .slice d5.A d5.n d5.c, .string (bs d5.e)] 24))
            have hy6 : NBox (w5.alloc (.cells #[.int .i64 d5.k, .string (bs d5.l), .string (bs d5.x), .slice d5.A d5.n d5.c, .string (bs d5.e)] 24)) w5.heap.size d5 := heap_alloc_new w5 _
            have hg6 : Gr w5 (w5.alloc (.cells #[.int .i64 d5.k, .string (bs d5.l), .string (bs d5.x), .slice d5.A d5.n d5.c, .string (bs d5.e)] 24)) := (Gr.refl _).alloc _
            have hr6 : NRep (fun b => (b < B ∨ w.heap.size ≤ b) ∧ b ≠ b0 ∧ b ≠ b0 + 1 ∧ b ≠ b0 + 1 + 1) m5 (w5.alloc (.cells #[.int .i64 d5.k, .string (bs d5.l), .string (bs d5.x), .slice d5.A d5.n d5.c, .string (bs d5.e)] 24)) d5 s := (HR5.out.gr hg6).mono (fun b h => by have := HB0.out; have hq : W1.drew.heap.size = W1.heap.size := rfl; omega)
            have HBN6 := Lib.hid ((HBN.out.gr hg5).gr hg6)
            have HBR6 := Lib.hid ((HBR.out.gr hg5).gr hg6)
            have hgw6 := (HG1.out.trans hg5).trans hg6
            have HY6 := Lib.hid hy6
            have HR6 := Lib.hid hr6
            have hyb : W1.heap.size ≤ w5.heap.size := hz5
            have hsz6 : w5.heap.size < (w5.alloc (.cells #[.int .i64 d5.k, .string (bs d5.l), .string (bs d5.x), .slice d5.A d5.n d5.c, .string (bs d5.e)] 24)).heap.size := by simp
            clear hy6 hr6 HR5
            generalize w5.alloc (.cells #[.int .i64 d5.k, .string (bs d5.l), .string (bs d5.x), .slice d5.A d5.n d5.c, .string (bs d5.e)] 24) = W6 at *
            obtain ⟨yb, hyb2⟩ : ∃ b, b = w5.heap.size := ⟨_, rfl⟩
            rw [← hyb2] at HY6 hyb hsz6
            rw [← hyb2]
            clear hyb2
            have HSRC6 := Lib.hid (HSRC.out.gr hgw6)
            have HDR6 := Lib.hid (fun j d y (h1 : ds[j]? = some d) (h2 : t.ks[j]? = some y) => (HDR.out j d y h1 h2).gr hgw6)
            have hlb6 := lt_of_block HBN6.out
            have hlz6 := lt_of_block HBR6.out
            have hin5 : i * 5 < n0 * 5 := by omega
            obtain ⟨i0, hi, hz0, hz1, hz2⟩ := info_parts infoNode
            obtain ⟨k0, k1, k2, k3, k4⟩ := HBN6.out.cells
            simp only at k0 k1 k2 k3 k4
            go_wp2_with (at_builtin; (refine wpList_app rfl (.tmp 45) (.tmp 47) 22 rfl W6.heap.size 24 i0 _ 5 80 Try.underlying22 hi hz0 hz1 hz2 rfl (by decide) _ 0 [] rfl (own_fresh (n := 0) (cap := 0) (size := 5) (cs := []) (heap_alloc_new W6 _) (Nat.le_refl _) rfl (Nat.le_refl _) rfl (by decide)) (some ⟨bk, ok, none⟩) n0 c0 _ rfl (by have h := HSRC6.out.gr ((Gr.refl W6).alloc (.cells #[] 24)); rw [← HN.out] at h; exact h) (by unfold maxLen; omega) (by omega) (by simp) ?_); intro v7 w7 hown7 hgrow7; (rw [Nat.zero_add, List.nil_append] at hown7); (obtain ⟨g, cap, rfl⟩ := own_some hown7 (by omega)); (have hG7 : Gr W6 w7 := Gr.grownOwn ((Gr.refl _).alloc _) hgrow7 (fun k hk => by cases hk; exact Nat.le_refl _)); (obtain ⟨hrb, hcap, hcm7, hgb⟩ := row_rbox hown7); (have HOWN7 := Lib.hid hown7); (have HY7 := Lib.hid (HY6.out.gr hG7)); (obtain ⟨y0, y1, y2, y3, y4⟩ := HY7.out.cells); (have hly7 := lt_of_block HY7.out); (obtain ⟨u0, hu0⟩ := hrb.cell (show i * 5 < cap * 5 by omega)); (obtain ⟨u1, hu1⟩ := hrb.cell (show i * 5 + 1 < cap * 5 by omega)); (obtain ⟨u2, hu2⟩ := hrb.cell (show i * 5 + 2 < cap * 5 by omega)); (obtain ⟨u3, hu3⟩ := hrb.cell (show i * 5 + 3 < cap * 5 by omega)); (obtain ⟨u4, hu4⟩ := hrb.cell (show i * 5 + 4 < cap * 5 by omega)); (have x0 := hrb.free (i * 5)); (have x1 := hrb.free (i * 5 + 1)); (have x2 := hrb.free (i * 5 + 2)); (have x3 := hrb.free (i * 5 + 3)); (have x4 := hrb.free (i * 5 + 4)); (have hlg := hrb.lt); (have HRB := Lib.hid hrb); (have hi4 : i < cap := by omega); (have hn1 : b0 ≠ g := by omega); (have hn2 : g ≠ b0 := by omega); (have hn3 : b0 + 1 + 1 ≠ g := by omega); (have hn4 : g ≠ b0 + 1 + 1 := by omega); (have HBN7 := Lib.hid (HBN6.out.gr hG7)); (have HBR7 := Lib.hid (HBR6.out.gr hG7)); (obtain ⟨k0, k1, k2, k3, k4⟩ := HBN7.out.cells); (simp only at k0 k1 k2 k3 k4); (obtain ⟨s0, s1, s2, s3, s4⟩ := HBR7.out.cells); (simp only [zeroD] at s0 s1 s2 s3 s4); (have zz0 := free_of_cells HBR7.out 0); (have zz1 := free_of_cells HBR7.out 1); (have zz2 := free_of_cells HBR7.out 2); (have zz3 := free_of_cells HBR7.out 3); (have zz4 := free_of_cells HBR7.out 4); (have zk3 := free_of_cells HBN7.out 3); (have hlb7 := lt_of_block HBN7.out); (have hlz7 := lt_of_block HBR7.out); clear hown7 hgrow7 hrb)
            refine bodyPost_ret (v := .tuple #[.agg #[.int .i64 t.k, .string (bs t.l), .string (bs t.x), .slice (some ⟨g, 0, none⟩) n0 cap, .string (bs t.e)], .int .i64 0]) ?_ rfl ?_
            · simp [results, Try.results27, go_sem, s0, s1, s2, s3, s4]
            · rw [HPN.out]
              change PutB B _ w _ (((((((w7.setCells g (i * 5) d5.cells).setCell ⟨b0, 3, none⟩ (.slice (some ⟨g, 0, none⟩) n0 cap)).setCell ⟨b0 + 1 + 1, 0, none⟩ (.int .i64 t.k)).setCell ⟨b0 + 1 + 1, 1, none⟩ (.string (bs t.l))).setCell ⟨b0 + 1 + 1, 2, none⟩ (.string (bs t.x))).setCell ⟨b0 + 1 + 1, 3, none⟩ (.slice (some ⟨g, 0, none⟩) n0 cap)).setCell ⟨b0 + 1 + 1, 4, none⟩ (.string (bs t.e)))
              have hb0 := HB0.out
              have hW6 := Below.size hgw6
              have hs9 : ∀ b o, b ≠ b0 → b ≠ b0 + 1 + 1 → (((((((w7.setCells g (i * 5) d5.cells).setCell ⟨b0, 3, none⟩ (.slice (some ⟨g, 0, none⟩) n0 cap)).setCell ⟨b0 + 1 + 1, 0, none⟩ (.int .i64 t.k)).setCell ⟨b0 + 1 + 1, 1, none⟩ (.string (bs t.l))).setCell ⟨b0 + 1 + 1, 2, none⟩ (.string (bs t.x))).setCell ⟨b0 + 1 + 1, 3, none⟩ (.slice (some ⟨g, 0, none⟩) n0 cap)).setCell ⟨b0 + 1 + 1, 4, none⟩ (.string (bs t.e))).cell? ⟨b, o, none⟩ = (w7.setCells g (i * 5) d5.cells).cell? ⟨b, o, none⟩ := fun b o h1 h2 => by
                apply World.cell?_of_block
                have g1 : ∀ (W : World) (k : Nat) (u : Value), (W.setCell ⟨b0, k, none⟩ u).heap[b]? = W.heap[b]? := fun W k u => heap_set_other h1
                have g2 : ∀ (W : World) (k : Nat) (u : Value), (W.setCell ⟨b0 + 1 + 1, k, none⟩ u).heap[b]? = W.heap[b]? := fun W k u => heap_set_other h2
                rw [g2, g2, g2, g2, g2, g1]
              have hz9 : (((((((w7.setCells g (i * 5) d5.cells).setCell ⟨b0, 3, none⟩ (.slice (some ⟨g, 0, none⟩) n0 cap)).setCell ⟨b0 + 1 + 1, 0, none⟩ (.int .i64 t.k)).setCell ⟨b0 + 1 + 1, 1, none⟩ (.string (bs t.l))).setCell ⟨b0 + 1 + 1, 2, none⟩ (.string (bs t.x))).setCell ⟨b0 + 1 + 1, 3, none⟩ (.slice (some ⟨g, 0, none⟩) n0 cap)).setCell ⟨b0 + 1 + 1, 4, none⟩ (.string (bs t.e))).heap.size = w7.heap.size := by simp [size_setCells]
              have hg9 : Gr w (((((((w7.setCells g (i * 5) d5.cells).setCell ⟨b0, 3, none⟩ (.slice (some ⟨g, 0, none⟩) n0 cap)).setCell ⟨b0 + 1 + 1, 0, none⟩ (.int .i64 t.k)).setCell ⟨b0 + 1 + 1, 1, none⟩ (.string (bs t.l))).setCell ⟨b0 + 1 + 1, 2, none⟩ (.string (bs t.x))).setCell ⟨b0 + 1 + 1, 3, none⟩ (.slice (some ⟨g, 0, none⟩) n0 cap)).setCell ⟨b0 + 1 + 1, 4, none⟩ (.string (bs t.e))) := by
                have h8 : Gr w (w7.setCells g (i * 5) d5.cells) := Gr.setCells (by omega) _ _ _ (hgw6.trans hG7)
                exact (by with_reducible (repeat (first | exact Gr.refl _ | assumption | apply Gr.alloc | apply Gr.drew | apply Gr.drewN | refine Gr.setCell ?_ (by first | (simp; done) | (simp; omega)) _ | refine Gr.trans ?_ (by assumption))))
              have h67 := Below.size hG7
              obtain ⟨pp2, pp3, pp4, pp5, pp6, pp7⟩ := PP.out
              generalize (((((((w7.setCells g (i * 5) d5.cells).setCell ⟨b0, 3, none⟩ (.slice (some ⟨g, 0, none⟩) n0 cap)).setCell ⟨b0 + 1 + 1, 0, none⟩ (.int .i64 t.k)).setCell ⟨b0 + 1 + 1, 1, none⟩ (.string (bs t.l))).setCell ⟨b0 + 1 + 1, 2, none⟩ (.string (bs t.x))).setCell ⟨b0 + 1 + 1, 3, none⟩ (.slice (some ⟨g, 0, none⟩) n0 cap)).setCell ⟨b0 + 1 + 1, 4, none⟩ (.string (bs t.e))) = W9 at *
              refine ⟨max m m5 + 1, ⟨t.k, t.l, t.x, some ⟨g, 0, none⟩, n0, cap, t.e⟩, rfl, ?_, hg9⟩
              refine put_rep (d5 := d5) HN.out hcap hcm7 pp4 pp5 pp6 pp7 hin (by omega) (.inr (by omega)) HDL.out ?_ ?_ (fun j d' hj hd => ?_) (fun j d' y' hd hy => ?_)
              · have hc8 : NCells (w7.setCells g (i * 5) d5.cells) g (i * 5) d5 := by
                  obtain ⟨q, hq⟩ : ∃ q, ds[i]? = some q := ⟨ds[i]'(by have := HDL.out; have := HN.out; omega), List.getElem?_eq_getElem _⟩
                  exact NCells.set (row_cells HOWN7.out i q hq)
                exact hc8.other (fun q _ => hs9 g _ (by omega) (by omega))
              · refine (NRep.keep (P := fun b => ((b < B ∨ w.heap.size ≤ b) ∧ b ≠ b0 ∧ b ≠ b0 + 1 ∧ b ≠ b0 + 1 + 1) ∧ b < W6.heap.size) ⟨by omega, fun b o hb _ => ?_⟩ _ _ _ (HR6.out.and_lt.gr hG7)).mono (fun b hb => by omega)
                rw [hs9 b o (by omega) (by omega)]
                exact cell_set5 (fun he => by omega)
              · refine NCells.other ((row_cells HOWN7.out j d' hd).other (fun q hq => ?_)) (fun q _ => hs9 g _ (by omega) (by omega))
                exact cell_set5 (fun _ => by omega)
              · refine (NRep.keep (P := fun b => b < B) ⟨by omega, fun b o hb _ => ?_⟩ _ _ _ ((HDR6.out j d' y' hd hy).gr hG7)).mono (fun b hb => .inl hb)
                rw [hs9 b o (by omega) (by omega)]
                exact cell_set5 (fun he => by omega)
          · go_upto_region 9 with (fail)
            change Code.wp _ _ _ _ (w5.setCells W1.heap.size 0 d5.cells)
            have hq : (W1.alloc (.cells #[.int .i64 0, .string (bs []), .string (bs []), .slice none 0 0, .string (bs [])] 24)).drew.heap.size = W1.heap.size + 1 := by simp
            have hy6 : NBox (w5.setCells W1.heap.size 0 d5.cells) W1.heap.size d5 := NBox.set hy5 d5
            have hr6 : NRep (fun b => (b < B ∨ w.heap.size ≤ b) ∧ b ≠ b0 ∧ b ≠ b0 + 1 ∧ b ≠ b0 + 1 + 1) m5 (w5.setCells W1.heap.size 0 d5.cells) d5 s := (NRep.keep (P := fun b => (b < B ∨ W1.heap.size + 1 ≤ b) ∧ b < w5.heap.size) ⟨by rw [size_setCells]; exact Nat.le_refl _, fun b o hb _ => cell_set5 (fun he => by omega)⟩ _ _ _ (HR5.out.mono (fun b h => by have := HB0.out; simp at h; omega))).mono (fun b h => by have := HB0.out; omega)
            have HBN6 := Lib.hid (show NBox (w5.setCells W1.heap.size 0 d5.cells) b0 ⟨t.k, t.l, t.x, some ⟨bk, ok, none⟩, n0, c0, t.e⟩ from (heap_setCells_other _ (by omega) _ _ _).trans (HBN.out.gr hg5))
            have HBR6 := Lib.hid (show NBox (w5.setCells W1.heap.size 0 d5.cells) (b0 + 1 + 1) zeroD from (heap_setCells_other _ (by omega) _ _ _).trans (HBR.out.gr hg5))
            have hgw6 : Gr w (w5.setCells W1.heap.size 0 d5.cells) := Gr.setCells (by have := HB0.out; omega) _ _ _ (HG1.out.trans hg5)
            have HY6 := Lib.hid hy6
            have HR6 := Lib.hid hr6
            clear hy6 hr6 HR5 hy5 hq s0 s1 s2 s3 s4 z0 z1 z2 z3 z4
            generalize w5.setCells W1.heap.size 0 d5.cells = W6 at *
            obtain ⟨yb, hyb2⟩ : ∃ b, b = W1.heap.size := ⟨_, rfl⟩
            rw [← hyb2] at HY6
            rw [← hyb2]
            clear hyb2
            have HSRC6 := Lib.hid (HSRC.out.gr hgw6)
            have HDR6 := Lib.hid (fun j d y (h1 : ds[j]? = some d) (h2 : t.ks[j]? = some y) => (HDR.out j d y h1 h2).gr hgw6)
            have hlb6 := lt_of_block HBN6.out
            have hlz6 := lt_of_block HBR6.out
            have hin5 : i * 5 < n0 * 5 := by omega
            obtain ⟨i0, hi, hz0, hz1, hz2⟩ := info_parts infoNode
            obtain ⟨k0, k1, k2, k3, k4⟩ := HBN6.out.cells
            simp only at k0 k1 k2 k3 k4
            go_wp2_with (at_builtin; (refine wpList_app rfl (.tmp 45) (.tmp 47) 22 rfl W6.heap.size 24 i0 _ 5 80 Try.underlying22 hi hz0 hz1 hz2 rfl (by decide) _ 0 [] rfl (own_fresh (n := 0) (cap := 0) (size := 5) (cs := []) (heap_alloc_new W6 _) (Nat.le_refl _) rfl (Nat.le_refl _) rfl (by decide)) (some ⟨bk, ok, none⟩) n0 c0 _ rfl (by have h := HSRC6.out.gr ((Gr.refl W6).alloc (.cells #[] 24)); rw [← HN.out] at h; exact h) (by unfold maxLen; omega) (by omega) (by simp) ?_); intro v7 w7 hown7 hgrow7; (rw [Nat.zero_add, List.nil_append] at hown7); (obtain ⟨g, cap, rfl⟩ := own_some hown7 (by omega)); (have hG7 : Gr W6 w7 := Gr.grownOwn ((Gr.refl _).alloc _) hgrow7 (fun k hk => by cases hk; exact Nat.le_refl _)); (obtain ⟨hrb, hcap, hcm7, hgb⟩ := row_rbox hown7); (have HOWN7 := Lib.hid hown7); (have HY7 := Lib.hid (HY6.out.gr hG7)); (obtain ⟨y0, y1, y2, y3, y4⟩ := HY7.out.cells); (have hly7 := lt_of_block HY7.out); (obtain ⟨u0, hu0⟩ := hrb.cell (show i * 5 < cap * 5 by omega)); (obtain ⟨u1, hu1⟩ := hrb.cell (show i * 5 + 1 < cap * 5 by omega)); (obtain ⟨u2, hu2⟩ := hrb.cell (show i * 5 + 2 < cap * 5 by omega)); (obtain ⟨u3, hu3⟩ := hrb.cell (show i * 5 + 3 < cap * 5 by omega)); (obtain ⟨u4, hu4⟩ := hrb.cell (show i * 5 + 4 < cap * 5 by omega)); (have x0 := hrb.free (i * 5)); (have x1 := hrb.free (i * 5 + 1)); (have x2 := hrb.free (i * 5 + 2)); (have x3 := hrb.free (i * 5 + 3)); (have x4 := hrb.free (i * 5 + 4)); (have hlg := hrb.lt); (have HRB := Lib.hid hrb); (have hi4 : i < cap := by omega); (have hn1 : b0 ≠ g := by omega); (have hn2 : g ≠ b0 := by omega); (have hn3 : b0 + 1 + 1 ≠ g := by omega); (have hn4 : g ≠ b0 + 1 + 1 := by omega); (have HBN7 := Lib.hid (HBN6.out.gr hG7)); (have HBR7 := Lib.hid (HBR6.out.gr hG7)); (obtain ⟨k0, k1, k2, k3, k4⟩ := HBN7.out.cells); (simp only at k0 k1 k2 k3 k4); (obtain ⟨s0, s1, s2, s3, s4⟩ := HBR7.out.cells); (simp only [zeroD] at s0 s1 s2 s3 s4); (have zz0 := free_of_cells HBR7.out 0); (have zz1 := free_of_cells HBR7.out 1); (have zz2 := free_of_cells HBR7.out 2); (have zz3 := free_of_cells HBR7.out 3); (have zz4 := free_of_cells HBR7.out 4); (have zk3 := free_of_cells HBN7.out 3); (have hlb7 := lt_of_block HBN7.out); (have hlz7 := lt_of_block HBR7.out); clear hown7 hgrow7 hrb)
            refine bodyPost_ret (v := .tuple #[.agg #[.int .i64 t.k, .string (bs t.l), .string (bs t.x), .slice (some ⟨g, 0, none⟩) n0 cap, .string (bs t.e)], .int .i64 0]) ?_ rfl ?_
            · simp [results, Try.results27, go_sem, s0, s1, s2, s3, s4]
            · rw [HPN.out]
              change PutB B _ w _ (((((((w7.setCells g (i * 5) d5.cells).setCell ⟨b0, 3, none⟩ (.slice (some ⟨g, 0, none⟩) n0 cap)).setCell ⟨b0 + 1 + 1, 0, none⟩ (.int .i64 t.k)).setCell ⟨b0 + 1 + 1, 1, none⟩ (.string (bs t.l))).setCell ⟨b0 + 1 + 1, 2, none⟩ (.string (bs t.x))).setCell ⟨b0 + 1 + 1, 3, none⟩ (.slice (some ⟨g, 0, none⟩) n0 cap)).setCell ⟨b0 + 1 + 1, 4, none⟩ (.string (bs t.e)))
              have hb0 := HB0.out
              have hW6 := Below.size hgw6
              have hs9 : ∀ b o, b ≠ b0 → b ≠ b0 + 1 + 1 → (((((((w7.setCells g (i * 5) d5.cells).setCell ⟨b0, 3, none⟩ (.slice (some ⟨g, 0, none⟩) n0 cap)).setCell ⟨b0 + 1 + 1, 0, none⟩ (.int .i64 t.k)).setCell ⟨b0 + 1 + 1, 1, none⟩ (.string (bs t.l))).setCell ⟨b0 + 1 + 1, 2, none⟩ (.string (bs t.x))).setCell ⟨b0 + 1 + 1, 3, none⟩ (.slice (some ⟨g, 0, none⟩) n0 cap)).setCell ⟨b0 + 1 + 1, 4, none⟩ (.string (bs t.e))).cell? ⟨b, o, none⟩ = (w7.setCells g (i * 5) d5.cells).cell? ⟨b, o, none⟩ := fun b o h1 h2 => by
                apply World.cell?_of_block
                have g1 : ∀ (W : World) (k : Nat) (u : Value), (W.setCell ⟨b0, k, none⟩ u).heap[b]? = W.heap[b]? := fun W k u => heap_set_other h1
                have g2 : ∀ (W : World) (k : Nat) (u : Value), (W.setCell ⟨b0 + 1 + 1, k, none⟩ u).heap[b]? = W.heap[b]? := fun W k u => heap_set_other h2
                rw [g2, g2, g2, g2, g2, g1]
              have hz9 : (((((((w7.setCells g (i * 5) d5.cells).setCell ⟨b0, 3, none⟩ (.slice (some ⟨g, 0, none⟩) n0 cap)).setCell ⟨b0 + 1 + 1, 0, none⟩ (.int .i64 t.k)).setCell ⟨b0 + 1 + 1, 1, none⟩ (.string (bs t.l))).setCell ⟨b0 + 1 + 1, 2, none⟩ (.string (bs t.x))).setCell ⟨b0 + 1 + 1, 3, none⟩ (.slice (some ⟨g, 0, none⟩) n0 cap)).setCell ⟨b0 + 1 + 1, 4, none⟩ (.string (bs t.e))).heap.size = w7.heap.size := by simp [size_setCells]
              have hg9 : Gr w (((((((w7.setCells g (i * 5) d5.cells).setCell ⟨b0, 3, none⟩ (.slice (some ⟨g, 0, none⟩) n0 cap)).setCell ⟨b0 + 1 + 1, 0, none⟩ (.int .i64 t.k)).setCell ⟨b0 + 1 + 1, 1, none⟩ (.string (bs t.l))).setCell ⟨b0 + 1 + 1, 2, none⟩ (.string (bs t.x))).setCell ⟨b0 + 1 + 1, 3, none⟩ (.slice (some ⟨g, 0, none⟩) n0 cap)).setCell ⟨b0 + 1 + 1, 4, none⟩ (.string (bs t.e))) := by
                have h8 : Gr w (w7.setCells g (i * 5) d5.cells) := Gr.setCells (by omega) _ _ _ (hgw6.trans hG7)
                exact (by with_reducible (repeat (first | exact Gr.refl _ | assumption | apply Gr.alloc | apply Gr.drew | apply Gr.drewN | refine Gr.setCell ?_ (by first | (simp; done) | (simp; omega)) _ | refine Gr.trans ?_ (by assumption))))
              have h67 := Below.size hG7
              obtain ⟨pp2, pp3, pp4, pp5, pp6, pp7⟩ := PP.out
              generalize (((((((w7.setCells g (i * 5) d5.cells).setCell ⟨b0, 3, none⟩ (.slice (some ⟨g, 0, none⟩) n0 cap)).setCell ⟨b0 + 1 + 1, 0, none⟩ (.int .i64 t.k)).setCell ⟨b0 + 1 + 1, 1, none⟩ (.string (bs t.l))).setCell ⟨b0 + 1 + 1, 2, none⟩ (.string (bs t.x))).setCell ⟨b0 + 1 + 1, 3, none⟩ (.slice (some ⟨g, 0, none⟩) n0 cap)).setCell ⟨b0 + 1 + 1, 4, none⟩ (.string (bs t.e))) = W9 at *
              refine ⟨max m m5 + 1, ⟨t.k, t.l, t.x, some ⟨g, 0, none⟩, n0, cap, t.e⟩, rfl, ?_, hg9⟩
              refine put_rep (d5 := d5) HN.out hcap hcm7 pp4 pp5 pp6 pp7 hin (by omega) (.inr (by omega)) HDL.out ?_ ?_ (fun j d' hj hd => ?_) (fun j d' y' hd hy => ?_)
              · have hc8 : NCells (w7.setCells g (i * 5) d5.cells) g (i * 5) d5 := by
                  obtain ⟨q, hq⟩ : ∃ q, ds[i]? = some q := ⟨ds[i]'(by have := HDL.out; have := HN.out; omega), List.getElem?_eq_getElem _⟩
                  exact NCells.set (row_cells HOWN7.out i q hq)
                exact hc8.other (fun q _ => hs9 g _ (by omega) (by omega))
              · refine (NRep.keep (P := fun b => ((b < B ∨ w.heap.size ≤ b) ∧ b ≠ b0 ∧ b ≠ b0 + 1 ∧ b ≠ b0 + 1 + 1) ∧ b < W6.heap.size) ⟨by omega, fun b o hb _ => ?_⟩ _ _ _ (HR6.out.and_lt.gr hG7)).mono (fun b hb => by omega)
                rw [hs9 b o (by omega) (by omega)]
                exact cell_set5 (fun he => by omega)
              · refine NCells.other ((row_cells HOWN7.out j d' hd).other (fun q hq => ?_)) (fun q _ => hs9 g _ (by omega) (by omega))
                exact cell_set5 (fun _ => by omega)
              · refine (NRep.keep (P := fun b => b < B) ⟨by omega, fun b o hb _ => ?_⟩ _ _ _ ((HDR6.out j d' y' hd hy).gr hG7)).mono (fun b hb => .inl hb)
                rw [hs9 b o (by omega) (by omega)]
                exact cell_set5 (fun he => by omega)
          · go_upto_region 9 with (fail)
            change Code.wp _ _ _ _ (w5.alloc (.cells #[.int .i64 d5.k, .string (bs d5.l), .string (bs d5.x), .slice d5.A d5.n d5.c, .string (bs d5.e)] 24))
            have hy6 : NBox (w5.alloc (.cells #[.int .i64 d5.k, .string (bs d5.l), .string (bs d5.x), .slice d5.A d5.n d5.c, .string (bs d5.e)] 24)) w5.heap.size d5 := heap_alloc_new w5 _
            have hg6 : Gr w5 (w5.alloc (.cells #[.int .i64 d5.k, .string (bs d5.l), .string (bs d5.x), .slice d5.A d5.n d5.c, .string (bs d5.e)] 24)) := (Gr.refl _).alloc _
            have hr6 : NRep (fun b => (b < B ∨ w.heap.size ≤ b) ∧ b ≠ b0 ∧ b ≠ b0 + 1 ∧ b ≠ b0 + 1 + 1) m5 (w5.alloc (.cells #[.int .i64 d5.k, .string (bs d5.l), .string (bs d5.x), .slice d5.A d5.n d5.c, .string (bs d5.e)] 24)) d5 s := (HR5.out.gr hg6).mono (fun b h => by have := HB0.out; have hq : W1.drew.heap.size = W1.heap.size := rfl; omega)
            have HBN6 := Lib.hid ((HBN.out.gr hg5).gr hg6)
            have HBR6 := Lib.hid ((HBR.out.gr hg5).gr hg6)
            have hgw6 := (HG1.out.trans hg5).trans hg6
            have HY6 := Lib.hid hy6
            have HR6 := Lib.hid hr6
            have hyb : W1.heap.size ≤ w5.heap.size := hz5
            have hsz6 : w5.heap.size < (w5.alloc (.cells #[.int .i64 d5.k, .string (bs d5.l), .string (bs d5.x), .slice d5.A d5.n d5.c, .string (bs d5.e)] 24)).heap.size := by simp
            clear hy6 hr6 HR5
            generalize w5.alloc (.cells #[.int .i64 d5.k, .string (bs d5.l), .string (bs d5.x), .slice d5.A d5.n d5.c, .string (bs d5.e)] 24) = W6 at *
            obtain ⟨yb, hyb2⟩ : ∃ b, b = w5.heap.size := ⟨_, rfl⟩
            rw [← hyb2] at HY6 hyb hsz6
            rw [← hyb2]
            clear hyb2
            have HSRC6 := Lib.hid (HSRC.out.gr hgw6)
            have HDR6 := Lib.hid (fun j d y (h1 : ds[j]? = some d) (h2 : t.ks[j]? = some y) => (HDR.out j d y h1 h2).gr hgw6)
            have hlb6 := lt_of_block HBN6.out
            have hlz6 := lt_of_block HBR6.out
            have hin5 : i * 5 < n0 * 5 := by omega
            obtain ⟨i0, hi, hz0, hz1, hz2⟩ := info_parts infoNode
            obtain ⟨k0, k1, k2, k3, k4⟩ := HBN6.out.cells
            simp only at k0 k1 k2 k3 k4
            go_wp2_with (at_builtin; (refine wpList_app rfl (.tmp 45) (.tmp 47) 22 rfl W6.heap.size 24 i0 _ 5 80 Try.underlying22 hi hz0 hz1 hz2 rfl (by decide) _ 0 [] rfl (own_fresh (n := 0) (cap := 0) (size := 5) (cs := []) (heap_alloc_new W6 _) (Nat.le_refl _) rfl (Nat.le_refl _) rfl (by decide)) (some ⟨bk, ok, none⟩) n0 c0 _ rfl (by have h := HSRC6.out.gr ((Gr.refl W6).alloc (.cells #[] 24)); rw [← HN.out] at h; exact h) (by unfold maxLen; omega) (by omega) (by simp) ?_); intro v7 w7 hown7 hgrow7; (rw [Nat.zero_add, List.nil_append] at hown7); (obtain ⟨g, cap, rfl⟩ := own_some hown7 (by omega)); (have hG7 : Gr W6 w7 := Gr.grownOwn ((Gr.refl _).alloc _) hgrow7 (fun k hk => by cases hk; exact Nat.le_refl _)); (obtain ⟨hrb, hcap, hcm7, hgb⟩ := row_rbox hown7); (have HOWN7 := Lib.hid hown7); (have HY7 := Lib.hid (HY6.out.gr hG7)); (obtain ⟨y0, y1, y2, y3, y4⟩ := HY7.out.cells); (have hly7 := lt_of_block HY7.out); (obtain ⟨u0, hu0⟩ := hrb.cell (show i * 5 < cap * 5 by omega)); (obtain ⟨u1, hu1⟩ := hrb.cell (show i * 5 + 1 < cap * 5 by omega)); (obtain ⟨u2, hu2⟩ := hrb.cell (show i * 5 + 2 < cap * 5 by omega)); (obtain ⟨u3, hu3⟩ := hrb.cell (show i * 5 + 3 < cap * 5 by omega)); (obtain ⟨u4, hu4⟩ := hrb.cell (show i * 5 + 4 < cap * 5 by omega)); (have x0 := hrb.free (i * 5)); (have x1 := hrb.free (i * 5 + 1)); (have x2 := hrb.free (i * 5 + 2)); (have x3 := hrb.free (i * 5 + 3)); (have x4 := hrb.free (i * 5 + 4)); (have hlg := hrb.lt); (have HRB := Lib.hid hrb); (have hi4 : i < cap := by omega); (have hn1 : b0 ≠ g := by omega); (have hn2 : g ≠ b0 := by omega); (have hn3 : b0 + 1 + 1 ≠ g := by omega); (have hn4 : g ≠ b0 + 1 + 1 := by omega); (have HBN7 := Lib.hid (HBN6.out.gr hG7)); (have HBR7 := Lib.hid (HBR6.out.gr hG7)); (obtain ⟨k0, k1, k2, k3, k4⟩ := HBN7.out.cells); (simp only at k0 k1 k2 k3 k4); (obtain ⟨s0, s1, s2, s3, s4⟩ := HBR7.out.cells); (simp only [zeroD] at s0 s1 s2 s3 s4); (have zz0 := free_of_cells HBR7.out 0); (have zz1 := free_of_cells HBR7.out 1); (have zz2 := free_of_cells HBR7.out 2); (have zz3 := free_of_cells HBR7.out 3); (have zz4 := free_of_cells HBR7.out 4); (have zk3 := free_of_cells HBN7.out 3); (have hlb7 := lt_of_block HBN7.out); (have hlz7 := lt_of_block HBR7.out); clear hown7 hgrow7 hrb)
            refine bodyPost_ret (v := .tuple #[.agg #[.int .i64 t.k, .string (bs t.l), .string (bs t.x), .slice (some ⟨g, 0, none⟩) n0 cap, .string (bs t.e)], .int .i64 0]) ?_ rfl ?_
            · simp [results, Try.results27, go_sem, s0, s1, s2, s3, s4]
            · rw [HPN.out]
              change PutB B _ w _ (((((((w7.setCells g (i * 5) d5.cells).setCell ⟨b0, 3, none⟩ (.slice (some ⟨g, 0, none⟩) n0 cap)).setCell ⟨b0 + 1 + 1, 0, none⟩ (.int .i64 t.k)).setCell ⟨b0 + 1 + 1, 1, none⟩ (.string (bs t.l))).setCell ⟨b0 + 1 + 1, 2, none⟩ (.string (bs t.x))).setCell ⟨b0 + 1 + 1, 3, none⟩ (.slice (some ⟨g, 0, none⟩) n0 cap)).setCell ⟨b0 + 1 + 1, 4, none⟩ (.string (bs t.e)))
              have hb0 := HB0.out
              have hW6 := Below.size hgw6
              have hs9 : ∀ b o, b ≠ b0 → b ≠ b0 + 1 + 1 → (((((((w7.setCells g (i * 5) d5.cells).setCell ⟨b0, 3, none⟩ (.slice (some ⟨g, 0, none⟩) n0 cap)).setCell ⟨b0 + 1 + 1, 0, none⟩ (.int .i64 t.k)).setCell ⟨b0 + 1 + 1, 1, none⟩ (.string (bs t.l))).setCell ⟨b0 + 1 + 1, 2, none⟩ (.string (bs t.x))).setCell ⟨b0 + 1 + 1, 3, none⟩ (.slice (some ⟨g, 0, none⟩) n0 cap)).setCell ⟨b0 + 1 + 1, 4, none⟩ (.string (bs t.e))).cell? ⟨b, o, none⟩ = (w7.setCells g (i * 5) d5.cells).cell? ⟨b, o, none⟩ := fun b o h1 h2 => by
                apply World.cell?_of_block
                have g1 : ∀ (W : World) (k : Nat) (u : Value), (W.setCell ⟨b0, k, none⟩ u).heap[b]? = W.heap[b]? := fun W k u => heap_set_other h1
                have g2 : ∀ (W : World) (k : Nat) (u : Value), (W.setCell ⟨b0 + 1 + 1, k, none⟩ u).heap[b]? = W.heap[b]? := fun W k u => heap_set_other h2
                rw [g2, g2, g2, g2, g2, g1]
              have hz9 : (((((((w7.setCells g (i * 5) d5.cells).setCell ⟨b0, 3, none⟩ (.slice (some ⟨g, 0, none⟩) n0 cap)).setCell ⟨b0 + 1 + 1, 0, none⟩ (.int .i64 t.k)).setCell ⟨b0 + 1 + 1, 1, none⟩ (.string (bs t.l))).setCell ⟨b0 + 1 + 1, 2, none⟩ (.string (bs t.x))).setCell ⟨b0 + 1 + 1, 3, none⟩ (.slice (some ⟨g, 0, none⟩) n0 cap)).setCell ⟨b0 + 1 + 1, 4, none⟩ (.string (bs t.e))).heap.size = w7.heap.size := by simp [size_setCells]
              have hg9 : Gr w (((((((w7.setCells g (i * 5) d5.cells).setCell ⟨b0, 3, none⟩ (.slice (some ⟨g, 0, none⟩) n0 cap)).setCell ⟨b0 + 1 + 1, 0, none⟩ (.int .i64 t.k)).setCell ⟨b0 + 1 + 1, 1, none⟩ (.string (bs t.l))).setCell ⟨b0 + 1 + 1, 2, none⟩ (.string (bs t.x))).setCell ⟨b0 + 1 + 1, 3, none⟩ (.slice (some ⟨g, 0, none⟩) n0 cap)).setCell ⟨b0 + 1 + 1, 4, none⟩ (.string (bs t.e))) := by
                have h8 : Gr w (w7.setCells g (i * 5) d5.cells) := Gr.setCells (by omega) _ _ _ (hgw6.trans hG7)
                exact (by with_reducible (repeat (first | exact Gr.refl _ | assumption | apply Gr.alloc | apply Gr.drew | apply Gr.drewN | refine Gr.setCell ?_ (by first | (simp; done) | (simp; omega)) _ | refine Gr.trans ?_ (by assumption))))
              have h67 := Below.size hG7
              obtain ⟨pp2, pp3, pp4, pp5, pp6, pp7⟩ := PP.out
              generalize (((((((w7.setCells g (i * 5) d5.cells).setCell ⟨b0, 3, none⟩ (.slice (some ⟨g, 0, none⟩) n0 cap)).setCell ⟨b0 + 1 + 1, 0, none⟩ (.int .i64 t.k)).setCell ⟨b0 + 1 + 1, 1, none⟩ (.string (bs t.l))).setCell ⟨b0 + 1 + 1, 2, none⟩ (.string (bs t.x))).setCell ⟨b0 + 1 + 1, 3, none⟩ (.slice (some ⟨g, 0, none⟩) n0 cap)).setCell ⟨b0 + 1 + 1, 4, none⟩ (.string (bs t.e))) = W9 at *
              refine ⟨max m m5 + 1, ⟨t.k, t.l, t.x, some ⟨g, 0, none⟩, n0, cap, t.e⟩, rfl, ?_, hg9⟩
              refine put_rep (d5 := d5) HN.out hcap hcm7 pp4 pp5 pp6 pp7 hin (by omega) (.inr (by omega)) HDL.out ?_ ?_ (fun j d' hj hd => ?_) (fun j d' y' hd hy => ?_)
              · have hc8 : NCells (w7.setCells g (i * 5) d5.cells) g (i * 5) d5 := by
                  obtain ⟨q, hq⟩ : ∃ q, ds[i]? = some q := ⟨ds[i]'(by have := HDL.out; have := HN.out; omega), List.getElem?_eq_getElem _⟩
                  exact NCells.set (row_cells HOWN7.out i q hq)
                exact hc8.other (fun q _ => hs9 g _ (by omega) (by omega))
              · refine (NRep.keep (P := fun b => ((b < B ∨ w.heap.size ≤ b) ∧ b ≠ b0 ∧ b ≠ b0 + 1 ∧ b ≠ b0 + 1 + 1) ∧ b < W6.heap.size) ⟨by omega, fun b o hb _ => ?_⟩ _ _ _ (HR6.out.and_lt.gr hG7)).mono (fun b hb => by omega)
                rw [hs9 b o (by omega) (by omega)]
                exact cell_set5 (fun he => by omega)
              · refine NCells.other ((row_cells HOWN7.out j d' hd).other (fun q hq => ?_)) (fun q _ => hs9 g _ (by omega) (by omega))
                exact cell_set5 (fun _ => by omega)
              · refine (NRep.keep (P := fun b => b < B) ⟨by omega, fun b o hb _ => ?_⟩ _ _ _ ((HDR6.out j d' y' hd hy).gr hG7)).mono (fun b hb => .inl hb)
                rw [hs9 b o (by omega) (by omega)]
                exact cell_set5 (fun he => by omega)
          · go_upto_region 9 with (fail)
            change Code.wp _ _ _ _ (w5.setCells W1.heap.size 0 d5.cells)
            have hq : (W1.alloc (.cells #[.int .i64 0, .string (bs []), .string (bs []), .slice none 0 0, .string (bs [])] 24)).drew.heap.size = W1.heap.size + 1 := by simp
            have hy6 : NBox (w5.setCells W1.heap.size 0 d5.cells) W1.heap.size d5 := NBox.set hy5 d5
            have hr6 : NRep (fun b => (b < B ∨ w.heap.size ≤ b) ∧ b ≠ b0 ∧ b ≠ b0 + 1 ∧ b ≠ b0 + 1 + 1) m5 (w5.setCells W1.heap.size 0 d5.cells) d5 s := (NRep.keep (P := fun b => (b < B ∨ W1.heap.size + 1 ≤ b) ∧ b < w5.heap.size) ⟨by rw [size_setCells]; exact Nat.le_refl _, fun b o hb _ => cell_set5 (fun he => by omega)⟩ _ _ _ (HR5.out.mono (fun b h => by have := HB0.out; simp at h; omega))).mono (fun b h => by have := HB0.out; omega)
            have HBN6 := Lib.hid (show NBox (w5.setCells W1.heap.size 0 d5.cells) b0 ⟨t.k, t.l, t.x, some ⟨bk, ok, none⟩, n0, c0, t.e⟩ from (heap_setCells_other _ (by omega) _ _ _).trans (HBN.out.gr hg5))
            have HBR6 := Lib.hid (show NBox (w5.setCells W1.heap.size 0 d5.cells) (b0 + 1 + 1) zeroD from (heap_setCells_other _ (by omega) _ _ _).trans (HBR.out.gr hg5))
            have hgw6 : Gr w (w5.setCells W1.heap.size 0 d5.cells) := Gr.setCells (by have := HB0.out; omega) _ _ _ (HG1.out.trans hg5)
            have HY6 := Lib.hid hy6
            have HR6 := Lib.hid hr6
            clear hy6 hr6 HR5 hy5 hq s0 s1 s2 s3 s4 z0 z1 z2 z3 z4
            generalize w5.setCells W1.heap.size 0 d5.cells = W6 at *
            obtain ⟨yb, hyb2⟩ : ∃ b, b = W1.heap.size := ⟨_, rfl⟩
            rw [← hyb2] at HY6
            rw [← hyb2]
            clear hyb2
            have HSRC6 := Lib.hid (HSRC.out.gr hgw6)
            have HDR6 := Lib.hid (fun j d y (h1 : ds[j]? = some d) (h2 : t.ks[j]? = some y) => (HDR.out j d y h1 h2).gr hgw6)
            have hlb6 := lt_of_block HBN6.out
            have hlz6 := lt_of_block HBR6.out
            have hin5 : i * 5 < n0 * 5 := by omega
            obtain ⟨i0, hi, hz0, hz1, hz2⟩ := info_parts infoNode
            obtain ⟨k0, k1, k2, k3, k4⟩ := HBN6.out.cells
            simp only at k0 k1 k2 k3 k4
            go_wp2_with (at_builtin; (refine wpList_app rfl (.tmp 45) (.tmp 47) 22 rfl W6.heap.size 24 i0 _ 5 80 Try.underlying22 hi hz0 hz1 hz2 rfl (by decide) _ 0 [] rfl (own_fresh (n := 0) (cap := 0) (size := 5) (cs := []) (heap_alloc_new W6 _) (Nat.le_refl _) rfl (Nat.le_refl _) rfl (by decide)) (some ⟨bk, ok, none⟩) n0 c0 _ rfl (by have h := HSRC6.out.gr ((Gr.refl W6).alloc (.cells #[] 24)); rw [← HN.out] at h; exact h) (by unfold maxLen; omega) (by omega) (by simp) ?_); intro v7 w7 hown7 hgrow7; (rw [Nat.zero_add, List.nil_append] at hown7); (obtain ⟨g, cap, rfl⟩ := own_some hown7 (by omega)); (have hG7 : Gr W6 w7 := Gr.grownOwn ((Gr.refl _).alloc _) hgrow7 (fun k hk => by cases hk; exact Nat.le_refl _)); (obtain ⟨hrb, hcap, hcm7, hgb⟩ := row_rbox hown7); (have HOWN7 := Lib.hid hown7); (have HY7 := Lib.hid (HY6.out.gr hG7)); (obtain ⟨y0, y1, y2, y3, y4⟩ := HY7.out.cells); (have hly7 := lt_of_block HY7.out); (obtain ⟨u0, hu0⟩ := hrb.cell (show i * 5 < cap * 5 by omega)); (obtain ⟨u1, hu1⟩ := hrb.cell (show i * 5 + 1 < cap * 5 by omega)); (obtain ⟨u2, hu2⟩ := hrb.cell (show i * 5 + 2 < cap * 5 by omega)); (obtain ⟨u3, hu3⟩ := hrb.cell (show i * 5 + 3 < cap * 5 by omega)); (obtain ⟨u4, hu4⟩ := hrb.cell (show i * 5 + 4 < cap * 5 by omega)); (have x0 := hrb.free (i * 5)); (have x1 := hrb.free (i * 5 + 1)); (have x2 := hrb.free (i * 5 + 2)); (have x3 := hrb.free (i * 5 + 3)); (have x4 := hrb.free (i * 5 + 4)); (have hlg := hrb.lt); (have HRB := Lib.hid hrb); (have hi4 : i < cap := by omega); (have hn1 : b0 ≠ g := by omega); (have hn2 : g ≠ b0 := by omega); (have hn3 : b0 + 1 + 1 ≠ g := by omega); (have hn4 : g ≠ b0 + 1 + 1 := by omega); (have HBN7 := Lib.hid (HBN6.out.gr hG7)); (have HBR7 := Lib.hid (HBR6.out.gr hG7)); (obtain ⟨k0, k1, k2, k3, k4⟩ := HBN7.out.cells); (simp only at k0 k1 k2 k3 k4); (obtain ⟨s0, s1, s2, s3, s4⟩ := HBR7.out.cells); (simp only [zeroD] at s0 s1 s2 s3 s4); (have zz0 := free_of_cells HBR7.out 0); (have zz1 := free_of_cells HBR7.out 1); (have zz2 := free_of_cells HBR7.out 2); (have zz3 := free_of_cells HBR7.out 3); (have zz4 := free_of_cells HBR7.out 4); (have zk3 := free_of_cells HBN7.out 3); (have hlb7 := lt_of_block HBN7.out); (have hlz7 := lt_of_block HBR7.out); clear hown7 hgrow7 hrb)
            refine bodyPost_ret (v := .tuple #[.agg #[.int .i64 t.k, .string (bs t.l), .string (bs t.x), .slice (some ⟨g, 0, none⟩) n0 cap, .string (bs t.e)], .int .i64 0]) ?_ rfl ?_
            · simp [results, Try.results27, go_sem, s0, s1, s2, s3, s4]
            · rw [HPN.out]
              change PutB B _ w _ (((((((w7.setCells g (i * 5) d5.cells).setCell ⟨b0, 3, none⟩ (.slice (some ⟨g, 0, none⟩) n0 cap)).setCell ⟨b0 + 1 + 1, 0, none⟩ (.int .i64 t.k)).setCell ⟨b0 + 1 + 1, 1, none⟩ (.string (bs t.l))).setCell ⟨b0 + 1 + 1, 2, none⟩ (.string (bs t.x))).setCell ⟨b0 + 1 + 1, 3, none⟩ (.slice (some ⟨g, 0, none⟩) n0 cap)).setCell ⟨b0 + 1 + 1, 4, none⟩ (.string (bs t.e)))
              have hb0 := HB0.out
              have hW6 := Below.size hgw6
              have hs9 : ∀ b o, b ≠ b0 → b ≠ b0 + 1 + 1 → (((((((w7.setCells g (i * 5) d5.cells).setCell ⟨b0, 3, none⟩ (.slice (some ⟨g, 0, none⟩) n0 cap)).setCell ⟨b0 + 1 + 1, 0, none⟩ (.int .i64 t.k)).setCell ⟨b0 + 1 + 1, 1, none⟩ (.string (bs t.l))).setCell ⟨b0 + 1 + 1, 2, none⟩ (.string (bs t.x))).setCell ⟨b0 + 1 + 1, 3, none⟩ (.slice (some ⟨g, 0, none⟩) n0 cap)).setCell ⟨b0 + 1 + 1, 4, none⟩ (.string (bs t.e))).cell? ⟨b, o, none⟩ = (w7.setCells g (i * 5) d5.cells).cell? ⟨b, o, none⟩ := fun b o h1 h2 => by
                apply World.cell?_of_block
                have g1 : ∀ (W : World) (k : Nat) (u : Value), (W.setCell ⟨b0, k, none⟩ u).heap[b]? = W.heap[b]? := fun W k u => heap_set_other h1
                have g2 : ∀ (W : World) (k : Nat) (u : Value), (W.setCell ⟨b0 + 1 + 1, k, none⟩ u).heap[b]? = W.heap[b]? := fun W k u => heap_set_other h2
                rw [g2, g2, g2, g2, g2, g1]
              have hz9 : (((((((w7.setCells g (i * 5) d5.cells).setCell ⟨b0, 3, none⟩ (.slice (some ⟨g, 0, none⟩) n0 cap)).setCell ⟨b0 + 1 + 1, 0, none⟩ (.int .i64 t.k)).setCell ⟨b0 + 1 + 1, 1, none⟩ (.string (bs t.l))).setCell ⟨b0 + 1 + 1, 2, none⟩ (.string (bs t.x))).setCell ⟨b0 + 1 + 1, 3, none⟩ (.slice (some ⟨g, 0, none⟩) n0 cap)).setCell ⟨b0 + 1 + 1, 4, none⟩ (.string (bs t.e))).heap.size = w7.heap.size := by simp [size_setCells]
              have hg9 : Gr w (((((((w7.setCells g (i * 5) d5.cells).setCell ⟨b0, 3, none⟩ (.slice (some ⟨g, 0, none⟩) n0 cap)).setCell ⟨b0 + 1 + 1, 0, none⟩ (.int .i64 t.k)).setCell ⟨b0 + 1 + 1, 1, none⟩ (.string (bs t.l))).setCell ⟨b0 + 1 + 1, 2, none⟩ (.string (bs t.x))).setCell ⟨b0 + 1 + 1, 3, none⟩ (.slice (some ⟨g, 0, none⟩) n0 cap)).setCell ⟨b0 + 1 + 1, 4, none⟩ (.string (bs t.e))) := by
                have h8 : Gr w (w7.setCells g (i * 5) d5.cells) := Gr.setCells (by omega) _ _ _ (hgw6.trans hG7)
                exact (by with_reducible (repeat (first | exact Gr.refl _ | assumption | apply Gr.alloc | apply Gr.drew | apply Gr.drewN | refine Gr.setCell ?_ (by first | (simp; done) | (simp; omega)) _ | refine Gr.trans ?_ (by assumption))))
              have h67 := Below.size hG7
              obtain ⟨pp2, pp3, pp4, pp5, pp6, pp7⟩ := PP.out
              generalize (((((((w7.setCells g (i * 5) d5.cells).setCell ⟨b0, 3, none⟩ (.slice (some ⟨g, 0, none⟩) n0 cap)).setCell ⟨b0 + 1 + 1, 0, none⟩ (.int .i64 t.k)).setCell ⟨b0 + 1 + 1, 1, none⟩ (.string (bs t.l))).setCell ⟨b0 + 1 + 1, 2, none⟩ (.string (bs t.x))).setCell ⟨b0 + 1 + 1, 3, none⟩ (.slice (some ⟨g, 0, none⟩) n0 cap)).setCell ⟨b0 + 1 + 1, 4, none⟩ (.string (bs t.e))) = W9 at *
              refine ⟨max m m5 + 1, ⟨t.k, t.l, t.x, some ⟨g, 0, none⟩, n0, cap, t.e⟩, rfl, ?_, hg9⟩
              refine put_rep (d5 := d5) HN.out hcap hcm7 pp4 pp5 pp6 pp7 hin (by omega) (.inr (by omega)) HDL.out ?_ ?_ (fun j d' hj hd => ?_) (fun j d' y' hd hy => ?_)
              · have hc8 : NCells (w7.setCells g (i * 5) d5.cells) g (i * 5) d5 := by
                  obtain ⟨q, hq⟩ : ∃ q, ds[i]? = some q := ⟨ds[i]'(by have := HDL.out; have := HN.out; omega), List.getElem?_eq_getElem _⟩
                  exact NCells.set (row_cells HOWN7.out i q hq)
                exact hc8.other (fun q _ => hs9 g _ (by omega) (by omega))
              · refine (NRep.keep (P := fun b => ((b < B ∨ w.heap.size ≤ b) ∧ b ≠ b0 ∧ b ≠ b0 + 1 ∧ b ≠ b0 + 1 + 1) ∧ b < W6.heap.size) ⟨by omega, fun b o hb _ => ?_⟩ _ _ _ (HR6.out.and_lt.gr hG7)).mono (fun b hb => by omega)
                rw [hs9 b o (by omega) (by omega)]
                exact cell_set5 (fun he => by omega)
              · refine NCells.other ((row_cells HOWN7.out j d' hd).other (fun q hq => ?_)) (fun q _ => hs9 g _ (by omega) (by omega))
                exact cell_set5 (fun _ => by omega)
              · refine (NRep.keep (P := fun b => b < B) ⟨by omega, fun b o hb _ => ?_⟩ _ _ _ ((HDR6.out j d' y' hd hy).gr hG7)).mono (fun b hb => .inl hb)
                rw [hs9 b o (by omega) (by omega)]
                exact cell_set5 (fun he => by omega)
end Go.Proofs.Ytklncffhkdbkhaa
