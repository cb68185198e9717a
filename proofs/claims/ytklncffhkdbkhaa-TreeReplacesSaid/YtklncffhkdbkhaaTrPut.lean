/- Put of package tree, walked. -/
import Derived.Test.YtklncffhkdbkhaaTrHole
import Derived.Deep.Cut
namespace Go.Proofs.Ytklncffhkdbkhaa
open Go.ChangeShapes Go.WideShapes Go.ChangeAt Go.RowKit

def putO (t : NT) (zs : List Int) (x : NT) : Option NT := (getF t zs).map fun _ => putF t zs x
def errOf (q : Option NT) : Int := if q.isSome then 0 else 7
def PutPost (q : Option NT) (w : World) (e : Ending) (w' : World) : Prop :=
  ∃ (m : Nat) (d : ND), e = .returned (.tuple #[.agg #[.int .i64 d.k, .string (bs d.l), .string (bs d.x), .slice d.A d.n d.c, .string (bs d.e)], .int .i64 (errOf q)]) ∧ NRep anyB m w' d (q.getD zeroT) ∧ Gr w w'
def AtRel (W : World) (bo r n : Nat) (t : NT) (zs : List Int) (av iv : Value) : Prop :=
  ∃ (j pb po lo hi m : Nat) (d : ND) (s y : NT) (root : NT → NT), j ≤ n ∧ iv = .int .i64 j ∧ av = .pointer (some ⟨pb, po, none⟩) ∧ NCells W pb po d ∧ (pb < lo ∨ hi ≤ pb) ∧ pb < W.heap.size ∧ r < pb ∧ r < lo ∧ SRep m W lo hi d s ∧ getF s (zs.drop j) = some y ∧
    HoleP (fun b => b ≠ r) W bo root pb po lo hi ∧ (∀ s', root (putF s (zs.drop j) s') = putF t zs s') ∧ (∀ o, W.frozen? ⟨pb, o, none⟩ = false)
theorem cell_gr {W w : World} (h : Gr W w) {b o : Nat} (hb : b < W.heap.size) : w.cell? ⟨b, o, none⟩ = W.cell? ⟨b, o, none⟩ := h.cells.1 b o hb
set_option maxRecDepth 100000 in
set_option maxHeartbeats 4000000 in
theorem putP_any (m0 : Nat) (v : ND) (t : NT) (mx : Nat) (vx : ND) (x : NT) (A : Option Addr) (n c : Nat) (zs : List Int) (w : World) (hr : NRep anyB m0 w v t) (hx : NRep anyB mx w vx x) (hz : IntsAt .i64 w A n zs) (hn : n ≤ 9223372036854775807) (hct : countF t ≤ 1000000) (hcx : countF x ≤ 1000000) :
    Calls Try.prog 26 #[.agg #[.int .i64 v.k, .string (bs v.l), .string (bs v.x), .slice v.A v.n v.c, .string (bs v.e)], .agg #[.int .i64 vx.k, .string (bs vx.l), .string (bs vx.x), .slice vx.A vx.n vx.c, .string (bs vx.e)], .slice A n c] w (PutPost (putO t zs x) w) := by
  have hbn : NBox (((w.alloc (.cells #[.int .i64 v.k, .string (bs v.l), .string (bs v.x), .slice v.A v.n v.c, .string (bs v.e)] 24)).alloc (.cells #[.int .i64 vx.k, .string (bs vx.l), .string (bs vx.x), .slice vx.A vx.n vx.c, .string (bs vx.e)] 24)).alloc (.cells #[.int .i64 0, .string (bs []), .string (bs []), .slice none 0 0, .string (bs [])] 24)) w.heap.size v := (heapOld (by simp; omega)).trans ((heapOld (by simp)).trans (heap_alloc_new w _))
  have hbx : NBox (((w.alloc (.cells #[.int .i64 v.k, .string (bs v.l), .string (bs v.x), .slice v.A v.n v.c, .string (bs v.e)] 24)).alloc (.cells #[.int .i64 vx.k, .string (bs vx.l), .string (bs vx.x), .slice vx.A vx.n vx.c, .string (bs vx.e)] 24)).alloc (.cells #[.int .i64 0, .string (bs []), .string (bs []), .slice none 0 0, .string (bs [])] 24)) (w.heap.size + 1) vx := by
    have h := heap_alloc_new (w.alloc (.cells #[.int .i64 v.k, .string (bs v.l), .string (bs v.x), .slice v.A v.n v.c, .string (bs v.e)] 24)) (.cells #[.int .i64 vx.k, .string (bs vx.l), .string (bs vx.x), .slice vx.A vx.n vx.c, .string (bs vx.e)] 24)
    have hz : (w.alloc (.cells #[.int .i64 v.k, .string (bs v.l), .string (bs v.x), .slice v.A v.n v.c, .string (bs v.e)] 24)).heap.size = w.heap.size + 1 := by simp
    rw [hz] at h
    exact (heapOld (by simp)).trans h
  have hbr : NBox (((w.alloc (.cells #[.int .i64 v.k, .string (bs v.l), .string (bs v.x), .slice v.A v.n v.c, .string (bs v.e)] 24)).alloc (.cells #[.int .i64 vx.k, .string (bs vx.l), .string (bs vx.x), .slice vx.A vx.n vx.c, .string (bs vx.e)] 24)).alloc (.cells #[.int .i64 0, .string (bs []), .string (bs []), .slice none 0 0, .string (bs [])] 24)) (w.heap.size + 1 + 1) zeroD := by
    have h := heap_alloc_new ((w.alloc (.cells #[.int .i64 v.k, .string (bs v.l), .string (bs v.x), .slice v.A v.n v.c, .string (bs v.e)] 24)).alloc (.cells #[.int .i64 vx.k, .string (bs vx.l), .string (bs vx.x), .slice vx.A vx.n vx.c, .string (bs vx.e)] 24)) (.cells #[.int .i64 0, .string (bs []), .string (bs []), .slice none 0 0, .string (bs [])] 24)
    have hz : ((w.alloc (.cells #[.int .i64 v.k, .string (bs v.l), .string (bs v.x), .slice v.A v.n v.c, .string (bs v.e)] 24)).alloc (.cells #[.int .i64 vx.k, .string (bs vx.l), .string (bs vx.x), .slice vx.A vx.n vx.c, .string (bs vx.e)] 24)).heap.size = w.heap.size + 1 + 1 := by simp
    rwa [hz] at h
  have hG1 : Gr w (((w.alloc (.cells #[.int .i64 v.k, .string (bs v.l), .string (bs v.x), .slice v.A v.n v.c, .string (bs v.e)] 24)).alloc (.cells #[.int .i64 vx.k, .string (bs vx.l), .string (bs vx.x), .slice vx.A vx.n vx.c, .string (bs vx.e)] 24)).alloc (.cells #[.int .i64 0, .string (bs []), .string (bs []), .slice none 0 0, .string (bs [])] 24)) := (((Gr.refl w).alloc _).alloc _).alloc _
  have HBN := Lib.hid hbn
  have HBX := Lib.hid hbx
  have HBR := Lib.hid hbr
  have HR := Lib.hid hr
  have HX := Lib.hid hx
  have HZ := Lib.hid hz
  have HZL := Lib.hid hz.1
  have HC : Hid (∀ w', Gr w w' → Calls Try.prog 40 #[.agg #[.int .i64 v.k, .string (bs v.l), .string (bs v.x), .slice v.A v.n v.c, .string (bs v.e)], .slice A n c] w' (GetPost (getF t zs) w')) := Lib.hid (fun w' hg => findGP_any m0 v t A n c zs w' (hr.gr hg) (hz.keep hg) hn)
  clear hr hx hz hbn hbx hbr
  cases hq : getF t zs with
  | none =>
    have hp : putO t zs x = none := by unfold putO; rw [hq]; rfl
    rw [hq] at HC
    rw [hp]
    clear hq hp
    go_enter Try.func26, Try.ntmps26
    go_wp2_with fail
    refine (HC.out _ hG1).mono ?_
    rintro e w1 ⟨m1, d1, rfl, hr1, hb1⟩
    have hg1 := hG1.trans hb1
    have hbr1 := HBR.out.gr hb1
    obtain ⟨s0, s1, s2, s3, s4⟩ := hbr1.cells
    simp only [zeroD] at s0 s1 s2 s3 s4
    have y0 := free_of_cells hbr1 0
    have y1 := free_of_cells hbr1 1
    have y2 := free_of_cells hbr1 2
    have y3 := free_of_cells hbr1 3
    have y4 := free_of_cells hbr1 4
    have hls := lt_of_block hbr1
    clear hbr1 hb1 hr1
    go_wp2_with fail
    refine bodyPost_ret (v := .tuple #[.agg #[.int .i64 0, .string (bs []), .string (bs []), .slice none 0 0, .string (bs [])], .int .i64 7]) ?_ rfl ?_
    · simp [results, Try.results26, go_sem, s0, s1, s2, s3, s4, hls]
      try rfl
    · exact ⟨1, zeroD, rfl, zero_rep _ _, (by with_reducible (repeat (first | exact Gr.refl _ | assumption | apply Gr.alloc | apply Gr.drew | apply Gr.drewN | refine Gr.setCell ?_ (by first | (simp; done) | (simp; omega)) _ | refine Gr.trans ?_ (by assumption))))⟩
  | some y0 =>
    have hp : putO t zs x = some (putF t zs x) := by unfold putO; rw [hq]; rfl
    have HQ := Lib.hid hq
    rw [hq] at HC
    rw [hp]
    clear hq hp
    go_enter Try.func26, Try.ntmps26
    go_wp2_with fail
    refine (HC.out _ hG1).mono ?_
    rintro e w1 ⟨m1, d1, rfl, hr1, hb1⟩
    have hg1 := hG1.trans hb1
    have HBN1 := Lib.hid (HBN.out.gr hb1)
    have HBX1 := Lib.hid (HBX.out.gr hb1)
    have HBR1 := Lib.hid (HBR.out.gr hb1)
    obtain ⟨k0, k1, k2, k3, k4⟩ := HBN1.out.cells
    have hlb := lt_of_block HBN1.out
    clear hr1 hb1 HC HBN HBX HBR
    go_wp2_with fail
    refine (cloneP_any m0 v t _ (HR.out.gr (hg1.trans ((Gr.refl _).alloc _))) hct).mono ?_
    rintro e w2 ⟨d2, rfl, hs2, hb2⟩
    have hh2 : Gr w1 w2 := ((Gr.refl w1).alloc (.cells #[.int .i64 d1.k, .string (bs d1.l), .string (bs d1.x), .slice d1.A d1.n d1.c, .string (bs d1.e)] 24)).trans hb2
    have hg2 := hg1.trans hh2
    have HBX2 := Lib.hid (HBX1.out.gr hh2)
    have HBR2 := Lib.hid (HBR1.out.gr hh2)
    have HS2 := Lib.hid hs2
    have hlo : w.heap.size + 1 + 1 < (w1.alloc (.cells #[.int .i64 d1.k, .string (bs d1.l), .string (bs d1.x), .slice d1.A d1.n d1.c, .string (bs d1.e)] 24)).heap.size := Gr.lt ((Gr.refl w1).alloc _) (lt_of_block HBR1.out)
    have HLO := Lib.hid hlo
    clear hs2 hb2 hh2 hg1 HBN1 HBX1 HBR1 k0 k1 k2 k3 k4 hlb hlo
    go_wp2_with fail
    have hcx0 : NBox (w2.alloc (.cells #[.int .i64 d2.k, .string (bs d2.l), .string (bs d2.x), .slice d2.A d2.n d2.c, .string (bs d2.e)] 24)) w2.heap.size d2 := heap_alloc_new w2 _
    have hfz : ∀ o, (w2.alloc (.cells #[.int .i64 d2.k, .string (bs d2.l), .string (bs d2.x), .slice d2.A d2.n d2.c, .string (bs d2.e)] 24)).frozen? ⟨w2.heap.size, o, none⟩ = false := fun o => free_of_cells hcx0 o
    have HFZ := Lib.hid hfz
    have hG4 : Gr w2 (w2.alloc (.cells #[.int .i64 d2.k, .string (bs d2.l), .string (bs d2.x), .slice d2.A d2.n d2.c, .string (bs d2.e)] 24)) := (Gr.refl _).alloc _
    have hbo : w2.heap.size < (w2.alloc (.cells #[.int .i64 d2.k, .string (bs d2.l), .string (bs d2.x), .slice d2.A d2.n d2.c, .string (bs d2.e)] 24)).heap.size := by simp
    have hcx1 : NCells (w2.alloc (.cells #[.int .i64 d2.k, .string (bs d2.l), .string (bs d2.x), .slice d2.A d2.n d2.c, .string (bs d2.e)] 24)) w2.heap.size 0 d2 := hcx0.cells
    have HCX := Lib.hid hcx1
    have HS4 := Lib.hid (HS2.out.gr hG4)
    have hrb : w.heap.size + 1 + 1 < w2.heap.size := lt_of_block HBR2.out
    have HST : Hid (AtRel (w2.alloc (.cells #[.int .i64 d2.k, .string (bs d2.l), .string (bs d2.x), .slice d2.A d2.n d2.c, .string (bs d2.e)] 24)) w2.heap.size (w.heap.size + 1 + 1) n t zs (.pointer (some ⟨w2.heap.size, 0, none⟩)) (.int .i64 0)) :=
      Lib.hid ⟨0, w2.heap.size, 0, _, _, m0, d2, t, y0, fun s => s, Nat.zero_le _, rfl, rfl, HCX.out, .inr (Nat.le_refl _), hbo, hrb, HLO.out, HS4.out, HQ.out, HoleP.start _ _ _ _ _, fun _ => rfl, HFZ.out⟩
    have hg4 := hg2.trans hG4
    have HBX4 := Lib.hid (HBX2.out.gr hG4)
    have HBR4 := Lib.hid (HBR2.out.gr hG4)
    have HBO := Lib.hid hcx0
    have HZ4 := Lib.hid (HZ.out.keep hg4)
    clear hcx0 hfz hG4 hbo hcx1 HFZ HCX HS4 HS2 HLO HBX2 HBR2 HZ hg2
    generalize w2.alloc (.cells #[.int .i64 d2.k, .string (bs d2.l), .string (bs d2.x), .slice d2.A d2.n d2.c, .string (bs d2.e)] 24) = W at *
    obtain ⟨bo, hbo⟩ : ∃ b, b = w2.heap.size := ⟨_, rfl⟩
    rw [← hbo] at HST HBO hrb
    rw [← hbo]
    clear hbo
    go_loop [11, 27] (fun av iv => AtRel W bo (w.heap.size + 1 + 1) n t zs av iv) (fun _ iv => n - (intOf iv).toNat)
    case atStart => exact HST.out
    case round =>
      obtain ⟨j, pb, po, lo, hi, m, d, s, y, root, hj, rfl, rfl, hc, hp, hpb, hrp, hrl, hs, hgt, hho, hput, hfz⟩ := hrel
      have HC := Lib.hid hc
      have HP := Lib.hid hp
      have HS := Lib.hid hs
      have HGT := Lib.hid hgt
      have HHO := Lib.hid hho
      have HPUT := Lib.hid hput
      have HFZ := Lib.hid hfz
      clear hp hs hgt hho hput hfz
      by_cases hlt : j < n
      · obtain ⟨z, hgz⟩ : ∃ z, zs[j]? = some z := ⟨zs[j]'(by rw [HZL.out]; exact hlt), List.getElem?_eq_getElem _⟩
        obtain ⟨_, hwf, h3⟩ := HZ4.out
        obtain ⟨bz, oz, rfl, hbz, hcell⟩ := h3 (by omega)
        have hcz := hcell j hlt
        rw [List.getD, hgz, Option.getD_some] at hcz
        have HDZ := Lib.hid (drop_at hgz)
        have hin : 0 ≤ z ∧ z < s.ks.length := by
          have h := HGT.out
          rw [HDZ.out] at h
          by_cases hb : z < 0 ∨ (s.ks.length : Int) ≤ z
          · rw [getF_bad hb] at h; cases h
          · omega
        obtain ⟨i, rfl⟩ := Int.eq_ofNat_of_zero_le hin.1
        obtain ⟨y2, hy2⟩ : ∃ q, s.ks[i]? = some q := ⟨s.ks[i]'(by omega), List.getElem?_eq_getElem _⟩
        cases m with
        | zero => exact HS.out.elim
        | succ m =>
        obtain ⟨b, lo', hi', e, hA, q1, q2, q3, q4, q5, q6, q7, q8, q9, q10, q11⟩ := HHO.out.step (fun b h1 h2 => by omega) HP.out hc hpb HS.out hy2
        obtain ⟨dk, dl, dx, dA, dn, dc, de⟩ := d
        simp only at hA q5 q6 q7
        subst hA
        obtain ⟨e0, e1, e2, e3, e4⟩ := hc
        simp only at e0 e1 e2 e3 e4
        have hi1 : (0 : Int) ≤ (i : Int) := by omega
        have hi2 : (i : Int) < (dn : Int) := by omega
        unfold maxLen at q7
        have Q8 := Lib.hid q8
        have Q9 := Lib.hid q9
        have Q10 := Lib.hid q10
        have Q11 := Lib.hid q11
        have HY2 := Lib.hid hy2
        clear h3 hcell hwf hgz hin q8 q9 q10 q11 hy2
        go_wp2_with fail
        go_round
        case rel => exact ⟨j + 1, b, i * 5, lo', hi', m, e, y2, y, _, by omega, by go_num, by first | rfl | simp, Q9.out, .inl q1, q4, by omega, by omega, Q10.out, by
            have h := HGT.out
            rw [HDZ.out, getF_go HY2.out] at h
            exact h, Q11.out, fun s' => by
            have h := HPUT.out s'
            rw [HDZ.out, putF_go HY2.out] at h
            exact h, Q8.out⟩
        case measure => simp [intOf] <;> omega
      · have hjn : j = n := by omega
        have hsy : y = s := by
          have h := HGT.out
          rw [hjn, ← HZL.out, List.drop_length, getF] at h
          exact (Option.some.inj h).symm
        have hpt : root x = putF t zs x := by
          have h := HPUT.out x
          rw [hjn, ← HZL.out, List.drop_length, putF] at h
          exact h
        have HPT := Lib.hid hpt
        obtain ⟨k0, k1, k2, k3, k4⟩ := HBX4.out.cells
        have hlb := lt_of_block HBX4.out
        clear hjn hsy hpt HGT HPUT hc
        go_wp2_with fail
        refine (cloneP_any mx vx x _ (HX.out.gr hg4) hcx).mono ?_
        rintro e w5 ⟨d5, rfl, hs5, hb5⟩
        have HS5 := Lib.hid hs5
        have HC5 : Hid (NCells w5 pb po d) := Lib.hid (HC.out.keep (hb5.on anyB) trivial hpb)
        obtain ⟨c0, c1, c2, c3, c4⟩ := HC5.out
        have z0 : w5.frozen? ⟨pb, po, none⟩ = false := (hb5.cells.2.1 pb _ hpb).trans (HFZ.out _)
        have z1 : w5.frozen? ⟨pb, po + 1, none⟩ = false := (hb5.cells.2.1 pb _ hpb).trans (HFZ.out _)
        have z2 : w5.frozen? ⟨pb, po + 2, none⟩ = false := (hb5.cells.2.1 pb _ hpb).trans (HFZ.out _)
        have z3 : w5.frozen? ⟨pb, po + 3, none⟩ = false := (hb5.cells.2.1 pb _ hpb).trans (HFZ.out _)
        have z4 : w5.frozen? ⟨pb, po + 4, none⟩ = false := (hb5.cells.2.1 pb _ hpb).trans (HFZ.out _)
        have hW5 := Below.size hb5
        have hpb5 : pb < w5.heap.size := by omega
        have hg5 := hg4.trans hb5
        -- the world behind the store
        have hrep : NRep (fun b => b ≠ w.heap.size + 1 + 1) mx (w5.setCells pb po d5.cells) d5 x :=
          NRep.mono (fun b hb' => by have := Below.size hg4; omega) (SRep.rep _ _ _ _ _ (SRep.keep _ _ _ _ _ HS5.out (by rw [size_setCells]; exact Nat.le_refl _) (fun b o h1 h2 => ⟨cell_set5 (fun he => by omega), World.frozen?_setCells _ _ _ _ _⟩)))
        obtain ⟨m6, d6, hc6, hr6⟩ := HHO.out (w5.setCells pb po d5.cells) d5 x mx (by rw [size_setCells]; omega) (fun b o h1 h2 h3 => by
          rw [cell_set5 h3]
          exact hb5.cells.1 b o h1) (NCells.set HC5.out) hrep
        have hbr6 : NBox (w5.setCells pb po d5.cells) (w.heap.size + 1 + 1) zeroD := (heap_setCells_other pb (by omega) _ _ _).trans (HBR4.out.gr hb5)
        have hg6 : Gr w (w5.setCells pb po d5.cells) := Gr.setCells (by omega) _ _ _ hg5
        have hsz6 : w5.heap.size ≤ (w5.setCells pb po d5.cells).heap.size := by rw [size_setCells]; exact Nat.le_refl _
        have HR6 := Lib.hid hr6
        have HC6 := Lib.hid hc6
        have HBR6 := Lib.hid hbr6
        have HG6 := Lib.hid hg6
        have HSZ6 := Lib.hid hsz6
        have hbo5 : bo < w5.heap.size := Gr.lt hb5 (lt_of_block HBO.out)
        clear hs5 hb5 hrep hr6 hc6 hbr6 hg6 hsz6 k0 k1 k2 k3 k4 HHO HC HFZ HC5 hW5
        go_upto_region 12 with (fail)
        change Code.wp _ _ _ _ (w5.setCells pb po d5.cells)
        generalize w5.setCells pb po d5.cells = W6 at *
        obtain ⟨k0, k1, k2, k3, k4⟩ := HC6.out
        obtain ⟨s0, s1, s2, s3, s4⟩ := HBR6.out.cells
        simp only [zeroD] at s0 s1 s2 s3 s4
        have y0 := free_of_cells HBR6.out 0
        have y1 := free_of_cells HBR6.out 1
        have y2 := free_of_cells HBR6.out 2
        have y3 := free_of_cells HBR6.out 3
        have y4 := free_of_cells HBR6.out 4
        have hls := lt_of_block HBR6.out
        have hszb := HSZ6.out
        have hlb6 : bo < W6.heap.size := by omega
        clear c0 c1 c2 c3 c4 z0 z1 z2 z3 z4
        go_wp2_with fail
        refine bodyPost_ret (v := .tuple #[.agg #[.int .i64 d6.k, .string (bs d6.l), .string (bs d6.x), .slice d6.A d6.n d6.c, .string (bs d6.e)], .int .i64 0]) ?_ rfl ?_
        · simp [results, Try.results26, go_sem, s0, s1, s2, s3, s4]
        · have hg7 := HG6.out
          rw [← HPT.out]
          refine ⟨m6, d6, rfl, NRep.mono (fun _ _ => trivial) (NRep.keep ⟨by simp, fun b o hb _ => ?_⟩ _ _ _ HR6.out), (by with_reducible (repeat (first | exact Gr.refl _ | assumption | apply Gr.alloc | apply Gr.drew | apply Gr.drewN | refine Gr.setCell ?_ (by first | (simp; done) | (simp; omega)) _ | refine Gr.trans ?_ (by assumption))))⟩
          have hh : ∀ (W : World) (k : Nat) (u : Value), (W.setCell ⟨w.heap.size + 1 + 1, k, none⟩ u).heap[b]? = W.heap[b]? := fun W k u => heap_set_other hb
          apply World.cell?_of_block
          simp only [hh]
end Go.Proofs.Ytklncffhkdbkhaa
