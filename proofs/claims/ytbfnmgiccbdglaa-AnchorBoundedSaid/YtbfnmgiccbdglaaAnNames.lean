/- Names of anchor, walked. -/
import Derived.Test.YtbfnmgiccbdglaaAnNst
import Derived.Test.YtbfnmgiccbdglaaAnMark
import Derived.Test.YtbfnmgiccbdglaaAnVst
namespace Go.Proofs.Ytbfnmgiccbdglaa
open Go.ChangeShapes Go.WideShapes Go.ChangeAt Go.RowKit

theorem zeroB (w : World) : (zeroValue 4).run Try.prog w = .ok (.bool false) w := by kernel_rfl
set_option maxRecDepth 100000 in
set_option maxHeartbeats 4000000 in
theorem names_dup (nb Bs Bo Bf Bm _m cnt : Nat) (acc : List (List UInt8)) (t : NT) (A : Option Addr) (n c : Nat) (w : World) (HST : Hid (NSt nb Bs Bo Bf Bm cnt acc acc w)) (HXL : Hid (t.x.length ≤ maxLen)) (hnw : nb ≤ w.heap.size) (hk : t.k = 9) (hx : t.x ∈ acc) : Calls Try.prog 28 #[.agg #[.int .i64 t.k, .string (bs t.l), .string (bs t.x), .slice A n c, .string (bs t.e)], .pointer (some ⟨Bs, 0, none⟩), .pointer (some ⟨Bo, 0, none⟩), .pointer (some ⟨Bf, 0, none⟩)] w (NPost nb Bs Bo Bf Bm cnt none w) := by
  have HBX : Hid (NBox (w.alloc (.cells #[.int .i64 t.k, .string (bs t.l), .string (bs t.x), .slice A n c, .string (bs t.e)] 24)) w.heap.size ⟨t.k, t.l, t.x, A, n, c, t.e⟩) := Lib.hid (heap_alloc_new w _)
  have HS1 := Lib.hid (HST.out.gr ((Gr.refl w).alloc (.cells #[.int .i64 t.k, .string (bs t.l), .string (bs t.x), .slice A n c, .string (bs t.e)] 24)))
  have y1 := HS1.out.seen.cell
  have y1l := HS1.out.seen.lt
  have hlk : (Instr.lookup 56 (.map (some Bm)) (.string (bs t.x)) false).run Try.prog (w.alloc (.cells #[.int .i64 t.k, .string (bs t.l), .string (bs t.x), .slice A n c, .string (bs t.e)] 24)) = .ok (.bool true) (w.alloc (.cells #[.int .i64 t.k, .string (bs t.l), .string (bs t.x), .slice A n c, .string (bs t.e)] 24)) := HS1.out.mp.look Try.underlying56 (zeroB _) HXL.out |>.trans (by rw [decide_eq_true hx])
  have r9 : (t.k == 9) = true := by simp [hk]
  clear hk hx
  go_enter Try.func28, Try.ntmps28
  go_wp2_with fail
  go_ret
  exact ⟨rfl, KN.gr hnw ((Gr.refl w).alloc _), fun _ h => by cases h⟩
structure NW (W3 : World) (nb b0 Bo k : Nat) (d : ND) (ov : Value) (xs : List Value) (nm : List UInt8) (B : Nat → Bool) (u : Nat → Value) (w : World) : Prop where
  bx : NBox w b0 d
  ob : B 6 = false → Boxed w Bo 27 ov
  c4 : B 4 = true → B 3 = true
  ca : B 5 = true → B 0 = true
  cb : B 5 = true → B 4 = true
  c6 : B 6 = true → B 5 = true
  w0 : B 4 = false → w = W3.drew
  w1 : B 4 = true → B 5 = false → w = W3.drew.alloc (.cells #[.string (bs nm)] 9)
  w5 : B 5 = true → ∃ v' w5, u 23 = v' ∧ w5.ownsRow nb 9 1 v' (k + 1) (xs ++ [.string (bs nm)]) ∧ (W3.drew.alloc (.cells #[.string (bs nm)] 9)).grownBy w5 ov.ownBlock ∧ (B 6 = false → w = w5) ∧ (B 6 = true → w = w5.setCell ⟨Bo, 0, none⟩ v')
section
variable {W3 w w' : World} {nb b0 Bo k : Nat} {d : ND} {ov : Value} {xs : List Value} {nm : List UInt8} {B : Nat → Bool} {u : Nat → Value}
theorem NW.s0 (h : NW W3 nb b0 Bo k d ov xs nm B u w) (v : Value) : NW W3 nb b0 Bo k d ov xs nm (upB B 0) (upV u 18 v) w :=
  { bx := by first | (simp [upB]; done) | simpa [upB, upV] using h.bx, ob := by first | (simp [upB]; done) | simpa [upB, upV] using h.ob, c4 := by first | (simp [upB]; done) | simpa [upB, upV] using h.c4, ca := by first | (simp [upB]; done) | simpa [upB, upV] using h.ca, cb := by first | (simp [upB]; done) | simpa [upB, upV] using h.cb, c6 := by first | (simp [upB]; done) | simpa [upB, upV] using h.c6, w0 := by first | (simp [upB]; done) | simpa [upB, upV] using h.w0, w1 := by first | (simp [upB]; done) | simpa [upB, upV] using h.w1, w5 := by first | (simp [upB]; done) | simpa [upB, upV] using h.w5 }
theorem NW.s1 (h : NW W3 nb b0 Bo k d ov xs nm B u w) (v : Value) : NW W3 nb b0 Bo k d ov xs nm (upB B 1) (upV u 19 v) w :=
  { bx := by first | (simp [upB]; done) | simpa [upB, upV] using h.bx, ob := by first | (simp [upB]; done) | simpa [upB, upV] using h.ob, c4 := by first | (simp [upB]; done) | simpa [upB, upV] using h.c4, ca := by first | (simp [upB]; done) | simpa [upB, upV] using h.ca, cb := by first | (simp [upB]; done) | simpa [upB, upV] using h.cb, c6 := by first | (simp [upB]; done) | simpa [upB, upV] using h.c6, w0 := by first | (simp [upB]; done) | simpa [upB, upV] using h.w0, w1 := by first | (simp [upB]; done) | simpa [upB, upV] using h.w1, w5 := by first | (simp [upB]; done) | simpa [upB, upV] using h.w5 }
theorem NW.s2 (h : NW W3 nb b0 Bo k d ov xs nm B u w) (v : Value) : NW W3 nb b0 Bo k d ov xs nm (upB B 2) (upV u 20 v) w :=
  { bx := by first | (simp [upB]; done) | simpa [upB, upV] using h.bx, ob := by first | (simp [upB]; done) | simpa [upB, upV] using h.ob, c4 := by first | (simp [upB]; done) | simpa [upB, upV] using h.c4, ca := by first | (simp [upB]; done) | simpa [upB, upV] using h.ca, cb := by first | (simp [upB]; done) | simpa [upB, upV] using h.cb, c6 := by first | (simp [upB]; done) | simpa [upB, upV] using h.c6, w0 := by first | (simp [upB]; done) | simpa [upB, upV] using h.w0, w1 := by first | (simp [upB]; done) | simpa [upB, upV] using h.w1, w5 := by first | (simp [upB]; done) | simpa [upB, upV] using h.w5 }
theorem NW.s3 (h : NW W3 nb b0 Bo k d ov xs nm B u w) (v : Value) : NW W3 nb b0 Bo k d ov xs nm (upB B 3) (upV u 21 v) w :=
  { bx := by first | (simp [upB]; done) | simpa [upB, upV] using h.bx, ob := by first | (simp [upB]; done) | simpa [upB, upV] using h.ob, c4 := by first | (simp [upB]; done) | simpa [upB, upV] using h.c4, ca := by first | (simp [upB]; done) | simpa [upB, upV] using h.ca, cb := by first | (simp [upB]; done) | simpa [upB, upV] using h.cb, c6 := by first | (simp [upB]; done) | simpa [upB, upV] using h.c6, w0 := by first | (simp [upB]; done) | simpa [upB, upV] using h.w0, w1 := by first | (simp [upB]; done) | simpa [upB, upV] using h.w1, w5 := by first | (simp [upB]; done) | simpa [upB, upV] using h.w5 }
theorem NW.not5 (h : NW W3 nb b0 Bo k d ov xs nm B u w) (h4 : B 4 = false ∨ B 0 = false) : B 5 = false := by
  cases h5 : B 5 with
  | false => rfl
  | true =>
    rcases h4 with h4 | h4
    · rw [h.cb h5] at h4; cases h4
    · rw [h.ca h5] at h4; cases h4
theorem NW.not6 (h : NW W3 nb b0 Bo k d ov xs nm B u w) (h5 : B 5 = false) : B 6 = false := by
  cases h6 : B 6 with
  | false => rfl
  | true => rw [h.c6 h6] at h5; cases h5
theorem NW.s4 (h : NW W3 nb b0 Bo k d ov xs nm B u w) (v : Value) (h3 : B 3 = true) (h4 : B 4 = false) : NW W3 nb b0 Bo k d ov xs nm (upB B 4) (upV u 22 v) (w.alloc (.cells #[.string (bs nm)] 9)) :=
  { bx := h.bx.gr ((Gr.refl _).alloc _), ob := fun h6 => (h.ob (by simpa [upB] using h6)).alloc _, c4 := fun _ => by simpa [upB] using h3, ca := by first | (simp [upB]; done) | simpa [upB, upV] using h.ca, cb := by first | (simp [upB]; done) | simpa [upB, upV] using h.cb, c6 := by first | (simp [upB]; done) | simpa [upB, upV] using h.c6, w0 := fun hx => by simp [upB] at hx, w1 := fun _ _ => by rw [h.w0 h4], w5 := fun h5 => by have h5' := h.not5 (.inl h4); simp [upB, h5'] at h5 }
theorem NW.s5 (h : NW W3 nb b0 Bo k d ov xs nm B u w) (v : Value) (h0 : B 0 = true) (h4 : B 4 = true) (h5 : B 5 = false) (hown : w'.ownsRow nb 9 1 v (k + 1) (xs ++ [.string (bs nm)])) (hgrow : w.grownBy w' ov.ownBlock) (hbx : NBox w' b0 d) (hob : Boxed w' Bo 27 ov) : NW W3 nb b0 Bo k d ov xs nm (upB B 5) (upV u 23 v) w' :=
  { bx := hbx, ob := fun _ => hob, c4 := by first | (simp [upB]; done) | simpa [upB, upV] using h.c4, ca := fun _ => by simpa [upB] using h0, cb := fun _ => by simpa [upB] using h4, c6 := by first | (simp [upB]; done) | simpa [upB, upV] using h.c6, w0 := fun hx => by simp [upB, h4] at hx, w1 := fun _ hx => by simp [upB] at hx, w5 := fun _ => ⟨v, w', by simp [upV], hown, (h.w1 h4 h5) ▸ hgrow, fun _ => rfl, fun h6 => by have h6' := h.not6 h5; simp [upB, h6'] at h6⟩ }
theorem NW.s6 (h : NW W3 nb b0 Bo k d ov xs nm B u w) (h5 : B 5 = true) (h6 : B 6 = false) {v' : Value} (hu : u 23 = v') (hbx : NBox (w.setCell ⟨Bo, 0, none⟩ v') b0 d) : NW W3 nb b0 Bo k d ov xs nm (upB B 6) u (w.setCell ⟨Bo, 0, none⟩ v') :=
  { bx := hbx, ob := fun hx => by simp [upB] at hx, c4 := by first | (simp [upB]; done) | simpa [upB, upV] using h.c4, ca := by first | (simp [upB]; done) | simpa [upB, upV] using h.ca, cb := by first | (simp [upB]; done) | simpa [upB, upV] using h.cb, c6 := fun _ => by simpa [upB] using h5, w0 := fun hx => by have h4 := h.cb h5; simp [upB, h4] at hx, w1 := fun _ hx => by simp [upB, h5] at hx, w5 := fun _ => (by
    obtain ⟨v2, w5, q1, q2, q3, q4, _⟩ := h.w5 h5
    refine ⟨v2, w5, q1, q2, q3, fun hx => by simp [upB] at hx, fun _ => ?_⟩
    rw [q4 h6, ← hu, q1]) }
end
theorem infoStr : (Try.prog.info? 9).map (fun i => (i.zero, i.size, i.bytes)) = some (some (.string ⟨#[]⟩), 1, 16) := by kernel_rfl
theorem countL_takeN (l : List NT) {j : Nat} {y : NT} (h : l[j]? = some y) : countL (l.take (j + 1)) = countL (l.take j) + countF y := by
  rw [take_succ_at h, countL_app]
  simp [countL]
def NRel (nb Bs Bo Bf Bm cnt : Nat) (ks : List NT) (q : Option (List (List UInt8))) (w : World) (n : Nat) (iv : Value) (wr : World) : Prop :=
  ∃ (j : Nat) (a : List (List UInt8)), j ≤ n ∧ iv = .int .i64 j ∧ visNL (ks.drop j) a = q ∧ NSt nb Bs Bo Bf Bm (cnt + countL (ks.take j)) a a wr ∧ a.length ≤ cnt + countL (ks.take j) ∧ KN nb w wr
set_option maxRecDepth 100000 in
set_option maxHeartbeats 4000000 in
theorem names_plain (nb Bs Bo Bf Bm m cnt : Nat) (acc : List (List UInt8)) (t : NT) (A : Option Addr) (n c : Nat) (w : World) (HST : Hid (NSt nb Bs Bo Bf Bm cnt acc acc w)) (_HXL : Hid (t.x.length ≤ maxLen)) (hnw : nb ≤ w.heap.size) (hk : t.k ≠ 9) (hn : n = t.ks.length) (hn63 : n ≤ maxLen) (hcc : cnt + countL t.ks ≤ 1000000) (hacc : acc.length ≤ cnt) (hmk : markedL t.ks = true) (HK0 : Hid (Kids (fun b => b < nb) m w A t.ks)) (HI : Hid (∀ (v : ND) (t : NT) (cnt : Nat) (acc : List (List UInt8)) (w : World), NRep (fun k => k < nb) m w v t → markedB t = true → NSt nb Bs Bo Bf Bm cnt acc acc w → cnt + countF t ≤ 1000000 → acc.length ≤ cnt → nb ≤ w.heap.size → Calls Try.prog 28 #[.agg #[.int .i64 v.k, .string (bs v.l), .string (bs v.x), .slice v.A v.n v.c, .string (bs v.e)], .pointer (some ⟨Bs, 0, none⟩), .pointer (some ⟨Bo, 0, none⟩), .pointer (some ⟨Bf, 0, none⟩)] w (NPost nb Bs Bo Bf Bm (cnt + countF t) (visN t acc) w))) : Calls Try.prog 28 #[.agg #[.int .i64 t.k, .string (bs t.l), .string (bs t.x), .slice A n c, .string (bs t.e)], .pointer (some ⟨Bs, 0, none⟩), .pointer (some ⟨Bo, 0, none⟩), .pointer (some ⟨Bf, 0, none⟩)] w (NPost nb Bs Bo Bf Bm (cnt + countL t.ks) (visNL t.ks acc) w) := by
  generalize hq : visNL t.ks acc = q
  have HQ := Lib.hid hq
  have HMK := Lib.hid hmk
  have HN := Lib.hid hn
  have HCC := Lib.hid hcc
  have HAC := Lib.hid hacc
  unfold maxLen at hn63
  have HBX : Hid (NBox (w.alloc (.cells #[.int .i64 t.k, .string (bs t.l), .string (bs t.x), .slice A n c, .string (bs t.e)] 24)) w.heap.size ⟨t.k, t.l, t.x, A, n, c, t.e⟩) := Lib.hid (heap_alloc_new w _)
  have HS1 := Lib.hid (HST.out.gr ((Gr.refl w).alloc (.cells #[.int .i64 t.k, .string (bs t.l), .string (bs t.x), .slice A n c, .string (bs t.e)] 24)))
  have y1 := HS1.out.seen.cell
  have y1l := HS1.out.seen.lt
  have r9 : (t.k == 9) = false := by simp [hk]
  have HKK := Lib.hid (KN.gr hnw ((Gr.refl w).alloc (.cells #[.int .i64 t.k, .string (bs t.l), .string (bs t.x), .slice A n c, .string (bs t.e)] 24)))
  clear hq hmk hn hcc hacc hk
  go_enter Try.func28, Try.ntmps28
  go_wp2_with fail
  go_loopw [27] (fun iv wr => NRel nb Bs Bo Bf Bm cnt t.ks q w n iv wr) (fun iv _ => n - (intOf iv).toNat)
  case atStart => exact ⟨0, acc, Nat.zero_le _, rfl, HQ.out, HS1.out.mono (Nat.le_add_right _ _), Nat.le_trans HAC.out (Nat.le_add_right _ _), HKK.out⟩
  case round =>
    obtain ⟨j, a, hj, rfl, hvl, hst, hal, hkv⟩ := hrel
    have HVL := Lib.hid hvl
    have HST2 := Lib.hid hst
    have HKV := Lib.hid hkv
    have HAL := Lib.hid hal
    have z1 := hst.seen.cell
    have z1l := hst.seen.lt
    have z3 := hst.fn.cell
    have z3l := hst.fn.lt
    clear hvl hst hkv hal
    by_cases hlt : j < n
    · obtain ⟨y, hy⟩ : ∃ y, t.ks[j]? = some y := ⟨t.ks[j]'(by have := HN.out; omega), List.getElem?_eq_getElem _⟩
      have HY := Lib.hid hy
      obtain ⟨bk, ok, d, hA, hbn, hbk, hce, hre⟩ := HK0.out j y hy
      subst hA
      obtain ⟨e0, e1, e2, e3, e4⟩ := hce.keep (P := fun b => b < nb) ⟨HKV.out.2.1.size, fun b o hb _ => Go.RowKit.Below.cell HKV.out.2.1 (p := ⟨b, o, none⟩) hb⟩ hbn hbk
      have hbw := HKV.out.lt hbk
      have hlt1 : (j : Int) < (n : Int) := by omega
      have hga : Gr wr (wr.alloc (.cells #[.int .i64 d.k, .string (bs d.l), .string (bs d.x), .slice d.A d.n d.c, .string (bs d.e)] 24)) := (Gr.refl wr).alloc _
      have hka := HKV.out.trans (KN.gr (Nat.le_trans HKV.out.1 HKV.out.2.1.size) hga)
      obtain ⟨r, hr⟩ : ∃ r, visN y a = r := ⟨_, rfl⟩
      have hct := countL_takeN t.ks hy
      have hcl := countL_get _ _ _ hy
      have hcall := HI.out d y (cnt + countL (t.ks.take j)) a (wr.alloc (.cells #[.int .i64 d.k, .string (bs d.l), .string (bs d.x), .slice d.A d.n d.c, .string (bs d.e)] 24)) (hre.below hka.2.1) (markedL_get _ _ _ HMK.out hy) (HST2.out.gr hga) (by have := HCC.out; omega) HAL.out (Nat.le_trans hka.1 hka.2.1.size)
      have hvd := visNL_drop t.ks hy a
      rw [hr] at hcall hvd
      rw [Nat.add_assoc, ← hct] at hcall
      have HCALL := Lib.hid hcall
      have HVD := Lib.hid hvd
      have HKA := Lib.hid hka
      have HR := Lib.hid hr
      have HCT := Lib.hid hct
      clear hy hce hre hga hka hr hct hcl hcall hvd
      cases r with
      | some a2 =>
        have HV : Hid (visNL (t.ks.drop (j + 1)) a2 = q) := Lib.hid (by rw [← HVL.out, HVD.out]; rfl)
        go_wp2_with (go_at_call 28; refine HCALL.out.mono ?_; rintro e w2 ⟨rfl, hk2, hs2⟩; have HK2 := Lib.hid hk2; have HS2 := Lib.hid (hs2 _ rfl); clear hk2 hs2)
        go_roundw
        case rel => exact ⟨j + 1, a2, by omega, by go_num, HV.out, HS2.out, by have h1 := visN_len y a a2 HR.out; have h2 := HAL.out; rw [HCT.out]; omega, HKA.out.trans HK2.out⟩
        case measure => simp [intOf] <;> omega
      | none =>
        have HV : Hid (q = none) := Lib.hid (by rw [← HVL.out, HVD.out]; rfl)
        go_wp2_with (go_at_call 28; refine HCALL.out.mono ?_; rintro e w2 ⟨rfl, hk2, _⟩; have HK2 := Lib.hid hk2; clear hk2)
        go_ret
        exact ⟨by rw [HV.out]; rfl, HKA.out.trans HK2.out, fun acc h => by rw [HV.out] at h; cases h⟩
    · have hd : t.ks.drop j = [] := List.drop_eq_nil_of_le (by rw [← HN.out]; omega)
      have htk : t.ks.take j = t.ks := List.take_of_length_le (by have := HN.out; omega)
      have HV : Hid (q = some a) := Lib.hid (by rw [← HVL.out, hd, visNL])
      have HTK := Lib.hid htk
      clear hd htk
      go_wp2_with fail
      go_ret
      exact ⟨by rw [HV.out]; rfl, HKV.out, fun acc h => by rw [HV.out] at h; cases h; have h2 := HST2.out; rw [HTK.out] at h2; exact h2⟩
set_option maxRecDepth 100000 in
set_option maxHeartbeats 4000000 in
theorem names_add (nb Bs Bo Bf Bm m cnt : Nat) (acc : List (List UInt8)) (t : NT) (A : Option Addr) (n c : Nat) (w : World) (HST : Hid (NSt nb Bs Bo Bf Bm cnt acc acc w)) (HXL : Hid (t.x.length ≤ maxLen)) (hnw : nb ≤ w.heap.size) (hk : t.k = 9) (hx : t.x ∉ acc) (h2 : 2 ≤ t.x.length) (hn : n = t.ks.length) (hn63 : n ≤ maxLen) (hcc : cnt + 1 + countL t.ks ≤ 1000000) (hacc : acc.length ≤ cnt) (hmk : markedL t.ks = true) (HK0 : Hid (Kids (fun b => b < nb) m w A t.ks)) (HI : Hid (∀ (v : ND) (t : NT) (cnt : Nat) (acc : List (List UInt8)) (w : World), NRep (fun k => k < nb) m w v t → markedB t = true → NSt nb Bs Bo Bf Bm cnt acc acc w → cnt + countF t ≤ 1000000 → acc.length ≤ cnt → nb ≤ w.heap.size → Calls Try.prog 28 #[.agg #[.int .i64 v.k, .string (bs v.l), .string (bs v.x), .slice v.A v.n v.c, .string (bs v.e)], .pointer (some ⟨Bs, 0, none⟩), .pointer (some ⟨Bo, 0, none⟩), .pointer (some ⟨Bf, 0, none⟩)] w (NPost nb Bs Bo Bf Bm (cnt + countF t) (visN t acc) w))) : Calls Try.prog 28 #[.agg #[.int .i64 t.k, .string (bs t.l), .string (bs t.x), .slice A n c, .string (bs t.e)], .pointer (some ⟨Bs, 0, none⟩), .pointer (some ⟨Bo, 0, none⟩), .pointer (some ⟨Bf, 0, none⟩)] w (NPost nb Bs Bo Bf Bm (cnt + 1 + countL t.ks) (visNL t.ks (acc ++ [t.x])) w) := by
  generalize hq : visNL t.ks (acc ++ [t.x]) = q
  have HQ := Lib.hid hq
  have HMK := Lib.hid hmk
  have HN := Lib.hid hn
  have HCC := Lib.hid hcc
  have HAC := Lib.hid hacc
  unfold maxLen at hn63
  have HBX : Hid (NBox (w.alloc (.cells #[.int .i64 t.k, .string (bs t.l), .string (bs t.x), .slice A n c, .string (bs t.e)] 24)) w.heap.size ⟨t.k, t.l, t.x, A, n, c, t.e⟩) := Lib.hid (heap_alloc_new w _)
  have HS1 := Lib.hid (HST.out.gr ((Gr.refl w).alloc (.cells #[.int .i64 t.k, .string (bs t.l), .string (bs t.x), .slice A n c, .string (bs t.e)] 24)))
  have y1 := HS1.out.seen.cell
  have y1l := HS1.out.seen.lt
  have hlk : (Instr.lookup 56 (.map (some Bm)) (.string (bs t.x)) false).run Try.prog (w.alloc (.cells #[.int .i64 t.k, .string (bs t.l), .string (bs t.x), .slice A n c, .string (bs t.e)] 24)) = .ok (.bool false) (w.alloc (.cells #[.int .i64 t.k, .string (bs t.l), .string (bs t.x), .slice A n c, .string (bs t.e)] 24)) := HS1.out.mp.look Try.underlying56 (zeroB _) HXL.out |>.trans (by rw [decide_eq_false hx])
  obtain ⟨W3, hrun, hm3, hg3⟩ := HS1.out.mp.put Try.underlying56 (by unfold maxLen; have := HCC.out; omega) HXL.out (v := .bool true) rfl
  have hs3 := HS1.out.put hm3 hg3
  obtain ⟨es, cl, hmb⟩ : ∃ es cl, ((w.alloc (.cells #[.int .i64 t.k, .string (bs t.l), .string (bs t.x), .slice A n c, .string (bs t.e)] 24))).heap[Bm]? = some (.map es cl) := by
    obtain ⟨_, _, _, ⟨es, cl, h1, _⟩, _⟩ := HS1.out.mp
    exact ⟨es, cl, h1⟩
  have hk3 : KN nb w W3 := (KN.gr hnw ((Gr.refl w).alloc (.cells #[.int .i64 t.k, .string (bs t.l), .string (bs t.x), .slice A n c, .string (bs t.e)] 24))).map hmb HS1.out.hm hg3
  have hb3 : NBox W3 w.heap.size ⟨t.k, t.l, t.x, A, n, c, t.e⟩ := ((KN.gr (Nat.le_trans hnw (by simp)) (Gr.refl (w.alloc (.cells #[.int .i64 t.k, .string (bs t.l), .string (bs t.x), .slice A n c, .string (bs t.e)] 24)))).map hmb HS1.out.hm hg3).box HBX.out
  obtain ⟨ov, ho1, ho2⟩ := hs3.out
  obtain ⟨A8, c8, rfl⟩ := own_form ho2
  obtain ⟨k, hkk⟩ : ∃ k, k = acc.length := ⟨_, rfl⟩
  obtain ⟨xs, hxs⟩ : ∃ xs, xs = acc.map strV := ⟨_, rfl⟩
  rw [← hkk, ← hxs] at ho2
  rw [← hkk] at ho1
  have HKK := Lib.hid hkk
  have HXS := Lib.hid hxs
  have HS3 := Lib.hid hs3
  have HK3 := Lib.hid hk3
  have HB3 := Lib.hid hb3
  have HOB := Lib.hid ho1
  have HOW : Hid (W3.drew.ownsRow nb 9 1 (.slice A8 k c8) k xs) := Lib.hid (own_same ho2 (fun _ _ => rfl))
  have HNS : Hid (nb ≤ W3.heap.size) := Lib.hid (Nat.le_trans hnw hk3.2.1.size)
  have hkb : k ≤ 1000000 := by have := HCC.out; have := HAC.out; omega
  obtain ⟨k1, k2, k3, k4, k5⟩ := hb3.cells
  simp only at k1 k2 k3 k4 k5
  have kl := lt_of_block hb3
  have z1 := hs3.seen.cell
  have z1l := hs3.seen.lt
  have HUO : Hid True := Lib.hid trivial
  obtain ⟨nm, hnm⟩ : ∃ nm, nm = t.x.drop 1 := ⟨_, rfl⟩
  have HNM := Lib.hid hnm
  have HEX : Hid ((bs t.x).extract 1 t.x.length = bs nm) := Lib.hid (by rw [hnm]; exact bs_drop1 t.x)
  have HSZ : Hid ((bs t.x).size = t.x.length) := Lib.hid rfl
  obtain ⟨i1, hy, hy0, hy1, hy2⟩ := info_parts infoStr
  have r9 : (t.k == 9) = true := by simp [hk]
  clear hq hmk hn hcc hacc hk hx hm3 hg3 hs3 hmb hk3 hb3 ho1 ho2 hkk hxs hnm
  go_enter Try.func28, Try.ntmps28
  go_wp2_with fail
  clear k1 k2 k3 k4 k5 kl
  obtain ⟨VS, hVS⟩ : ∃ VS : List (Nat × Nat × Value), VS = [(0, 18, .slice A8 k c8), (1, 19, .pointer (some ⟨w.heap.size, 2, none⟩)), (2, 20, .string (bs t.x)), (3, 21, .string (bs nm)), (4, 22, .slice (some ⟨W3.heap.size, 0, none⟩) 1 1)] := ⟨_, rfl⟩
  obtain ⟨US, hUS⟩ : ∃ US : List (Nat × Value), US = [(2, .pointer (some ⟨Bo, 0, none⟩)), (4, .pointer (some ⟨w.heap.size, 0, none⟩))] := ⟨_, rfl⟩
  refine wp_region_frame (by kernel_rfl) (by kernel_rfl) [18, 19, 20, 21, 22, 23] (by simp) (Det VS US (fun B u w' => NW W3 nb w.heap.size Bo k ⟨t.k, t.l, t.x, A, n, c, t.e⟩ (.slice A8 k c8) xs nm B u w')) ?_ ?_ ?_
  · exact Det.start (by rw [hUS]; simp [slot]) ({ bx := HB3.out, ob := fun _ => HOB.out, c4 := (fun h => by cases h), ca := (fun h => by cases h), cb := (fun h => by cases h), c6 := (fun h => by cases h), w0 := fun _ => rfl, w1 := (fun h => by cases h), w5 := (fun h => by cases h) })
  · intro B a' w' i o hfr hF ho hBi hdp
    have hi8 := (Array.getElem?_eq_some_iff.1 ho).1
    simp only [List.size_toArray, List.length_cons, List.length_nil] at hi8
    have hor : i = 0 ∨ i = 1 ∨ i = 2 ∨ i = 3 ∨ i = 4 ∨ i = 5 ∨ i = 6 := by omega
    clear hi8
    rcases hor with rfl | rfl | rfl | rfl | rfl | rfl | rfl
    all_goals (
      simp only [List.getElem?_toArray, List.getElem?_cons_zero, List.getElem?_cons_succ, Option.some.injEq] at ho
      subst ho
      rw [if_pos (show Region.wanted _ _ = true from rfl)]
      refine wp_hideK ?_
      intro K hK)
    · have hFW := hF.wd
      have o2 := slot_spell (hF.had (d := 2) (v := .pointer (some ⟨Bo, 0, none⟩)) (by rw [hUS]; simp))
      have h6 := hFW.not6 (hFW.not5 (.inr hBi))
      have yo := (hFW.ob h6).cell
      have yl := (hFW.ob h6).lt
      have ob := HUO.out
      go_simp
      exact hK.out _ _ (close_put hfr (d := 18) (by decide) (by simp) _ (F := fun u => Det VS US (fun B u w' => NW W3 nb w.heap.size Bo k ⟨t.k, t.l, t.x, A, n, c, t.e⟩ (.slice A8 k c8) xs nm B u w') (upB B 0) u _) (hF.step (by rw [hVS]; simp) (by rw [hUS]; simp) (hFW.s0 _)))
    · have hFW := hF.wd
      have o4 := slot_spell (hF.had (d := 4) (v := .pointer (some ⟨w.heap.size, 0, none⟩)) (by rw [hUS]; simp))
      go_simp
      exact hK.out _ _ (close_put hfr (d := 19) (by decide) (by simp) _ (F := fun u => Det VS US (fun B u w' => NW W3 nb w.heap.size Bo k ⟨t.k, t.l, t.x, A, n, c, t.e⟩ (.slice A8 k c8) xs nm B u w') (upB B 1) u _) (hF.step (by rw [hVS]; simp) (by rw [hUS]; simp) (hFW.s1 _)))
    · have hFW := hF.wd
      have hB1 : B 1 = true := hdp ⟨1, .data⟩ (by simp) (by rfl)
      have e1 := slot_spell (hF.get (i := 1) (d := 19) (v := .pointer (some ⟨w.heap.size, 2, none⟩)) (by rw [hVS]; simp) hB1)
      have yx := hFW.bx.cells.2.2.1
      have yl := lt_of_block hFW.bx
      simp only at yx
      go_simp
      exact hK.out _ _ (close_put hfr (d := 20) (by decide) (by simp) _ (F := fun u => Det VS US (fun B u w' => NW W3 nb w.heap.size Bo k ⟨t.k, t.l, t.x, A, n, c, t.e⟩ (.slice A8 k c8) xs nm B u w') (upB B 2) u _) (hF.step (by rw [hVS]; simp) (by rw [hUS]; simp) (hFW.s2 _)))
    · have hFW := hF.wd
      have hB2 : B 2 = true := hdp ⟨2, .data⟩ (by simp) (by rfl)
      have e2 := slot_spell (hF.get (i := 2) (d := 20) (v := .string (bs t.x)) (by rw [hVS]; simp) hB2)
      have yn := HEX.out
      have ys := HSZ.out
      go_simp
      rw [if_pos (show (1 : Int) ≤ (t.x.length : Int) by omega)]
      go_simp
      exact hK.out _ _ (close_put hfr (d := 21) (by decide) (by simp) _ (F := fun u => Det VS US (fun B u w' => NW W3 nb w.heap.size Bo k ⟨t.k, t.l, t.x, A, n, c, t.e⟩ (.slice A8 k c8) xs nm B u w') (upB B 3) u _) (hF.step (by rw [hVS]; simp) (by rw [hUS]; simp) (hFW.s3 _)))
    · have hFW := hF.wd
      have hB3 : B 3 = true := hdp ⟨3, .data⟩ (by simp) (by rfl)
      have e3 := slot_spell (hF.get (i := 3) (d := 21) (v := .string (bs nm)) (by rw [hVS]; simp) hB3)
      have hw := hFW.w0 hBi
      subst hw
      go_simp
      exact hK.out _ _ (close_put hfr (d := 22) (by decide) (by simp) _ (F := fun u => Det VS US (fun B u w' => NW W3 nb w.heap.size Bo k ⟨t.k, t.l, t.x, A, n, c, t.e⟩ (.slice A8 k c8) xs nm B u w') (upB B 4) u _) (hF.step (by rw [hVS]; simp) (by rw [hUS]; simp) (hFW.s4 _ hB3 hBi)))
    · have hFW := hF.wd
      have hB0 : B 0 = true := hdp ⟨0, .data⟩ (by simp) (by rfl)
      have e0 := slot_spell (hF.get (i := 0) (d := 18) (v := .slice A8 k c8) (by rw [hVS]; simp) hB0)
      have hB4 : B 4 = true := hdp ⟨4, .data⟩ (by simp) (by rfl)
      have e4 := slot_spell (hF.get (i := 4) (d := 22) (v := .slice (some ⟨W3.heap.size, 0, none⟩) 1 1) (by rw [hVS]; simp) hB4)
      have hw := hFW.w1 hB4 hBi
      have h6 := hFW.not6 hBi
      have hown0 : w'.ownsRow nb 9 1 (.slice A8 k c8) k xs := by rw [hw]; exact own_same HOW.out (fun b hb => heapNew (HOW.out.lt b hb).2)
      have hsrc : SrcAt w' (some ⟨W3.heap.size, 0, none⟩) 1 1 [.string (bs nm)] := by rw [hw]; exact src_fresh (cs := [.string (bs nm)]) (heap_alloc_new W3.drew _) rfl (by simp [Value.oneCell'])
      refine wp_app (.tmp 18) (.tmp 22) 27 rfl nb 9 i1 _ 1 16 Try.underlying27 hy hy0 hy1 hy2 rfl (by decide) (.slice A8 k c8) k xs (hF.get (i := 0) (d := 18) (v := .slice A8 k c8) (by rw [hVS]; simp) hB0) hown0 (some ⟨W3.heap.size, 0, none⟩) 1 1 [.string (bs nm)] (hF.get (i := 4) (d := 22) (v := .slice (some ⟨W3.heap.size, 0, none⟩) 1 1) (by rw [hVS]; simp) hB4) hsrc (by unfold maxLen; omega) (by omega) (by rw [hw]; have := HNS.out; simp; omega) ?_
      intro v9 w9 hown9 hgrow9
      have hbx9 : NBox w9 w.heap.size ⟨t.k, t.l, t.x, A, n, c, t.e⟩ := (hgrow9.block _ (lt_of_block hFW.bx) (fun he => own_type hown0 hFW.bx (by decide) he.symm)).trans hFW.bx
      have hob9 : Boxed w9 Bo 27 (.slice A8 k c8) := (hFW.ob h6).kept hgrow9 ((hFW.ob h6).not_row (by decide) hown0)
      exact hK.out _ _ (close_put hfr (d := 23) (by decide) (by simp) _ (F := fun u => Det VS US (fun B u w' => NW W3 nb w.heap.size Bo k ⟨t.k, t.l, t.x, A, n, c, t.e⟩ (.slice A8 k c8) xs nm B u w') (upB B 5) u _) (hF.step (by rw [hVS]; simp) (by rw [hUS]; simp) (hFW.s5 v9 hB0 hB4 hBi hown9 hgrow9 hbx9 hob9)))
    · have hFW := hF.wd
      have hB5 : B 5 = true := hdp ⟨5, .data⟩ (by simp) (by rfl)
      have o2 := slot_spell (hF.had (d := 2) (v := .pointer (some ⟨Bo, 0, none⟩)) (by rw [hUS]; simp))
      obtain ⟨v2, w5, q1, q2, q3, q4, _⟩ := hFW.w5 hB5
      have hw5 := q4 hBi
      subst hw5
      clear q4
      obtain ⟨g2, cap2, rfl⟩ := ownsRow_succ q2
      have e23 := slot_spell q1
      have yo := (hFW.ob hBi).cell
      have yf := (hFW.ob hBi).frozen
      have yl := (hFW.ob hBi).lt
      have hne : w.heap.size ≠ Bo := fun he => (by
        have h1 := hFW.ob hBi
        have h2 := hFW.bx
        unfold Boxed at h1
        unfold NBox at h2
        rw [← he, h2] at h1
        simp only [Option.some.injEq, Obj.cells.injEq] at h1
        exact absurd h1.2.1 (by decide))
      have hbx9 := fun v => (heap_set_other (w := w') (a := ⟨Bo, 0, none⟩) (u := v) hne).trans hFW.bx
      go_simp
      exact hK.out _ _ (close_none hfr undef (F := fun u => Det VS US (fun B u w' => NW W3 nb w.heap.size Bo k ⟨t.k, t.l, t.x, A, n, c, t.e⟩ (.slice A8 k c8) xs nm B u w') (upB B 6) u _) (hF.none (by rw [hVS]; simp) (hFW.s6 hB5 hBi q1 (hbx9 _))))
  · intro B u w' hall hF
    have z0 := hF.get (i := 0) (d := 18) (v := .slice A8 k c8) (by rw [hVS]; simp) (hall 0 (by simp))
    have z1 := hF.get (i := 1) (d := 19) (v := .pointer (some ⟨w.heap.size, 2, none⟩)) (by rw [hVS]; simp) (hall 1 (by simp))
    have z2 := hF.get (i := 2) (d := 20) (v := .string (bs t.x)) (by rw [hVS]; simp) (hall 2 (by simp))
    have z3 := hF.get (i := 3) (d := 21) (v := .string (bs nm)) (by rw [hVS]; simp) (hall 3 (by simp))
    have z4 := hF.get (i := 4) (d := 22) (v := .slice (some ⟨W3.heap.size, 0, none⟩) 1 1) (by rw [hVS]; simp) (hall 4 (by simp))
    have hFW := hF.wd
    clear hF hVS hUS
    simp only [List.foldl_cons, List.foldl_nil, Act.put, List.setIfInBounds_toArray, List.set_cons_zero, List.set_cons_succ, z0, z1, z2, z3, z4]
    clear z0 z1 z2 z3 z4
    have h6 := hall 6 (by simp)
    obtain ⟨v2, w5, q1, q2, q3, _, q5⟩ := hFW.w5 (hall 5 (by simp))
    have hw6 := q5 h6
    have hb6 := hFW.bx
    subst hw6
    clear hall hFW q5 h6
    have hsl : [Value.string (bs nm)] = [strV t.x] := by rw [HNM.out]; rfl
    rw [hsl, HKK.out, HXS.out] at q2
    have hs6 := (HS3.out.gr (Gr.refl _).drew).app HNS.out (by have h := HOB.out; rw [HKK.out] at h; exact h) (by have h := HOW.out; rw [HKK.out, HXS.out] at h; exact h) q2 (by have h := q3; rw [HKK.out] at h; exact h)
    have hk6 : KN nb w (w5.setCell ⟨Bo, 0, none⟩ v2) := (HK3.out.trans (KN.gr HNS.out (Gr.refl _).drew)).app HOB.out HS3.out.ho HOW.out q3
    have HS6 := Lib.hid hs6
    have HK6 := Lib.hid hk6
    have HB6 := Lib.hid hb6
    generalize (w5.setCell ⟨Bo, 0, none⟩ v2) = W6 at *
    obtain ⟨k1, k2, k3, k4, k5⟩ := hb6.cells
    simp only at k1 k2 k3 k4 k5
    have kl := lt_of_block hb6
    generalize u 23 = v23 at *
    clear q1 q2 q3 hs6 hk6 hb6 hsl
    go_wp2_with fail
    go_loopw [27] (fun iv wr => NRel nb Bs Bo Bf Bm (cnt + 1) t.ks q w n iv wr) (fun iv _ => n - (intOf iv).toNat)
    case atStart => exact ⟨0, acc ++ [t.x], Nat.zero_le _, rfl, HQ.out, HS6.out.mono (Nat.le_add_right _ _), by have := HAC.out; simp; omega, HK6.out⟩
    case round =>
      obtain ⟨j, a, hj, rfl, hvl, hst, hal, hkv⟩ := hrel
      have HVL := Lib.hid hvl
      have HST2 := Lib.hid hst
      have HKV := Lib.hid hkv
      have HAL := Lib.hid hal
      have z1 := hst.seen.cell
      have z1l := hst.seen.lt
      have z3 := hst.fn.cell
      have z3l := hst.fn.lt
      clear hvl hst hkv hal
      by_cases hlt : j < n
      · obtain ⟨y, hy⟩ : ∃ y, t.ks[j]? = some y := ⟨t.ks[j]'(by have := HN.out; omega), List.getElem?_eq_getElem _⟩
        have HY := Lib.hid hy
        obtain ⟨bk, ok, d, hA, hbn, hbk, hce, hre⟩ := HK0.out j y hy
        subst hA
        obtain ⟨e0, e1, e2, e3, e4⟩ := hce.keep (P := fun b => b < nb) ⟨HKV.out.2.1.size, fun b o hb _ => Go.RowKit.Below.cell HKV.out.2.1 (p := ⟨b, o, none⟩) hb⟩ hbn hbk
        have hbw := HKV.out.lt hbk
        have hlt1 : (j : Int) < (n : Int) := by omega
        have hga : Gr wr (wr.alloc (.cells #[.int .i64 d.k, .string (bs d.l), .string (bs d.x), .slice d.A d.n d.c, .string (bs d.e)] 24)) := (Gr.refl wr).alloc _
        have hka := HKV.out.trans (KN.gr (Nat.le_trans HKV.out.1 HKV.out.2.1.size) hga)
        obtain ⟨r, hr⟩ : ∃ r, visN y a = r := ⟨_, rfl⟩
        have hct := countL_takeN t.ks hy
        have hcl := countL_get _ _ _ hy
        have hcall := HI.out d y ((cnt + 1) + countL (t.ks.take j)) a (wr.alloc (.cells #[.int .i64 d.k, .string (bs d.l), .string (bs d.x), .slice d.A d.n d.c, .string (bs d.e)] 24)) (hre.below hka.2.1) (markedL_get _ _ _ HMK.out hy) (HST2.out.gr hga) (by have := HCC.out; omega) HAL.out (Nat.le_trans hka.1 hka.2.1.size)
        have hvd := visNL_drop t.ks hy a
        rw [hr] at hcall hvd
        rw [Nat.add_assoc, ← hct] at hcall
        have HCALL := Lib.hid hcall
        have HVD := Lib.hid hvd
        have HKA := Lib.hid hka
        have HR := Lib.hid hr
        have HCT := Lib.hid hct
        clear hy hce hre hga hka hr hct hcl hcall hvd
        cases r with
        | some a2 =>
          have HV : Hid (visNL (t.ks.drop (j + 1)) a2 = q) := Lib.hid (by rw [← HVL.out, HVD.out]; rfl)
          go_wp2_with (go_at_call 28; refine HCALL.out.mono ?_; rintro e w2 ⟨rfl, hk2, hs2⟩; have HK2 := Lib.hid hk2; have HS2 := Lib.hid (hs2 _ rfl); clear hk2 hs2)
          go_roundw
          case rel => exact ⟨j + 1, a2, by omega, by go_num, HV.out, HS2.out, by have h1 := visN_len y a a2 HR.out; have h2 := HAL.out; rw [HCT.out]; omega, HKA.out.trans HK2.out⟩
          case measure => simp [intOf] <;> omega
        | none =>
          have HV : Hid (q = none) := Lib.hid (by rw [← HVL.out, HVD.out]; rfl)
          go_wp2_with (go_at_call 28; refine HCALL.out.mono ?_; rintro e w2 ⟨rfl, hk2, _⟩; have HK2 := Lib.hid hk2; clear hk2)
          go_ret
          exact ⟨by rw [HV.out]; rfl, HKA.out.trans HK2.out, fun acc h => by rw [HV.out] at h; cases h⟩
      · have hd : t.ks.drop j = [] := List.drop_eq_nil_of_le (by rw [← HN.out]; omega)
        have htk : t.ks.take j = t.ks := List.take_of_length_le (by have := HN.out; omega)
        have HV : Hid (q = some a) := Lib.hid (by rw [← HVL.out, hd, visNL])
        have HTK := Lib.hid htk
        clear hd htk
        go_wp2_with fail
        go_ret
        exact ⟨by rw [HV.out]; rfl, HKV.out, fun acc h => by rw [HV.out] at h; cases h; have h2 := HST2.out; rw [HTK.out] at h2; exact h2⟩
theorem NPost.mono {nb Bs Bo Bf Bm cnt cnt' : Nat} {q : Option (List (List UInt8))} {w w' : World} {e : Ending} (h : NPost nb Bs Bo Bf Bm cnt q w e w') (hc : cnt ≤ cnt') : NPost nb Bs Bo Bf Bm cnt' q w e w' :=
  ⟨h.1, h.2.1, fun acc ha => (h.2.2 acc ha).mono hc⟩
theorem namesC_any (nb Bs Bo Bf Bm : Nat) : ∀ (m : Nat), ∀ (v : ND) (t : NT) (cnt : Nat) (acc : List (List UInt8)) (w : World), NRep (fun k => k < nb) m w v t → markedB t = true → NSt nb Bs Bo Bf Bm cnt acc acc w → cnt + countF t ≤ 1000000 → acc.length ≤ cnt → nb ≤ w.heap.size → Calls Try.prog 28 #[.agg #[.int .i64 v.k, .string (bs v.l), .string (bs v.x), .slice v.A v.n v.c, .string (bs v.e)], .pointer (some ⟨Bs, 0, none⟩), .pointer (some ⟨Bo, 0, none⟩), .pointer (some ⟨Bf, 0, none⟩)] w (NPost nb Bs Bo Bf Bm (cnt + countF t) (visN t acc) w) := by
  intro m
  induction m with
  | zero => intro v t cnt acc w h; exact h.elim
  | succ m ih =>
    intro v t cnt acc w hr hmk hst hcc hal hnw
    obtain ⟨A, n, c, rfl, p1, p2, p3, p4, p5, p6, p7, p8, p9⟩ := hr.open5
    have hct := countF_eq t
    have hm := marked_bad hmk
    dsimp only
    rw [visN_eq]
    by_cases hk9 : t.k = 9
    · rw [if_pos hk9]
      obtain ⟨hnm, _⟩ := marked_anchor hmk hk9
      have hx2 := (named_len hnm).1
      by_cases hx : t.x ∈ acc
      · rw [if_pos hx]
        exact (names_dup nb Bs Bo Bf Bm m cnt acc t A n c w (Lib.hid hst) (Lib.hid p6) hnw hk9 hx).mono (fun e w' h => h.mono (by omega))
      · rw [if_neg hx]
        exact (names_add nb Bs Bo Bf Bm m cnt acc t A n c w (Lib.hid hst) (Lib.hid p6) hnw hk9 hx hx2 p1 (Nat.le_trans p2 p3) (by omega) hal hm.2 (Lib.hid p9) (Lib.hid ih)).mono (fun e w' h => h.mono (by omega))
    · rw [if_neg hk9]
      exact (names_plain nb Bs Bo Bf Bm m cnt acc t A n c w (Lib.hid hst) (Lib.hid p6) hnw hk9 p1 (Nat.le_trans p2 p3) (by omega) hal hm.2 (Lib.hid p9) (Lib.hid ih)).mono (fun e w' h => h.mono (by omega))
/-- A slice of these texts. -/
def RowStr (W : World) (A : Option Addr) (n c : Nat) (l : List (List UInt8)) : Prop :=
  n = l.length ∧ n ≤ c ∧ c ≤ maxLen ∧ (0 < n → ∃ g, A = some ⟨g, 0, none⟩ ∧ g < W.heap.size ∧ ∀ (i : Nat) (s : List UInt8), l[i]? = some s → W.cell? ⟨g, i, none⟩ = some (.string (bs s)))
theorem RowStr.gr {W W' : World} {A : Option Addr} {n c : Nat} {l : List (List UInt8)} (h : RowStr W A n c l) (hg : Gr W W') : RowStr W' A n c l := by
  obtain ⟨h1, h2, h3, h4⟩ := h
  refine ⟨h1, h2, h3, fun hn => ?_⟩
  obtain ⟨g, q1, q2, q3⟩ := h4 hn
  exact ⟨g, q1, Gr.lt hg q2, fun i s hs => Gr.cell hg (q3 i s hs)⟩
theorem RowStr.nil (W : World) : RowStr W none 0 0 [] := ⟨rfl, Nat.le_refl _, by decide, fun h => absurd h (by decide)⟩
theorem RowStr.of_own {W : World} {nb : Nat} {v : Value} {l : List (List UInt8)} (h : W.ownsRow nb 9 1 v l.length (l.map (fun s => .string (bs s)))) : ∃ A c, v = .slice A l.length c ∧ RowStr W A l.length c l := by
  rcases h.2 with ⟨rfl, h0⟩ | ⟨g, cap, cur, rfl, _, hgb, hnc, hcm, _⟩
  · have hl : l = [] := List.eq_nil_of_length_eq_zero h0
    subst hl
    exact ⟨none, 0, rfl, RowStr.nil W⟩
  · refine ⟨_, cap, rfl, rfl, hnc, hcm, fun _ => ⟨g, rfl, lt_of_block hgb, fun i s hs => ?_⟩⟩
    have hi := (List.getElem?_eq_some_iff.1 hs).1
    rw [h.cellAt i (by omega), List.getElem?_map, hs]
    rfl
def namesQ (t : NT) : List (List UInt8) × Int := if properB t = false then ([], 1) else (visN t []).elim ([], 8) (fun l => (l.map (fun s => s.drop 1), 0))
def RNames (q : List (List UInt8) × Int) (w : World) (e : Ending) (w' : World) : Prop := ∃ A n c, e = .returned (.tuple #[.slice A n c, .int .i64 q.2]) ∧ RowStr w' A n c q.1 ∧ Gr w w'
theorem run_store_fun {P : Program} (w : World) (a : Addr) (fn : Fn) (fi ca : Array Value) (m : Mode) : (store a (.func fn fi ca) m).run P w = stored P w a (.func fn fi ca) m := run_store P w a _ m rfl
set_option maxRecDepth 100000 in
set_option maxHeartbeats 4000000 in
theorem NamesP_any (m : Nat) (v : ND) (t : NT) (w : World) (hr : NRep anyB m w v t) (hl : lenF t ≤ 1152921504606846976) (hc : countF t ≤ 1000000) : Calls Try.prog 11 #[.agg #[.int .i64 v.k, .string (bs v.l), .string (bs v.x), .slice v.A v.n v.c, .string (bs v.e)]] w (RNames (namesQ t) w) := by
  have HR := Lib.hid hr
  obtain ⟨b2, hb2⟩ : ∃ b, properB t = b := ⟨_, rfl⟩
  have h2 := fun W (hg : Gr w W) => properP_any m v t W (hr.gr hg) hl
  rw [hb2] at h2
  generalize hq : namesQ t = q
  have HQ := Lib.hid hq
  have HP : Hid (properB t = b2) := Lib.hid hb2
  have H2 := Lib.hid h2
  have HC := Lib.hid hc
  have hmm := @run_makeMap Try.prog
  clear hr hb2 h2 hq hc hl
  go_enter Try.func11, Try.ntmps11
  go_wp2_with fail
  have hn0 : NBox (w.alloc (.cells #[.int .i64 v.k, .string (bs v.l), .string (bs v.x), .slice v.A v.n v.c, .string (bs v.e)] 24)) w.heap.size v := heap_alloc_new w (.cells #[.int .i64 v.k, .string (bs v.l), .string (bs v.x), .slice v.A v.n v.c, .string (bs v.e)] 24)
  refine (H2.out _ ((Gr.refl w).alloc _)).mono ?_
  rintro e w1 ⟨rfl, hb1⟩
  have hg1 : Gr w w1 := ((Gr.refl w).alloc _).trans hb1
  have hn1 := hn0.gr hb1
  have hlw := lt_of_block hn1
  obtain ⟨k0, k1, k2, k3, k4⟩ := hn1.cells
  have HN1 := Lib.hid hn1
  clear hn0 hn1 hb1
  cases b2 with
  | false =>
    have hq2 : q = ([], 1) := by rw [← HQ.out, namesQ, if_pos HP.out]
    have HQ2 := Lib.hid hq2
    clear hq2
    go_wp2_with fail
    go_ret2
    exact ⟨none, 0, 0, by rw [HQ2.out]; rfl, by rw [HQ2.out]; exact RowStr.nil w1, hg1⟩
  | true =>
    go_wp2_with fail
    obtain ⟨z, hz⟩ : ∃ z, z = w1.heap.size := ⟨_, rfl⟩
    have hwz : w.heap.size < z := by omega
    rw [← hz]
    have hgm : Gr w1 ((((w1.alloc (.map #[] 0)).alloc (.cells #[.map (some z)] 56)).alloc (.cells #[.slice none 0 0] 27)).alloc (.cells #[.nilFunc] 25)) := ((((Gr.refl w1).alloc _).alloc _).alloc _).alloc _
    have hm5 : MapF ((((w1.alloc (.map #[] 0)).alloc (.cells #[.map (some z)] 56)).alloc (.cells #[.slice none 0 0] 27)).alloc (.cells #[.nilFunc] 25)) z 0 (fun _ => .bool false) (.bool false) := by
      have h := MapF.made w1 (.bool false) rfl
      rw [← hz] at h
      exact h.gr ((((Gr.refl _).alloc _).alloc _).alloc _)
    have hs5 : Boxed ((((w1.alloc (.map #[] 0)).alloc (.cells #[.map (some z)] 56)).alloc (.cells #[.slice none 0 0] 27)).alloc (.cells #[.nilFunc] 25)) (z + 1) 56 (.map (some z)) := by
      have h := Boxed.new (w1.alloc (.map #[] 0)) 56 (.map (some z))
      have hzz : (w1.alloc (.map #[] 0)).heap.size = z + 1 := by simp [hz]
      rw [hzz] at h
      exact (h.alloc _).alloc _
    have ho5 : Boxed ((((w1.alloc (.map #[] 0)).alloc (.cells #[.map (some z)] 56)).alloc (.cells #[.slice none 0 0] 27)).alloc (.cells #[.nilFunc] 25)) (z + 1 + 1) 27 (.slice none 0 0) := by
      have h := Boxed.new ((w1.alloc (.map #[] 0)).alloc (.cells #[.map (some z)] 56)) 27 (.slice none 0 0)
      have hzz : ((w1.alloc (.map #[] 0)).alloc (.cells #[.map (some z)] 56)).heap.size = z + 1 + 1 := by simp [hz]
      rw [hzz] at h
      exact h.alloc _
    have hf5 : Boxed ((((w1.alloc (.map #[] 0)).alloc (.cells #[.map (some z)] 56)).alloc (.cells #[.slice none 0 0] 27)).alloc (.cells #[.nilFunc] 25)) (z + 1 + 1 + 1) 25 .nilFunc := by
      have h := Boxed.new (((w1.alloc (.map #[] 0)).alloc (.cells #[.map (some z)] 56)).alloc (.cells #[.slice none 0 0] 27)) 25 .nilFunc
      have hzz : (((w1.alloc (.map #[] 0)).alloc (.cells #[.map (some z)] 56)).alloc (.cells #[.slice none 0 0] 27)).heap.size = z + 1 + 1 + 1 := by simp [hz]
      rw [hzz] at h
      exact h
    have hn5 := HN1.out.gr hgm
    have hg5 := hg1.trans hgm
    generalize ((((w1.alloc (.map #[] 0)).alloc (.cells #[.map (some z)] 56)).alloc (.cells #[.slice none 0 0] 27)).alloc (.cells #[.nilFunc] 25)) = W5 at *
    have c5 := hf5.cell
    have q5 := hf5.frozen
    simp only [run_store_fun, stored, c5, q5, Bool.false_eq_true, if_false]
    obtain ⟨fv, hfv⟩ : ∃ fv, fv = Value.func (.func 28) #[] #[.pointer (some ⟨z + 1, 0, none⟩), .pointer (some ⟨z + 1 + 1, 0, none⟩), .pointer (some ⟨z + 1 + 1 + 1, 0, none⟩)] := ⟨_, rfl⟩
    have hf6 := hf5.set fv
    have hs6 : Boxed (W5.setCell ⟨z + 1 + 1 + 1, 0, none⟩ fv) (z + 1) 56 (.map (some z)) := (heap_set_other (by simp)).trans hs5
    have ho6 : Boxed (W5.setCell ⟨z + 1 + 1 + 1, 0, none⟩ fv) (z + 1 + 1) 27 (.slice none 0 0) := (heap_set_other (by simp)).trans ho5
    have hm6 : MapF (W5.setCell ⟨z + 1 + 1 + 1, 0, none⟩ fv) z 0 (fun _ => .bool false) (.bool false) := hm5.same (heap_set_other (by simp; omega))
    have hn6 : NBox (W5.setCell ⟨z + 1 + 1 + 1, 0, none⟩ fv) w.heap.size v := (heap_set_other (by simp; omega)).trans hn5
    have hg6 : Gr w (W5.setCell ⟨z + 1 + 1 + 1, 0, none⟩ fv) := hg5.setCell (by simp; omega) _
    rw [← hfv]
    generalize (W5.setCell ⟨z + 1 + 1 + 1, 0, none⟩ fv) = W6 at *
    have hst : NSt w.heap.size (z + 1) (z + 1 + 1) (z + 1 + 1 + 1) z 0 [] [] W6 := ⟨hs6, by rw [← hfv]; exact hf6, by simpa using hm6, ⟨.slice none 0 0, ho6, ⟨rfl, .inl ⟨rfl, rfl⟩⟩⟩, by omega, by omega⟩
    have hmk : markedB t = true := by
      have h := HP.out
      unfold properB at h
      simp only [Bool.and_eq_true] at h
      exact h.2
    have hcall := namesC_any w.heap.size (z + 1) (z + 1 + 1) (z + 1 + 1 + 1) z m v t 0 [] W6 (HR.out.lt.gr hg6) hmk hst (by have := HC.out; omega) (Nat.le_refl _) (Below.size hg6)
    obtain ⟨r, hr⟩ : ∃ r, visN t [] = r := ⟨_, rfl⟩
    rw [hr] at hcall
    have hq2 : q = r.elim ([], 8) (fun l => (l.map (fun s => s.drop 1), 0)) := by rw [← HQ.out, namesQ, if_neg (by rw [HP.out]; decide), hr]
    have HQ2 := Lib.hid hq2
    have HCALL := Lib.hid hcall
    have c6 := hf6.cell
    have l6 := hf6.lt
    obtain ⟨k0, k1, k2, k3, k4⟩ := hn6.cells
    have kl := lt_of_block hn6
    have HG6 := Lib.hid hg6
    have HFV := Lib.hid hfv
    rw [hfv] at c6
    clear hm5 hs5 ho5 hf5 hn5 hg5 c5 q5 hs6 ho6 hm6 hn6 hg6 hst hmk hcall hr hq2 hgm hf6 HN1 hg1 hfv hz
    go_wp2_with fail
    refine HCALL.out.mono ?_
    rintro e w7 ⟨rfl, hkn, hst7⟩
    have hg7 : Gr w w7 := (show Below w.heap.size w W6 from HG6.out).trans hkn.2.1
    clear HCALL c6 l6 k0 k1 k2 k3 k4 kl hkn
    cases r with
    | none =>
      have hq3 : q = ([], 8) := HQ2.out
      have HQ3 := Lib.hid hq3
      clear hq3 hst7
      go_wp2_with fail
      go_ret2
      exact ⟨none, 0, 0, by rw [HQ3.out]; rfl, by rw [HQ3.out]; exact RowStr.nil w7, hg7⟩
    | some l =>
      have hq3 : q = (l.map (fun s => s.drop 1), 0) := HQ2.out
      have HQ3 := Lib.hid hq3
      obtain ⟨ov, ho, hw⟩ := (hst7 l rfl).out
      have he : l.map strV = (l.map (fun s => s.drop 1)).map (fun s => Value.string (bs s)) := by rw [List.map_map]; rfl
      have hw2 : w7.ownsRow w.heap.size 9 1 ov (l.map (fun s => s.drop 1)).length ((l.map (fun s => s.drop 1)).map (fun s => .string (bs s))) := by rw [List.length_map, ← he]; exact hw
      obtain ⟨A9, c9, rfl, hrow⟩ := RowStr.of_own hw2
      have HROW := Lib.hid hrow
      have y1 := ho.cell
      have yl := ho.lt
      generalize (l.map (fun s => s.drop 1)) = l2 at *
      clear hq3 hst7 he hw hw2 ho hrow
      go_wp2_with fail
      go_ret2
      exact ⟨A9, _, c9, by rw [HQ3.out]; rfl, by rw [HQ3.out]; exact HROW.out, hg7⟩
end Go.Proofs.Ytbfnmgiccbdglaa
