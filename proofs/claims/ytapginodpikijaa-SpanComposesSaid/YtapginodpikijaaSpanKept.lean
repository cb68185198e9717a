/- The reference's list of kept bytes, walked. -/
import Derived.Test.YtapginodpikijaaSpanBtw
import Derived.Test.YtapginodpikijaaQb
namespace Go.Proofs.Ytapginodpikijaa
open Go.ChangeShapes Go.WideShapes Go.ChangeAt Go.RowKit
open Go.Lib hiding intOf

theorem infoInt : (Try.prog.info? 3).map (fun i => (i.zero, i.size, i.bytes)) = some (some (.int .i64 0), 1, 8) := by kernel_rfl
theorem wf_int {z : Int} (h : -4194304 ≤ z ∧ z ≤ 4194304) : (Lit.int .i64 z).wf = true := by
  have h2 : IntKind.i64.min = -9223372036854775808 := by rfl
  have h3 : IntKind.i64.max = 9223372036854775807 := by rfl
  simp only [Lit.wf, h2, h3, Bool.and_eq_true, decide_eq_true_eq]
  omega
/-- This slice, of the call's own, holds these numbers. -/
def OwnI (w : World) (B : Nat) (v : Value) (zs : List Int) : Prop := w.ownsRow B 3 1 v zs.length (zs.map (Value.int .i64))
theorem IntsAt.of_own {W : World} {B : Nat} {v : Value} {zs : List Int} (hown : OwnI W B v zs) (hs : ∀ z ∈ zs, -4194304 ≤ z ∧ z ≤ 4194304) : ∃ A c, v = .slice A zs.length c ∧ zs.length ≤ c ∧ c ≤ maxLen ∧ IntsAt .i64 W A zs.length zs := by
  have hown' := hown
  rcases hown.2 with ⟨rfl, h0⟩ | ⟨g, cap, cur, rfl, _, hh, hc, hm, _⟩
  · have h0' : zs.length = 0 := h0
    exact ⟨none, 0, by rw [h0'], by omega, Nat.zero_le _, rfl, fun z hz => wf_int (hs z hz), fun h => absurd h (by omega)⟩
  · refine ⟨_, _, rfl, hc, hm, rfl, fun z hz => wf_int (hs z hz), fun _ => ⟨g, 0, rfl, lt_of_block hh, fun i hi => ?_⟩⟩
    have h2 := hown'.cellAt (e := 3) i (by simpa using hi)
    rw [List.getElem?_map, List.getElem?_eq_getElem hi] at h2
    simpa [List.getD, List.getElem?_eq_getElem hi] using h2
def OwnN (w : World) (B : Nat) (v : Value) (n : Nat) (zs : List Int) : Prop := w.ownsRow B 3 1 v n (zs.map (Value.int .i64))
theorem OwnN.len {w : World} {B : Nat} {v : Value} {n : Nat} {zs : List Int} (h : OwnN w B v n zs) : zs.length = n := by
  have := h.1
  simpa using this
theorem OwnN.snoc {w : World} {B : Nat} {v : Value} {n : Nat} {zs zs' : List Int} {z : Int} (h : w.ownsRow B 3 1 v (n + 1) (zs.map (Value.int .i64) ++ [.int .i64 z])) (he : zs' = zs ++ [z]) : OwnN w B v (n + 1) zs' := by
  subst he
  unfold OwnN
  rw [List.map_append]
  exact h
theorem OwnN.to {w : World} {B : Nat} {v : Value} {n : Nat} {zs zs' : List Int} (h : OwnN w B v n zs) (he : zs' = zs) : OwnI w B v zs' := by
  subst he
  have := h.len
  unfold OwnI
  rw [this]
  exact h
theorem OwnI.drewN {w : World} {B : Nat} {v : Value} {zs : List Int} (h : OwnI w B v zs) (n : Nat) : OwnI (w.drewN n) B v zs := own_same h (fun _ _ => rfl)
def slLen : Value → Nat
  | .slice _ n _ => n
  | _ => 0
theorem upto_snoc (o n : Nat) : upto o (n + 1) = upto o n ++ [((o + n : Nat) : Int)] := by
  simp [upto, List.range_succ]
theorem upto_step {zs : List Int} {o a k : Nat} (h : a ≤ k) : zs ++ upto o (k + 1 - a) = (zs ++ upto o (k - a)) ++ [(k : Int) + ((o : Int) - a)] := by
  rw [show k + 1 - a = k - a + 1 from by omega, upto_snoc, List.append_assoc, show (((o + (k - a) : Nat)) : Int) = (k : Int) + ((o : Int) - a) from by omega]
theorem rep_step {zs : List Int} {a k : Nat} (h : a ≤ k) : zs ++ List.replicate (k + 1 - a) (-1 : Int) = (zs ++ List.replicate (k - a) (-1)) ++ [-1] := by
  rw [show k + 1 - a = k - a + 1 from by omega, List.replicate_succ', List.append_assoc]
/-- A loop that appends numbers, up to a length. -/
def FillRel (w : World) (L : Nat → List Int) (lo hi : Nat) (vo : Value) (wr : World) : Prop :=
  ∃ k : Nat, lo ≤ k ∧ k ≤ hi ∧ OwnN wr w.heap.size vo k (L k) ∧ Gr w wr
theorem keptF_bounds (size : Nat) : ∀ (es : List EN) (a o : Nat), Ok size a es → a ≤ size → ∀ z ∈ keptF size a o es, -1 ≤ z ∧ z ≤ (o + (size - a) + texts es : Nat)
  | [], a, o, _, _, z, hz => by
    simp only [keptF, upto, List.mem_map, List.mem_range] at hz
    obtain ⟨j, hj, rfl⟩ := hz
    omega
  | e :: r, a, o, h, ha, z, hz => by
    obtain ⟨h1, h2, h3, h4⟩ := h
    have ht : texts (e :: r) = e.s.length + texts r := by simp [texts]
    rw [keptF, List.mem_append, List.mem_append] at hz
    rcases hz with hz | hz | hz
    · simp only [upto, List.mem_map, List.mem_range] at hz
      obtain ⟨j, hj, rfl⟩ := hz
      omega
    · rw [List.mem_replicate] at hz
      omega
    · have := keptF_bounds size r e.t _ h4 h3 z hz
      omega
def KeptRel (w : World) (size : Nat) (ns : List EN) (vo bv iv : Value) (wr : World) : Prop :=
  ∃ (j a o : Nat) (zs : List Int), j ≤ ns.length ∧ iv = .int .i64 j ∧ bv = .int .i64 ((o : Int) - a) ∧ OwnI wr w.heap.size vo zs ∧ zs.length = a ∧ zs ++ keptF size a o (ns.drop j) = keptF size 0 0 ns ∧ Ok size a (ns.drop j) ∧ a ≤ size ∧ o ≤ a + texts (ns.take j) ∧ Gr w wr
def KeptPost (zs : List Int) (w : World) (e : Ending) (w' : World) : Prop := ∃ A n c, e = .returned (.slice A n c) ∧ n ≤ c ∧ c ≤ maxLen ∧ IntsAt .i64 w' A n zs ∧ Gr w w'
set_option maxRecDepth 100000 in
set_option maxHeartbeats 8000000 in
theorem keptP_ok (size : Nat) (A : Option Addr) (len cap : Nat) (ns : List EN) (w : World) (he : EditsAt w A len (ns.map EN.ed)) (hl : len ≤ 5000) (hok : Ok size 0 ns) (hz : size ≤ 1048576) (ht : texts ns ≤ 1048576) :
    Calls Try.prog 31 #[.slice A len cap, .int .i64 size] w (KeptPost (keptF size 0 0 ns) w) := by
  have hnl : ns.length = len := by have := he.1; simpa using this
  have HE := Lib.hid he
  have HOK := Lib.hid hok
  clear he hok
  obtain ⟨i0, hi, hz0, hz1, hz2⟩ := info_parts infoInt
  go_enter Try.func31, Try.ntmps31
  go_wp2_with fail
  go_loopw [5, 6, 7] (fun vo bv iv wr => KeptRel w size ns vo bv iv wr) (fun _ _ iv _ => len - (intOf iv).toNat)
  case atStart => exact ⟨0, 0, 0, [], Nat.zero_le _, rfl, rfl, World.ownsRow_nil _ _ _ _, rfl, rfl, HOK.out, Nat.zero_le _, Nat.zero_le _, Gr.refl _⟩
  case round =>
    obtain ⟨j, a, o, zs, hj, rfl, rfl, hown, hzl, hkeep, hoka, ha, ho, hG⟩ := hrel
    obtain ⟨A1, c1, rfl⟩ := own_form hown
    have HO := Lib.hid hown
    have HK := Lib.hid hkeep
    have htt := texts_take ns j
    clear hown hkeep
    by_cases hlt : j < len
    · obtain ⟨e, hge⟩ : ∃ e, ns[j]? = some e := ⟨ns[j]'(by omega), List.getElem?_eq_getElem _⟩
      have hdr := drop_at hge
      rw [hdr] at hoka
      obtain ⟨o1, o2, o3, o4⟩ := hoka
      have hadr := HE.out.keep hG
      obtain ⟨b, off, rfl, hb⟩ := hadr.addr hlt
      have hb0 : b < w.heap.size := (HE.out.addr hlt).elim fun b' h => h.elim fun o' h => by cases h.1; exact h.2
      have hte := texts_mem hge
      have HGE := Lib.hid hge
      have HDR := Lib.hid hdr
      have HO4 := Lib.hid o4
      have HZL := Lib.hid hzl
      rw [hzl]
      clear hge hdr o4 hzl hadr
      obtain ⟨wo, rfl⟩ : ∃ wo : World, wo = wr := ⟨_, rfl⟩
      go_wp2_with fail
      go_loopw [5] (fun vo wr => FillRel w (fun k => zs ++ upto o (k - a)) a e.f vo wr) (fun vo _ => e.f - slLen vo)
      case atStart => exact ⟨a, Nat.le_refl _, by omega, by simpa [OwnN, upto, OwnI, HZL.out] using HO.out, by assumption⟩
      case round =>
        obtain ⟨k, hk1, hk2, hoq, hgq⟩ := hrel
        obtain ⟨A2, c2, rfl⟩ := own_form hoq
        have HQ := Lib.hid hoq
        have hw2 := Below.size hgq
        clear hoq
        obtain ⟨d0, d1, d2⟩ := (HE.out.keep hgq).cellsN HGE.out
        have hwb : b < wr.heap.size := Gr.lt hgq hb0
        by_cases hlt2 : k < e.f
        · go_wp2_with (at_builtin; go_must (refine wpList_append_own _ rfl (.tmp 23) (.tmp 28) 59 rfl w.heap.size 3 i0 _ 1 8 Try.underlying59 hi hz0 hz1 hz2 rfl (by decide) _ k _ rfl (HQ.out.alloc _) ⟨wr.heap.size, 0, none⟩ 1 1 [.int .i64 ((k : Int) + ((o : Int) - a))] rfl rfl (news_new (by simp)) (by simp [Value.oneCell']) (by unfold maxLen; omega) (by omega) (by simp; omega) ?_); intro v3 w3 hown3 hgrow3 _)
          have hG3 : Gr w w3 := Gr.grownOwn (hgq.alloc _) hgrow3 (fun k hk => (HQ.out.lt k hk).1)
          have HO3 := Lib.hid (OwnN.snoc hown3 (upto_step hk1))
          obtain ⟨A3, c3, rfl⟩ := own_form hown3
          clear hown3 hgrow3
          go_roundw
          case rel => exact ⟨k + 1, by omega, by omega, HO3.out, hG3⟩
          case measure => simp [slLen]; omega
        · obtain rfl : k = e.f := by omega
          have HQ1 := HQ
          clear HQ
          go_wp2_with fail
          obtain ⟨wo2, rfl⟩ : ∃ wo : World, wo = wr := ⟨_, rfl⟩
          clear d0 d1 d2 HO hw2 hwb
          go_loopw [5] (fun vo wr => FillRel w (fun k => (zs ++ upto o (e.f - a)) ++ List.replicate (k - e.f) (-1)) e.f e.t vo wr) (fun vo _ => e.t - slLen vo)
          case atStart => exact ⟨e.f, Nat.le_refl _, by omega, by simpa [OwnN] using HQ1.out, by assumption⟩
          case round =>
            obtain ⟨k, hk1, hk2, hoq, hgq⟩ := hrel
            obtain ⟨A2, c2, rfl⟩ := own_form hoq
            have HQ := Lib.hid hoq
            have hw2 := Below.size hgq
            clear hoq
            obtain ⟨d0, d1, d2⟩ := (HE.out.keep hgq).cellsN HGE.out
            have hwb : b < wr.heap.size := Gr.lt hgq hb0
            by_cases hlt2 : k < e.t
            · go_wp2_with (at_builtin; go_must (refine wpList_append_own _ rfl (.tmp 39) (.tmp 40) 59 rfl w.heap.size 3 i0 _ 1 8 Try.underlying59 hi hz0 hz1 hz2 rfl (by decide) _ k _ rfl (HQ.out.alloc _) ⟨wr.heap.size, 0, none⟩ 1 1 [.int .i64 (-1)] rfl rfl (news_new (by simp)) (by simp [Value.oneCell']) (by unfold maxLen; omega) (by omega) (by simp; omega) ?_); intro v3 w3 hown3 hgrow3 _)
              have hG3 : Gr w w3 := Gr.grownOwn (hgq.alloc _) hgrow3 (fun k hk => (HQ.out.lt k hk).1)
              have HO3 := Lib.hid (OwnN.snoc hown3 (rep_step hk1))
              obtain ⟨A3, c3, rfl⟩ := own_form hown3
              clear hown3 hgrow3
              go_roundw
              case rel => exact ⟨k + 1, by omega, by omega, HO3.out, hG3⟩
              case measure => simp [slLen]; omega
            · obtain rfl : k = e.t := by omega
              have hz3 := HQ.out.len
              have hes : ((bs e.s).size : Int) = e.s.length := rfl
              have HZ3 := Lib.hid hz3
              clear hz3
              go_wp2_with fail
              go_quiet (fail)
              go_wp2_with fail
              have hts : texts (ns.take (j + 1)) = texts (ns.take j) + e.s.length := by
                rw [take_succ_at HGE.out]
                simp [texts]
              go_roundw
              case rel => exact ⟨j + 1, e.t, o + (e.f - a) + e.s.length, _, by omega, by go_num, by go_num, (HQ.out.to rfl).drewN _, HZ3.out, by rw [← HK.out, HDR.out, keptF]; simp only [List.append_assoc], HO4.out, o3, by omega, hgq.drewN _⟩
              case measure => simp [intOf]; omega
    · have hjn : j = ns.length := by omega
      have hk := HK.out
      rw [hjn, List.drop_length, keptF] at hk
      have HK2 := Lib.hid hk
      have HZL := Lib.hid hzl
      rw [hzl]
      clear hk hjn hzl hoka
      have hob : (o : Int) ≤ 4000000 := by omega
      go_wp2_with fail
      obtain ⟨wo, rfl⟩ : ∃ wo : World, wo = wr := ⟨_, rfl⟩
      go_loopw [5] (fun vo wr => FillRel w (fun k => zs ++ upto o (k - a)) a size vo wr) (fun vo _ => size - slLen vo)
      case atStart => exact ⟨a, Nat.le_refl _, by omega, by simpa [OwnN, upto, OwnI, HZL.out] using HO.out, by assumption⟩
      case round =>
        obtain ⟨k, hk1, hk2, hoq, hgq⟩ := hrel
        obtain ⟨A2, c2, rfl⟩ := own_form hoq
        have HQ := Lib.hid hoq
        have hw2 := Below.size hgq
        clear hoq
        skip
        by_cases hlt2 : k < size
        · go_wp2_with (at_builtin; go_must (refine wpList_append_own _ rfl (.tmp 68) (.tmp 73) 59 rfl w.heap.size 3 i0 _ 1 8 Try.underlying59 hi hz0 hz1 hz2 rfl (by decide) _ k _ rfl (HQ.out.alloc _) ⟨wr.heap.size, 0, none⟩ 1 1 [.int .i64 ((k : Int) + ((o : Int) - a))] rfl rfl (news_new (by simp)) (by simp [Value.oneCell']) (by unfold maxLen; omega) (by omega) (by simp; omega) ?_); intro v3 w3 hown3 hgrow3 _)
          have hG3 : Gr w w3 := Gr.grownOwn (hgq.alloc _) hgrow3 (fun k hk => (HQ.out.lt k hk).1)
          have HO3 := Lib.hid (OwnN.snoc hown3 (upto_step hk1))
          obtain ⟨A3, c3, rfl⟩ := own_form hown3
          clear hown3 hgrow3
          go_roundw
          case rel => exact ⟨k + 1, by omega, by omega, HO3.out, hG3⟩
          case measure => simp [slLen]; omega
        · obtain rfl : size = k := by omega
          go_wp2_with fail
          go_ret
          have hfin := HQ.out.to HK2.out.symm
          have hbd := keptF_bounds size ns 0 0 HOK.out (Nat.zero_le _)
          obtain ⟨A5, c5, hv5, h5, h6, h7⟩ := IntsAt.of_own hfin (fun z hz => by have := hbd z hz; omega)
          have hlz : (keptF size 0 0 ns).length = size := by rw [← HK2.out]; exact HQ.out.len
          rw [hlz] at hv5 h5 h7
          exact ⟨A5, size, c5, congrArg Ending.returned hv5, h5, h6, h7, hgq⟩
end Go.Proofs.Ytapginodpikijaa
