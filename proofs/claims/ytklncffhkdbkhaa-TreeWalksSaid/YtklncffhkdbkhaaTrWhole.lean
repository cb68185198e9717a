/- Whole and Inner of package tree, walked. -/
import Derived.Test.YtklncffhkdbkhaaTrSpan
namespace Go.Proofs.Ytklncffhkdbkhaa
open Go.ChangeShapes Go.WideShapes Go.ChangeAt Go.RowKit

def WholeVal (q : Option (Nat × NT)) : Value := match q with
  | none => .tuple #[.agg #[.int .i64 0, .int .i64 0], .int .i64 7]
  | some (p, t) => .tuple #[.agg #[.int .i64 p, .int .i64 (p + lenF t : Nat)], .int .i64 0]
def InnerVal (q : Option (Nat × NT)) : Value := match q with
  | none => .tuple #[.agg #[.int .i64 0, .int .i64 0], .int .i64 7]
  | some (p, t) => .tuple #[.agg #[.int .i64 (p + t.l.length : Nat), .int .i64 (p + lenF t : Nat)], .int .i64 0]
def VPost (v : Value) (w : World) (e : Ending) (w' : World) : Prop := e = .returned v ∧ Gr w w'
theorem spanF_le : ∀ (zs : List Int) (t : NT) (p q : Nat) (y : NT), spanF t zs p = some (q, y) → p ≤ q ∧ q + lenF y ≤ p + lenF t
  | [], t, p, q, y, h => by
    rw [spanF] at h
    cases h
    omega
  | i :: r, t, p, q, y, h => by
    by_cases hi : 0 ≤ i ∧ i < t.ks.length
    · obtain ⟨k, rfl⟩ := Int.eq_ofNat_of_zero_le hi.1
      have hk : t.ks[k]? = some (t.ks[k]'(by omega)) := List.getElem?_eq_getElem _
      rw [spanF_go hk] at h
      have h1 := spanF_le r _ _ q y h
      have h2 := lenL_at hk
      omega
    · rw [spanF_bad (by omega)] at h
      cases h
set_option maxRecDepth 100000 in
set_option maxHeartbeats 4000000 in
theorem wholeP_any (m0 : Nat) (v : ND) (t0 : NT) (A : Option Addr) (n c : Nat) (zs : List Int) (w : World) (hr : NRep anyB m0 w v t0) (hz : IntsAt .i64 w A n zs) (hn : n ≤ 9223372036854775807) (hl : lenF t0 ≤ 1152921504606846976) : Calls Try.prog 18 #[.agg #[.int .i64 v.k, .string (bs v.l), .string (bs v.x), .slice v.A v.n v.c, .string (bs v.e)], .slice A n c] w (VPost (WholeVal (spanF t0 zs 0)) w) := by
  have hb := fun q y => spanF_le zs t0 0 q y
  have HC : Hid (∀ w', Gr w w' → Calls Try.prog 42 #[.agg #[.int .i64 v.k, .string (bs v.l), .string (bs v.x), .slice v.A v.n v.c, .string (bs v.e)], .slice A n c] w' (SpanPost (spanF t0 zs 0) w')) := Lib.hid (fun w' hg => spanP_any m0 v t0 A n c zs w' (hr.gr hg) (hz.keep hg) hn hl)
  generalize spanF t0 zs 0 = Q at *
  clear hr hz
  cases Q with
  | none =>
    unfold SpanPost SpanVal at HC
    dsimp only at HC
    clear hb
    go_enter Try.func18, Try.ntmps18
    go_wp2_with fail
    refine (HC.out _ (((Gr.refl w).alloc _).alloc _)).mono ?_
    rintro e w1 ⟨rfl, hb1⟩
    obtain ⟨hc1, hf1, hs1⟩ := Gr.cells hb1
    simp at hs1
    have q3 := fun o => hc1 (w.heap.size + 1) o (by simp)
    have q4 := fun o => hf1 (w.heap.size + 1) o (by simp)
    have hlt1 : w.heap.size + 1 < w1.heap.size := by omega
    have r0 : w1.cell? ⟨w.heap.size + 1, 0, none⟩ = some (.int .i64 0) := (q3 0).trans (by simp)
    have r1 : w1.cell? ⟨w.heap.size + 1, 1, none⟩ = some (.int .i64 0) := (q3 1).trans (by simp)
    have r2 : w1.frozen? ⟨w.heap.size + 1, 0, none⟩ = false := (q4 0).trans (by simp)
    have r3 : w1.frozen? ⟨w.heap.size + 1, 1, none⟩ = false := (q4 1).trans (by simp)
    clear hc1 hf1 q3 q4
    go_wp2_with fail
    refine bodyPost_ret (v := WholeVal none) ?_ rfl ⟨rfl, ?_⟩
    · simp [results, Try.results18, go_sem, WholeVal, r0, r1, hlt1]
    · exact (by with_reducible (repeat (first | exact Gr.refl _ | assumption | apply Gr.alloc | apply Gr.drew | apply Gr.drewN | refine Gr.setCell ?_ (by first | (simp; done) | (simp; omega)) _ | refine Gr.trans ?_ (by assumption))))
  | some qy =>
    obtain ⟨q, y⟩ := qy
    obtain ⟨_, hqb⟩ := hb q y rfl
    have hyl := lenF_eq y
    have hx1 : q + y.l.length ≤ 1152921504606846976 := by omega
    unfold SpanPost SpanVal at HC
    dsimp only at HC
    clear hb hyl
    go_enter Try.func18, Try.ntmps18
    go_wp2_with fail
    refine (HC.out _ (((Gr.refl w).alloc _).alloc _)).mono ?_
    rintro e w1 ⟨rfl, hb1⟩
    obtain ⟨hc1, hf1, hs1⟩ := Gr.cells hb1
    simp at hs1
    have q3 := fun o => hc1 (w.heap.size + 1) o (by simp)
    have q4 := fun o => hf1 (w.heap.size + 1) o (by simp)
    have hlt1 : w.heap.size + 1 < w1.heap.size := by omega
    have r0 : w1.cell? ⟨w.heap.size + 1, 0, none⟩ = some (.int .i64 0) := (q3 0).trans (by simp)
    have r1 : w1.cell? ⟨w.heap.size + 1, 1, none⟩ = some (.int .i64 0) := (q3 1).trans (by simp)
    have r2 : w1.frozen? ⟨w.heap.size + 1, 0, none⟩ = false := (q4 0).trans (by simp)
    have r3 : w1.frozen? ⟨w.heap.size + 1, 1, none⟩ = false := (q4 1).trans (by simp)
    clear hc1 hf1 q3 q4
    go_wp2_with fail
    refine bodyPost_ret (v := WholeVal (some (q, y))) ?_ rfl ⟨rfl, ?_⟩
    · simp [results, Try.results18, go_sem, WholeVal, r0, r1, hlt1]
    · exact (by with_reducible (repeat (first | exact Gr.refl _ | assumption | apply Gr.alloc | apply Gr.drew | apply Gr.drewN | refine Gr.setCell ?_ (by first | (simp; done) | (simp; omega)) _ | refine Gr.trans ?_ (by assumption))))
set_option maxRecDepth 100000 in
set_option maxHeartbeats 4000000 in
theorem innerP_any (m0 : Nat) (v : ND) (t0 : NT) (A : Option Addr) (n c : Nat) (zs : List Int) (w : World) (hr : NRep anyB m0 w v t0) (hz : IntsAt .i64 w A n zs) (hn : n ≤ 9223372036854775807) (hl : lenF t0 ≤ 1152921504606846976) : Calls Try.prog 19 #[.agg #[.int .i64 v.k, .string (bs v.l), .string (bs v.x), .slice v.A v.n v.c, .string (bs v.e)], .slice A n c] w (VPost (InnerVal (spanF t0 zs 0)) w) := by
  have hb := fun q y => spanF_le zs t0 0 q y
  have HC : Hid (∀ w', Gr w w' → Calls Try.prog 42 #[.agg #[.int .i64 v.k, .string (bs v.l), .string (bs v.x), .slice v.A v.n v.c, .string (bs v.e)], .slice A n c] w' (SpanPost (spanF t0 zs 0) w')) := Lib.hid (fun w' hg => spanP_any m0 v t0 A n c zs w' (hr.gr hg) (hz.keep hg) hn hl)
  generalize spanF t0 zs 0 = Q at *
  clear hr hz
  cases Q with
  | none =>
    unfold SpanPost SpanVal at HC
    dsimp only at HC
    clear hb
    go_enter Try.func19, Try.ntmps19
    go_wp2_with fail
    refine (HC.out _ (((Gr.refl w).alloc _).alloc _)).mono ?_
    rintro e w1 ⟨rfl, hb1⟩
    obtain ⟨hc1, hf1, hs1⟩ := Gr.cells hb1
    simp at hs1
    have q3 := fun o => hc1 (w.heap.size + 1) o (by simp)
    have q4 := fun o => hf1 (w.heap.size + 1) o (by simp)
    have hlt1 : w.heap.size + 1 < w1.heap.size := by omega
    have r0 : w1.cell? ⟨w.heap.size + 1, 0, none⟩ = some (.int .i64 0) := (q3 0).trans (by simp)
    have r1 : w1.cell? ⟨w.heap.size + 1, 1, none⟩ = some (.int .i64 0) := (q3 1).trans (by simp)
    have r2 : w1.frozen? ⟨w.heap.size + 1, 0, none⟩ = false := (q4 0).trans (by simp)
    have r3 : w1.frozen? ⟨w.heap.size + 1, 1, none⟩ = false := (q4 1).trans (by simp)
    clear hc1 hf1 q3 q4
    go_wp2_with fail
    refine bodyPost_ret (v := InnerVal none) ?_ rfl ⟨rfl, ?_⟩
    · simp [results, Try.results19, go_sem, InnerVal, r0, r1, hlt1]
    · exact (by with_reducible (repeat (first | exact Gr.refl _ | assumption | apply Gr.alloc | apply Gr.drew | apply Gr.drewN | refine Gr.setCell ?_ (by first | (simp; done) | (simp; omega)) _ | refine Gr.trans ?_ (by assumption))))
  | some qy =>
    obtain ⟨q, y⟩ := qy
    obtain ⟨_, hqb⟩ := hb q y rfl
    have hyl := lenF_eq y
    have hx1 : q + y.l.length ≤ 1152921504606846976 := by omega
    unfold SpanPost SpanVal at HC
    dsimp only at HC
    clear hb hyl
    go_enter Try.func19, Try.ntmps19
    go_wp2_with fail
    refine (HC.out _ (((Gr.refl w).alloc _).alloc _)).mono ?_
    rintro e w1 ⟨rfl, hb1⟩
    obtain ⟨hc1, hf1, hs1⟩ := Gr.cells hb1
    simp at hs1
    have q3 := fun o => hc1 (w.heap.size + 1) o (by simp)
    have q4 := fun o => hf1 (w.heap.size + 1) o (by simp)
    have hlt1 : w.heap.size + 1 < w1.heap.size := by omega
    have r0 : w1.cell? ⟨w.heap.size + 1, 0, none⟩ = some (.int .i64 0) := (q3 0).trans (by simp)
    have r1 : w1.cell? ⟨w.heap.size + 1, 1, none⟩ = some (.int .i64 0) := (q3 1).trans (by simp)
    have r2 : w1.frozen? ⟨w.heap.size + 1, 0, none⟩ = false := (q4 0).trans (by simp)
    have r3 : w1.frozen? ⟨w.heap.size + 1, 1, none⟩ = false := (q4 1).trans (by simp)
    clear hc1 hf1 q3 q4
    go_wp2_with fail
    refine bodyPost_ret (v := InnerVal (some (q, y))) ?_ rfl ⟨rfl, ?_⟩
    · simp [results, Try.results19, go_sem, InnerVal, r0, r1, hlt1]
    · exact (by with_reducible (repeat (first | exact Gr.refl _ | assumption | apply Gr.alloc | apply Gr.drew | apply Gr.drewN | refine Gr.setCell ?_ (by first | (simp; done) | (simp; omega)) _ | refine Gr.trans ?_ (by assumption))))
end Go.Proofs.Ytklncffhkdbkhaa
