/- What the drawn regions of the reference's visit have made. -/
import Derived.Test.YtbfnmgiccbdglaaAnRVis
namespace Go.Proofs.Ytbfnmgiccbdglaa
open Go.ChangeShapes Go.WideShapes Go.ChangeAt Go.RowKit

theorem upV_same {u : Nat → Value} {d s : Nat} {v : Value} (h : d = s) : upV u d v s = v := by unfold upV; rw [if_pos h.symm]
theorem upV_else {u : Nat → Value} {d s : Nat} {v : Value} (h : d ≠ s) : upV u d v s = u s := by unfold upV; rw [if_neg (Ne.symm h)]
def PPof (P : Nat → Prop) (b11 : Bool) (v11 : Value) (b12 : Bool) (v12 : Value) : Nat → Prop := fun b => P b ∧ (b11 = true → v11 ≠ .pointer (some ⟨b, 0, none⟩)) ∧ (b12 = true → v12 ≠ .pointer (some ⟨b, 0, none⟩))
theorem ptr_ne {a b : Nat} (h : b < a) : Value.pointer (some ⟨a, 0, none⟩) ≠ Value.pointer (some ⟨b, 0, none⟩) := fun e => by
  simp only [Value.pointer.injEq, Option.some.injEq, Addr.mk.injEq] at e
  omega
structure W15 (P : Nat → Prop) (W0 : World) (L : U5) (q : RSt × NT × Int) (B : Nat → Bool) (u : Nat → Value) (W : World) : Prop where
  gr0 : Gr W0 W
  l13 : B 13 = true → B 11 = true
  l14 : B 14 = true → B 12 = true
  c6 : B 6 = true → ∃ a' v', u 71 = .tuple #[.agg #[.int .i64 L.d, .int .i64 L.n, .int .i64 L.b, .int .i64 L.a, .int .i64 L.x, .slice a'.A1 a'.n1 a'.c1, .slice a'.A2 a'.n2 a'.c2, .int .i64 q.1.u.d, .int .i64 q.1.u.n, .int .i64 q.1.u.b, .int .i64 q.1.u.a, .int .i64 q.1.u.x, .int .i64 q.1.err], .agg #[.int .i64 v'.k, .string (bs v'.l), .string (bs v'.x), .slice v'.A v'.n v'.c, .string (bs v'.e)], .int .i64 q.2.2] ∧ SRep (PPof P (B 11) (u 11) (B 12) (u 12)) W q.1 a' ∧ NR (PPof P (B 11) (u 11) (B 12) (u 12)) W v' q.2.1
  c7 : B 7 = true → ∃ a' v', u 64 = .tuple #[.agg #[.int .i64 L.d, .int .i64 L.n, .int .i64 L.b, .int .i64 L.a, .int .i64 L.x, .slice a'.A1 a'.n1 a'.c1, .slice a'.A2 a'.n2 a'.c2, .int .i64 q.1.u.d, .int .i64 q.1.u.n, .int .i64 q.1.u.b, .int .i64 q.1.u.a, .int .i64 q.1.u.x, .int .i64 q.1.err], .agg #[.int .i64 v'.k, .string (bs v'.l), .string (bs v'.x), .slice v'.A v'.n v'.c, .string (bs v'.e)], .int .i64 q.2.2] ∧ SRep (PPof P (B 11) (u 11) (B 12) (u 12)) W q.1 a' ∧ NR (PPof P (B 11) (u 11) (B 12) (u 12)) W v' q.2.1
  c8 : B 8 = true → ∃ a', u 72 = .agg #[.int .i64 L.d, .int .i64 L.n, .int .i64 L.b, .int .i64 L.a, .int .i64 L.x, .slice a'.A1 a'.n1 a'.c1, .slice a'.A2 a'.n2 a'.c2, .int .i64 q.1.u.d, .int .i64 q.1.u.n, .int .i64 q.1.u.b, .int .i64 q.1.u.a, .int .i64 q.1.u.x, .int .i64 q.1.err] ∧ SRep (PPof P (B 11) (u 11) (B 12) (u 12)) W q.1 a'
  c9 : B 9 = true → ∃ v', u 73 = .agg #[.int .i64 v'.k, .string (bs v'.l), .string (bs v'.x), .slice v'.A v'.n v'.c, .string (bs v'.e)] ∧ NR (PPof P (B 11) (u 11) (B 12) (u 12)) W v' q.2.1
  c11 : B 11 = true → ∃ k, W0.heap.size ≤ k ∧ u 11 = .pointer (some ⟨k, 0, none⟩) ∧ k < W.heap.size ∧ (B 13 = false → W.heap[k]? = some (.cells #[.int .i64 0, .int .i64 0, .int .i64 0, .int .i64 0, .int .i64 0, .slice none 0 0, .slice none 0 0, .int .i64 0, .int .i64 0, .int .i64 0, .int .i64 0, .int .i64 0, .int .i64 0] 68 (0, 0))) ∧ (B 13 = true → ∃ a', W.heap[k]? = some (.cells #[.int .i64 L.d, .int .i64 L.n, .int .i64 L.b, .int .i64 L.a, .int .i64 L.x, .slice a'.A1 a'.n1 a'.c1, .slice a'.A2 a'.n2 a'.c2, .int .i64 q.1.u.d, .int .i64 q.1.u.n, .int .i64 q.1.u.b, .int .i64 q.1.u.a, .int .i64 q.1.u.x, .int .i64 q.1.err] 68 (0, 0)) ∧ SRep (PPof P (B 11) (u 11) (B 12) (u 12)) W q.1 a')
  c12 : B 12 = true → ∃ k, W0.heap.size ≤ k ∧ u 12 = .pointer (some ⟨k, 0, none⟩) ∧ k < W.heap.size ∧ (B 14 = false → W.heap[k]? = some (.cells #[.int .i64 0, .string ⟨#[]⟩, .string ⟨#[]⟩, .slice none 0 0, .string ⟨#[]⟩] 24 (0, 0))) ∧ (B 14 = true → ∃ v', W.heap[k]? = some (.cells #[.int .i64 v'.k, .string (bs v'.l), .string (bs v'.x), .slice v'.A v'.n v'.c, .string (bs v'.e)] 24 (0, 0)) ∧ NR (PPof P (B 11) (u 11) (B 12) (u 12)) W v' q.2.1)
theorem W15.start {P : Nat → Prop} {W0 W : World} {L : U5} {q : RSt × NT × Int} {u : Nat → Value} (hg : Gr W0 W) : W15 P W0 L q (fun _ => false) u W :=
  ⟨hg, (fun h => by cases h), (fun h => by cases h), (fun h => by cases h), (fun h => by cases h), (fun h => by cases h), (fun h => by cases h), (fun h => by cases h), (fun h => by cases h)⟩
theorem W15.ppn {P : Nat → Prop} {W0 W : World} {L : U5} {q : RSt × NT × Int} {B : Nat → Bool} {u : Nat → Value} (h : W15 P W0 L q B u W) {b : Nat} (hb : W.heap.size ≤ b) (hp : P b) : (PPof P (B 11) (u 11) (B 12) (u 12)) b := by
  refine ⟨hp, fun hx he => ?_, fun hx he => ?_⟩
  · obtain ⟨k, _, q2, q3, _⟩ := h.c11 hx
    rw [q2] at he
    exact ptr_ne (show k < b by omega) he.symm
  · obtain ⟨k, _, q2, q3, _⟩ := h.c12 hx
    rw [q2] at he
    exact ptr_ne (show k < b by omega) he.symm
theorem W15.ppo {P : Nat → Prop} {W0 W : World} {L : U5} {q : RSt × NT × Int} {B : Nat → Bool} {u : Nat → Value} (h : W15 P W0 L q B u W) {b : Nat} (hb : b < W0.heap.size) (hp : P b) : (PPof P (B 11) (u 11) (B 12) (u 12)) b := by
  refine ⟨hp, fun hx he => ?_, fun hx he => ?_⟩
  · obtain ⟨k, q1, q2, _⟩ := h.c11 hx
    rw [q2] at he
    exact ptr_ne (show b < k by omega) he
  · obtain ⟨k, q1, q2, _⟩ := h.c12 hx
    rw [q2] at he
    exact ptr_ne (show b < k by omega) he
theorem W15.step {P : Nat → Prop} {W0 W W' : World} {L : U5} {q : RSt × NT × Int} {B : Nat → Bool} {u : Nat → Value} (h : W15 P W0 L q B u W) (hg : Gr W W') {i d : Nat} {v : Value} (hi : i ≠ 11 ∧ i ≠ 12 ∧ i ≠ 13 ∧ i ≠ 14) (hd : d ≠ 11 ∧ d ≠ 12)
    (n6 : (i = 6 ∧ d = 71 ∧ ∃ a' v', v = .tuple #[.agg #[.int .i64 L.d, .int .i64 L.n, .int .i64 L.b, .int .i64 L.a, .int .i64 L.x, .slice a'.A1 a'.n1 a'.c1, .slice a'.A2 a'.n2 a'.c2, .int .i64 q.1.u.d, .int .i64 q.1.u.n, .int .i64 q.1.u.b, .int .i64 q.1.u.a, .int .i64 q.1.u.x, .int .i64 q.1.err], .agg #[.int .i64 v'.k, .string (bs v'.l), .string (bs v'.x), .slice v'.A v'.n v'.c, .string (bs v'.e)], .int .i64 q.2.2] ∧ SRep (PPof P (B 11) (u 11) (B 12) (u 12)) W' q.1 a' ∧ NR (PPof P (B 11) (u 11) (B 12) (u 12)) W' v' q.2.1) ∨ (i ≠ 6 ∧ d ≠ 71)) (n7 : (i = 7 ∧ d = 64 ∧ ∃ a' v', v = .tuple #[.agg #[.int .i64 L.d, .int .i64 L.n, .int .i64 L.b, .int .i64 L.a, .int .i64 L.x, .slice a'.A1 a'.n1 a'.c1, .slice a'.A2 a'.n2 a'.c2, .int .i64 q.1.u.d, .int .i64 q.1.u.n, .int .i64 q.1.u.b, .int .i64 q.1.u.a, .int .i64 q.1.u.x, .int .i64 q.1.err], .agg #[.int .i64 v'.k, .string (bs v'.l), .string (bs v'.x), .slice v'.A v'.n v'.c, .string (bs v'.e)], .int .i64 q.2.2] ∧ SRep (PPof P (B 11) (u 11) (B 12) (u 12)) W' q.1 a' ∧ NR (PPof P (B 11) (u 11) (B 12) (u 12)) W' v' q.2.1) ∨ (i ≠ 7 ∧ d ≠ 64)) (n8 : (i = 8 ∧ d = 72 ∧ ∃ a', v = .agg #[.int .i64 L.d, .int .i64 L.n, .int .i64 L.b, .int .i64 L.a, .int .i64 L.x, .slice a'.A1 a'.n1 a'.c1, .slice a'.A2 a'.n2 a'.c2, .int .i64 q.1.u.d, .int .i64 q.1.u.n, .int .i64 q.1.u.b, .int .i64 q.1.u.a, .int .i64 q.1.u.x, .int .i64 q.1.err] ∧ SRep (PPof P (B 11) (u 11) (B 12) (u 12)) W' q.1 a') ∨ (i ≠ 8 ∧ d ≠ 72)) (n9 : (i = 9 ∧ d = 73 ∧ ∃ v', v = .agg #[.int .i64 v'.k, .string (bs v'.l), .string (bs v'.x), .slice v'.A v'.n v'.c, .string (bs v'.e)] ∧ NR (PPof P (B 11) (u 11) (B 12) (u 12)) W' v' q.2.1) ∨ (i ≠ 9 ∧ d ≠ 73)) : W15 P W0 L q (upB B i) (upV u d v) W' := by
  have e11 : upB B i 11 = B 11 := upB_ne (Ne.symm hi.1)
  have e12 : upB B i 12 = B 12 := upB_ne (Ne.symm hi.2.1)
  have e13 : upB B i 13 = B 13 := upB_ne (Ne.symm hi.2.2.1)
  have e14 : upB B i 14 = B 14 := upB_ne (Ne.symm hi.2.2.2)
  have f11 : upV u d v 11 = u 11 := upV_else hd.1
  have f12 : upV u d v 12 = u 12 := upV_else hd.2
  refine ⟨h.gr0.trans hg, by rw [e13, e11]; exact h.l13, by rw [e14, e12]; exact h.l14, fun hx => ?_, fun hx => ?_, fun hx => ?_, fun hx => ?_, fun hx => ?_, fun hx => ?_⟩
  · rw [e11, f11, e12, f12]
    rcases n6 with ⟨_, hd, a', v', hv, hs, hn⟩ | ⟨hi, hd⟩
    · exact ⟨a', v', (upV_same hd).trans hv, hs, hn⟩
    · rw [upB_ne (Ne.symm hi)] at hx
      obtain ⟨a', v', he, hs, hn⟩ := h.c6 hx
      exact ⟨a', v', (upV_else hd).trans he, hs.on (hg.on _), hn.on (hg.on _)⟩
  · rw [e11, f11, e12, f12]
    rcases n7 with ⟨_, hd, a', v', hv, hs, hn⟩ | ⟨hi, hd⟩
    · exact ⟨a', v', (upV_same hd).trans hv, hs, hn⟩
    · rw [upB_ne (Ne.symm hi)] at hx
      obtain ⟨a', v', he, hs, hn⟩ := h.c7 hx
      exact ⟨a', v', (upV_else hd).trans he, hs.on (hg.on _), hn.on (hg.on _)⟩
  · rw [e11, f11, e12, f12]
    rcases n8 with ⟨_, hd, a', hv, hs⟩ | ⟨hi, hd⟩
    · exact ⟨a', (upV_same hd).trans hv, hs⟩
    · rw [upB_ne (Ne.symm hi)] at hx
      obtain ⟨a', he, hs⟩ := h.c8 hx
      exact ⟨a', (upV_else hd).trans he, hs.on (hg.on _)⟩
  · rw [e11, f11, e12, f12]
    rcases n9 with ⟨_, hd, a', hv, hs⟩ | ⟨hi, hd⟩
    · exact ⟨a', (upV_same hd).trans hv, hs⟩
    · rw [upB_ne (Ne.symm hi)] at hx
      obtain ⟨a', he, hs⟩ := h.c9 hx
      exact ⟨a', (upV_else hd).trans he, hs.on (hg.on _)⟩
  · rw [e11] at hx
    rw [e11, f11, e12, f12, e13]
    obtain ⟨k, q1, q2, q3, q4, q5⟩ := h.c11 hx
    exact ⟨k, q1, q2, Gr.lt hg q3, fun hy => (hg.block k q3).trans (q4 hy), fun hy => by
      obtain ⟨a', x1, x2⟩ := q5 hy
      exact ⟨a', (hg.block k q3).trans x1, x2.on (hg.on _)⟩⟩
  · rw [e12] at hx
    rw [e11, f11, e12, f12, e14]
    obtain ⟨k, q1, q2, q3, q4, q5⟩ := h.c12 hx
    exact ⟨k, q1, q2, Gr.lt hg q3, fun hy => (hg.block k q3).trans (q4 hy), fun hy => by
      obtain ⟨a', x1, x2⟩ := q5 hy
      exact ⟨a', (hg.block k q3).trans x1, x2.on (hg.on _)⟩⟩
theorem W15.other {P : Nat → Prop} {W0 W W' : World} {L : U5} {q : RSt × NT × Int} {B : Nat → Bool} {u : Nat → Value} (h : W15 P W0 L q B u W) (hg : Gr W W') {i d : Nat} {v : Value} (hi : i ≠ 11 ∧ i ≠ 12 ∧ i ≠ 13 ∧ i ≠ 14) (hd : d ≠ 11 ∧ d ≠ 12) (h6 : i ≠ 6 ∧ i ≠ 7 ∧ i ≠ 8 ∧ i ≠ 9) (h71 : d ≠ 71 ∧ d ≠ 64 ∧ d ≠ 72 ∧ d ≠ 73) : W15 P W0 L q (upB B i) (upV u d v) W' :=
  h.step hg hi hd (.inr ⟨h6.1, h71.1⟩) (.inr ⟨h6.2.1, h71.2.1⟩) (.inr ⟨h6.2.2.1, h71.2.2.1⟩) (.inr ⟨h6.2.2.2, h71.2.2.2⟩)
theorem W15.al11 {P : Nat → Prop} {W0 W : World} {L : U5} {q : RSt × NT × Int} {B : Nat → Bool} {u : Nat → Value} (h : W15 P W0 L q B u W) (h0 : B 11 = false) : W15 P W0 L q (upB B 11) (upV u 11 (.pointer (some ⟨W.heap.size, 0, none⟩))) (W.alloc (.cells #[.int .i64 0, .int .i64 0, .int .i64 0, .int .i64 0, .int .i64 0, .slice none 0 0, .slice none 0 0, .int .i64 0, .int .i64 0, .int .i64 0, .int .i64 0, .int .i64 0, .int .i64 0] 68)) := by
  have hst : B 13 = false := by
    cases hx : B 13 with
    | false => rfl
    | true => have := h.l13 hx; rw [h0] at this; cases this
  have ei : upB B 11 11 = true := upB_at
  have eo : upB B 11 12 = B 12 := upB_ne (by decide)
  have e13 : upB B 11 13 = B 13 := upB_ne (by decide)
  have e14 : upB B 11 14 = B 14 := upB_ne (by decide)
  have fi : upV u 11 (.pointer (some ⟨W.heap.size, 0, none⟩)) 11 = .pointer (some ⟨W.heap.size, 0, none⟩) := upV_same rfl
  have fo : ∀ d, d ≠ 11 → upV u 11 (.pointer (some ⟨W.heap.size, 0, none⟩)) d = u d := fun d hd => upV_else (Ne.symm hd)
  have hg : Gr W (W.alloc (.cells #[.int .i64 0, .int .i64 0, .int .i64 0, .int .i64 0, .int .i64 0, .slice none 0 0, .slice none 0 0, .int .i64 0, .int .i64 0, .int .i64 0, .int .i64 0, .int .i64 0, .int .i64 0] 68)) := (Gr.refl W).alloc _
  have hf : ∀ b, (PPof P (B 11) (u 11) (B 12) (u 12)) b → b < W.heap.size → PPof P (upB B 11 11) (upV u 11 (.pointer (some ⟨W.heap.size, 0, none⟩)) 11) (upB B 11 12) (upV u 11 (.pointer (some ⟨W.heap.size, 0, none⟩)) 12) b := fun b hb hl => by
    rw [ei, fi, eo, fo 12 (by decide)]
    exact ⟨hb.1, fun _ => ptr_ne hl, hb.2.2⟩
  refine ⟨h.gr0.trans hg, (by rw [e13]; exact fun hx => (by rw [hst] at hx; cases hx)), (by rw [e14]; exact fun hx => (by rw [eo]; exact h.l14 hx)), fun hx => ?_, fun hx => ?_, fun hx => ?_, fun hx => ?_, fun hx => ?_, fun hx => ?_⟩
  · rw [upB_ne (by decide)] at hx
    obtain ⟨a', v', he, hs, hn⟩ := h.c6 hx
    exact ⟨a', v', (fo 71 (by decide)).trans he, (hs.fence hf).on (hg.on _), (hn.fence hf).on (hg.on _)⟩
  · rw [upB_ne (by decide)] at hx
    obtain ⟨a', v', he, hs, hn⟩ := h.c7 hx
    exact ⟨a', v', (fo 64 (by decide)).trans he, (hs.fence hf).on (hg.on _), (hn.fence hf).on (hg.on _)⟩
  · rw [upB_ne (by decide)] at hx
    obtain ⟨a', he, hs⟩ := h.c8 hx
    exact ⟨a', (fo 72 (by decide)).trans he, (hs.fence hf).on (hg.on _)⟩
  · rw [upB_ne (by decide)] at hx
    obtain ⟨a', he, hs⟩ := h.c9 hx
    exact ⟨a', (fo 73 (by decide)).trans he, (hs.fence hf).on (hg.on _)⟩
  · refine ⟨W.heap.size, Below.size h.gr0, fi, by simp, fun _ => heap_alloc_new _ _, fun hy => ?_⟩
    rw [e13, hst] at hy
    cases hy
  · rw [eo] at hx
    obtain ⟨k, q1, q2, q3, q4, q5⟩ := h.c12 hx
    refine ⟨k, q1, (fo 12 (by decide)).trans q2, Gr.lt hg q3, fun hy => ?_, fun hy => ?_⟩
    · rw [e14] at hy
      exact (hg.block k q3).trans (q4 hy)
    · rw [e14] at hy
      obtain ⟨a', x1, x2⟩ := q5 hy
      exact ⟨a', (hg.block k q3).trans x1, (x2.fence hf).on (hg.on _)⟩
theorem W15.al12 {P : Nat → Prop} {W0 W : World} {L : U5} {q : RSt × NT × Int} {B : Nat → Bool} {u : Nat → Value} (h : W15 P W0 L q B u W) (h0 : B 12 = false) : W15 P W0 L q (upB B 12) (upV u 12 (.pointer (some ⟨W.heap.size, 0, none⟩))) (W.alloc (.cells #[.int .i64 0, .string ⟨#[]⟩, .string ⟨#[]⟩, .slice none 0 0, .string ⟨#[]⟩] 24)) := by
  have hst : B 14 = false := by
    cases hx : B 14 with
    | false => rfl
    | true => have := h.l14 hx; rw [h0] at this; cases this
  have ei : upB B 12 12 = true := upB_at
  have eo : upB B 12 11 = B 11 := upB_ne (by decide)
  have e13 : upB B 12 13 = B 13 := upB_ne (by decide)
  have e14 : upB B 12 14 = B 14 := upB_ne (by decide)
  have fi : upV u 12 (.pointer (some ⟨W.heap.size, 0, none⟩)) 12 = .pointer (some ⟨W.heap.size, 0, none⟩) := upV_same rfl
  have fo : ∀ d, d ≠ 12 → upV u 12 (.pointer (some ⟨W.heap.size, 0, none⟩)) d = u d := fun d hd => upV_else (Ne.symm hd)
  have hg : Gr W (W.alloc (.cells #[.int .i64 0, .string ⟨#[]⟩, .string ⟨#[]⟩, .slice none 0 0, .string ⟨#[]⟩] 24)) := (Gr.refl W).alloc _
  have hf : ∀ b, (PPof P (B 11) (u 11) (B 12) (u 12)) b → b < W.heap.size → PPof P (upB B 12 11) (upV u 12 (.pointer (some ⟨W.heap.size, 0, none⟩)) 11) (upB B 12 12) (upV u 12 (.pointer (some ⟨W.heap.size, 0, none⟩)) 12) b := fun b hb hl => by
    rw [ei, fi, eo, fo 11 (by decide)]
    exact ⟨hb.1, hb.2.1, fun _ => ptr_ne hl⟩
  refine ⟨h.gr0.trans hg, (by rw [e13]; exact fun hx => (by rw [eo]; exact h.l13 hx)), (by rw [e14]; exact fun hx => (by rw [hst] at hx; cases hx)), fun hx => ?_, fun hx => ?_, fun hx => ?_, fun hx => ?_, fun hx => ?_, fun hx => ?_⟩
  · rw [upB_ne (by decide)] at hx
    obtain ⟨a', v', he, hs, hn⟩ := h.c6 hx
    exact ⟨a', v', (fo 71 (by decide)).trans he, (hs.fence hf).on (hg.on _), (hn.fence hf).on (hg.on _)⟩
  · rw [upB_ne (by decide)] at hx
    obtain ⟨a', v', he, hs, hn⟩ := h.c7 hx
    exact ⟨a', v', (fo 64 (by decide)).trans he, (hs.fence hf).on (hg.on _), (hn.fence hf).on (hg.on _)⟩
  · rw [upB_ne (by decide)] at hx
    obtain ⟨a', he, hs⟩ := h.c8 hx
    exact ⟨a', (fo 72 (by decide)).trans he, (hs.fence hf).on (hg.on _)⟩
  · rw [upB_ne (by decide)] at hx
    obtain ⟨a', he, hs⟩ := h.c9 hx
    exact ⟨a', (fo 73 (by decide)).trans he, (hs.fence hf).on (hg.on _)⟩
  · rw [eo] at hx
    obtain ⟨k, q1, q2, q3, q4, q5⟩ := h.c11 hx
    refine ⟨k, q1, (fo 11 (by decide)).trans q2, Gr.lt hg q3, fun hy => ?_, fun hy => ?_⟩
    · rw [e13] at hy
      exact (hg.block k q3).trans (q4 hy)
    · rw [e13] at hy
      obtain ⟨a', x1, x2⟩ := q5 hy
      exact ⟨a', (hg.block k q3).trans x1, (x2.fence hf).on (hg.on _)⟩
  · refine ⟨W.heap.size, Below.size h.gr0, fi, by simp, fun _ => heap_alloc_new _ _, fun hy => ?_⟩
    rw [e14, hst] at hy
    cases hy
theorem W15.st13 {P : Nat → Prop} {W0 W : World} {L : U5} {q : RSt × NT × Int} {B : Nat → Bool} {u : Nat → Value} (h : W15 P W0 L q B u W) (_h0 : B 13 = false) (hal : B 11 = true) {k : Nat} {a' : SV} (hk : W0.heap.size ≤ k) (hu : u 11 = .pointer (some ⟨k, 0, none⟩)) (hz : W.heap[k]? = some (.cells #[.int .i64 0, .int .i64 0, .int .i64 0, .int .i64 0, .int .i64 0, .slice none 0 0, .slice none 0 0, .int .i64 0, .int .i64 0, .int .i64 0, .int .i64 0, .int .i64 0, .int .i64 0] 68 (0, 0))) (hr : SRep (PPof P (B 11) (u 11) (B 12) (u 12)) W q.1 a') : W15 P W0 L q (upB B 13) u (((((((((((((W.setCell ⟨k, 0, none⟩ (.int .i64 L.d)).setCell ⟨k, 1, none⟩ (.int .i64 L.n)).setCell ⟨k, 2, none⟩ (.int .i64 L.b)).setCell ⟨k, 3, none⟩ (.int .i64 L.a)).setCell ⟨k, 4, none⟩ (.int .i64 L.x)).setCell ⟨k, 5, none⟩ (.slice a'.A1 a'.n1 a'.c1)).setCell ⟨k, 6, none⟩ (.slice a'.A2 a'.n2 a'.c2)).setCell ⟨k, 7, none⟩ (.int .i64 q.1.u.d)).setCell ⟨k, 8, none⟩ (.int .i64 q.1.u.n)).setCell ⟨k, 9, none⟩ (.int .i64 q.1.u.b)).setCell ⟨k, 10, none⟩ (.int .i64 q.1.u.a)).setCell ⟨k, 11, none⟩ (.int .i64 q.1.u.x)).setCell ⟨k, 12, none⟩ (.int .i64 q.1.err)) := by
  have e11 : upB B 13 11 = B 11 := upB_ne (by decide)
  have e12 : upB B 13 12 = B 12 := upB_ne (by decide)
  have eo : upB B 13 14 = B 14 := upB_ne (by decide)
  have ho : Off [k] W (((((((((((((W.setCell ⟨k, 0, none⟩ (.int .i64 L.d)).setCell ⟨k, 1, none⟩ (.int .i64 L.n)).setCell ⟨k, 2, none⟩ (.int .i64 L.b)).setCell ⟨k, 3, none⟩ (.int .i64 L.a)).setCell ⟨k, 4, none⟩ (.int .i64 L.x)).setCell ⟨k, 5, none⟩ (.slice a'.A1 a'.n1 a'.c1)).setCell ⟨k, 6, none⟩ (.slice a'.A2 a'.n2 a'.c2)).setCell ⟨k, 7, none⟩ (.int .i64 q.1.u.d)).setCell ⟨k, 8, none⟩ (.int .i64 q.1.u.n)).setCell ⟨k, 9, none⟩ (.int .i64 q.1.u.b)).setCell ⟨k, 10, none⟩ (.int .i64 q.1.u.a)).setCell ⟨k, 11, none⟩ (.int .i64 q.1.u.x)).setCell ⟨k, 12, none⟩ (.int .i64 q.1.err)) := (Off.set (Off.set (Off.set (Off.set (Off.set (Off.set (Off.set (Off.set (Off.set (Off.set (Off.set (Off.set (Off.set (Off.refl _ _) (by simp) _) (by simp) _) (by simp) _) (by simp) _) (by simp) _) (by simp) _) (by simp) _) (by simp) _) (by simp) _) (by simp) _) (by simp) _) (by simp) _) (by simp) _)
  have hon : SameOn (PPof P (B 11) (u 11) (B 12) (u 12)) W (((((((((((((W.setCell ⟨k, 0, none⟩ (.int .i64 L.d)).setCell ⟨k, 1, none⟩ (.int .i64 L.n)).setCell ⟨k, 2, none⟩ (.int .i64 L.b)).setCell ⟨k, 3, none⟩ (.int .i64 L.a)).setCell ⟨k, 4, none⟩ (.int .i64 L.x)).setCell ⟨k, 5, none⟩ (.slice a'.A1 a'.n1 a'.c1)).setCell ⟨k, 6, none⟩ (.slice a'.A2 a'.n2 a'.c2)).setCell ⟨k, 7, none⟩ (.int .i64 q.1.u.d)).setCell ⟨k, 8, none⟩ (.int .i64 q.1.u.n)).setCell ⟨k, 9, none⟩ (.int .i64 q.1.u.b)).setCell ⟨k, 10, none⟩ (.int .i64 q.1.u.a)).setCell ⟨k, 11, none⟩ (.int .i64 q.1.u.x)).setCell ⟨k, 12, none⟩ (.int .i64 q.1.err)) := ho.on (fun b hb hm => by
    rw [List.mem_singleton] at hm
    subst hm
    exact hb.2.1 hal hu)
  have hsz : ∀ j, j < W.heap.size → j < (((((((((((((W.setCell ⟨k, 0, none⟩ (.int .i64 L.d)).setCell ⟨k, 1, none⟩ (.int .i64 L.n)).setCell ⟨k, 2, none⟩ (.int .i64 L.b)).setCell ⟨k, 3, none⟩ (.int .i64 L.a)).setCell ⟨k, 4, none⟩ (.int .i64 L.x)).setCell ⟨k, 5, none⟩ (.slice a'.A1 a'.n1 a'.c1)).setCell ⟨k, 6, none⟩ (.slice a'.A2 a'.n2 a'.c2)).setCell ⟨k, 7, none⟩ (.int .i64 q.1.u.d)).setCell ⟨k, 8, none⟩ (.int .i64 q.1.u.n)).setCell ⟨k, 9, none⟩ (.int .i64 q.1.u.b)).setCell ⟨k, 10, none⟩ (.int .i64 q.1.u.a)).setCell ⟨k, 11, none⟩ (.int .i64 q.1.u.x)).setCell ⟨k, 12, none⟩ (.int .i64 q.1.err)).heap.size := fun j hj => Nat.lt_of_lt_of_le hj ho.1
  have hoth : ∀ j, j ≠ k → (((((((((((((W.setCell ⟨k, 0, none⟩ (.int .i64 L.d)).setCell ⟨k, 1, none⟩ (.int .i64 L.n)).setCell ⟨k, 2, none⟩ (.int .i64 L.b)).setCell ⟨k, 3, none⟩ (.int .i64 L.a)).setCell ⟨k, 4, none⟩ (.int .i64 L.x)).setCell ⟨k, 5, none⟩ (.slice a'.A1 a'.n1 a'.c1)).setCell ⟨k, 6, none⟩ (.slice a'.A2 a'.n2 a'.c2)).setCell ⟨k, 7, none⟩ (.int .i64 q.1.u.d)).setCell ⟨k, 8, none⟩ (.int .i64 q.1.u.n)).setCell ⟨k, 9, none⟩ (.int .i64 q.1.u.b)).setCell ⟨k, 10, none⟩ (.int .i64 q.1.u.a)).setCell ⟨k, 11, none⟩ (.int .i64 q.1.u.x)).setCell ⟨k, 12, none⟩ (.int .i64 q.1.err)).heap[j]? = W.heap[j]? := fun j hj => by
    rw [heap_set_other (show j ≠ k from hj), heap_set_other (show j ≠ k from hj), heap_set_other (show j ≠ k from hj), heap_set_other (show j ≠ k from hj), heap_set_other (show j ≠ k from hj), heap_set_other (show j ≠ k from hj), heap_set_other (show j ≠ k from hj), heap_set_other (show j ≠ k from hj), heap_set_other (show j ≠ k from hj), heap_set_other (show j ≠ k from hj), heap_set_other (show j ≠ k from hj), heap_set_other (show j ≠ k from hj), heap_set_other (show j ≠ k from hj)]
  refine ⟨(Gr.setCell (Gr.setCell (Gr.setCell (Gr.setCell (Gr.setCell (Gr.setCell (Gr.setCell (Gr.setCell (Gr.setCell (Gr.setCell (Gr.setCell (Gr.setCell (Gr.setCell h.gr0 hk _) hk _) hk _) hk _) hk _) hk _) hk _) hk _) hk _) hk _) hk _) hk _) hk _), fun _ => by rw [e11]; exact hal, by rw [eo, e12]; exact h.l14, fun hx => ?_, fun hx => ?_, fun hx => ?_, fun hx => ?_, fun hx => ?_, fun hx => ?_⟩
  · rw [upB_ne (by decide)] at hx
    rw [e11, e12]
    obtain ⟨a', v', he, hs, hn⟩ := h.c6 hx
    exact ⟨a', v', he, hs.on hon, hn.on hon⟩
  · rw [upB_ne (by decide)] at hx
    rw [e11, e12]
    obtain ⟨a', v', he, hs, hn⟩ := h.c7 hx
    exact ⟨a', v', he, hs.on hon, hn.on hon⟩
  · rw [upB_ne (by decide)] at hx
    rw [e11, e12]
    obtain ⟨a', he, hs⟩ := h.c8 hx
    exact ⟨a', he, hs.on hon⟩
  · rw [upB_ne (by decide)] at hx
    rw [e11, e12]
    obtain ⟨a', he, hs⟩ := h.c9 hx
    exact ⟨a', he, hs.on hon⟩
  · rw [e11, e12]
    refine ⟨k, hk, hu, hsz k (lt_of_block hz), fun hy => ?_, fun _ => ⟨a', state_set hz _ _ _ _ _ _ _ _ _ _ _ _ _, hr.on hon⟩⟩
    rw [upB_at] at hy
    cases hy
  · rw [upB_ne (by decide)] at hx
    rw [e11, e12, eo]
    obtain ⟨j, q1, q2, q3, q4, q5⟩ := h.c12 hx
    have hjk : j ≠ k := fun e => by
      subst e
      cases hb : B 14 with
      | false =>
        have h1 := q4 hb
        rw [hz] at h1
        simp only [Option.some.injEq, Obj.cells.injEq] at h1
        exact absurd h1.2.1 (by decide)
      | true =>
        obtain ⟨_, h1, _⟩ := q5 hb
        rw [hz] at h1
        simp only [Option.some.injEq, Obj.cells.injEq] at h1
        exact absurd h1.2.1 (by decide)
    exact ⟨j, q1, q2, hsz j q3, fun hy => (hoth j hjk).trans (q4 hy), fun hy => by
      obtain ⟨a', x1, x2⟩ := q5 hy
      exact ⟨a', (hoth j hjk).trans x1, x2.on hon⟩⟩
theorem W15.st14 {P : Nat → Prop} {W0 W : World} {L : U5} {q : RSt × NT × Int} {B : Nat → Bool} {u : Nat → Value} (h : W15 P W0 L q B u W) (_h0 : B 14 = false) (hal : B 12 = true) {k : Nat} {v' : ND} (hk : W0.heap.size ≤ k) (hu : u 12 = .pointer (some ⟨k, 0, none⟩)) (hz : W.heap[k]? = some (.cells #[.int .i64 0, .string ⟨#[]⟩, .string ⟨#[]⟩, .slice none 0 0, .string ⟨#[]⟩] 24 (0, 0))) (hr : NR (PPof P (B 11) (u 11) (B 12) (u 12)) W v' q.2.1) : W15 P W0 L q (upB B 14) u (((((W.setCell ⟨k, 0, none⟩ (.int .i64 v'.k)).setCell ⟨k, 1, none⟩ (.string (bs v'.l))).setCell ⟨k, 2, none⟩ (.string (bs v'.x))).setCell ⟨k, 3, none⟩ (.slice v'.A v'.n v'.c)).setCell ⟨k, 4, none⟩ (.string (bs v'.e))) := by
  have e11 : upB B 14 11 = B 11 := upB_ne (by decide)
  have e12 : upB B 14 12 = B 12 := upB_ne (by decide)
  have eo : upB B 14 13 = B 13 := upB_ne (by decide)
  have ho : Off [k] W (((((W.setCell ⟨k, 0, none⟩ (.int .i64 v'.k)).setCell ⟨k, 1, none⟩ (.string (bs v'.l))).setCell ⟨k, 2, none⟩ (.string (bs v'.x))).setCell ⟨k, 3, none⟩ (.slice v'.A v'.n v'.c)).setCell ⟨k, 4, none⟩ (.string (bs v'.e))) := (Off.set (Off.set (Off.set (Off.set (Off.set (Off.refl _ _) (by simp) _) (by simp) _) (by simp) _) (by simp) _) (by simp) _)
  have hon : SameOn (PPof P (B 11) (u 11) (B 12) (u 12)) W (((((W.setCell ⟨k, 0, none⟩ (.int .i64 v'.k)).setCell ⟨k, 1, none⟩ (.string (bs v'.l))).setCell ⟨k, 2, none⟩ (.string (bs v'.x))).setCell ⟨k, 3, none⟩ (.slice v'.A v'.n v'.c)).setCell ⟨k, 4, none⟩ (.string (bs v'.e))) := ho.on (fun b hb hm => by
    rw [List.mem_singleton] at hm
    subst hm
    exact hb.2.2 hal hu)
  have hsz : ∀ j, j < W.heap.size → j < (((((W.setCell ⟨k, 0, none⟩ (.int .i64 v'.k)).setCell ⟨k, 1, none⟩ (.string (bs v'.l))).setCell ⟨k, 2, none⟩ (.string (bs v'.x))).setCell ⟨k, 3, none⟩ (.slice v'.A v'.n v'.c)).setCell ⟨k, 4, none⟩ (.string (bs v'.e))).heap.size := fun j hj => Nat.lt_of_lt_of_le hj ho.1
  have hoth : ∀ j, j ≠ k → (((((W.setCell ⟨k, 0, none⟩ (.int .i64 v'.k)).setCell ⟨k, 1, none⟩ (.string (bs v'.l))).setCell ⟨k, 2, none⟩ (.string (bs v'.x))).setCell ⟨k, 3, none⟩ (.slice v'.A v'.n v'.c)).setCell ⟨k, 4, none⟩ (.string (bs v'.e))).heap[j]? = W.heap[j]? := fun j hj => by
    rw [heap_set_other (show j ≠ k from hj), heap_set_other (show j ≠ k from hj), heap_set_other (show j ≠ k from hj), heap_set_other (show j ≠ k from hj), heap_set_other (show j ≠ k from hj)]
  refine ⟨(Gr.setCell (Gr.setCell (Gr.setCell (Gr.setCell (Gr.setCell h.gr0 hk _) hk _) hk _) hk _) hk _), by rw [eo, e11]; exact h.l13, fun _ => by rw [e12]; exact hal, fun hx => ?_, fun hx => ?_, fun hx => ?_, fun hx => ?_, fun hx => ?_, fun hx => ?_⟩
  · rw [upB_ne (by decide)] at hx
    rw [e11, e12]
    obtain ⟨a', v', he, hs, hn⟩ := h.c6 hx
    exact ⟨a', v', he, hs.on hon, hn.on hon⟩
  · rw [upB_ne (by decide)] at hx
    rw [e11, e12]
    obtain ⟨a', v', he, hs, hn⟩ := h.c7 hx
    exact ⟨a', v', he, hs.on hon, hn.on hon⟩
  · rw [upB_ne (by decide)] at hx
    rw [e11, e12]
    obtain ⟨a', he, hs⟩ := h.c8 hx
    exact ⟨a', he, hs.on hon⟩
  · rw [upB_ne (by decide)] at hx
    rw [e11, e12]
    obtain ⟨a', he, hs⟩ := h.c9 hx
    exact ⟨a', he, hs.on hon⟩
  · rw [upB_ne (by decide)] at hx
    rw [e11, e12, eo]
    obtain ⟨j, q1, q2, q3, q4, q5⟩ := h.c11 hx
    have hjk : j ≠ k := fun e => by
      subst e
      cases hb : B 13 with
      | false =>
        have h1 := q4 hb
        rw [hz] at h1
        simp only [Option.some.injEq, Obj.cells.injEq] at h1
        exact absurd h1.2.1 (by decide)
      | true =>
        obtain ⟨_, h1, _⟩ := q5 hb
        rw [hz] at h1
        simp only [Option.some.injEq, Obj.cells.injEq] at h1
        exact absurd h1.2.1 (by decide)
    exact ⟨j, q1, q2, hsz j q3, fun hy => (hoth j hjk).trans (q4 hy), fun hy => by
      obtain ⟨a', x1, x2⟩ := q5 hy
      exact ⟨a', (hoth j hjk).trans x1, x2.on hon⟩⟩
  · rw [e11, e12]
    refine ⟨k, hk, hu, hsz k (lt_of_block hz), fun hy => ?_, fun _ => ⟨v', five_setR hz _ _ _ _ _, hr.on hon⟩⟩
    rw [upB_at] at hy
    cases hy
/-- What a region has made that appends one known anchor to a copy of a row of such. -/
structure W16 (wb W0 : World) (p : Nat) (cs : Array Value) (n2 : Nat) (xs kc : List Value) (B : Nat → Bool) (u : Nat → Value) (W : World) : Prop where
  gr : Gr wb W
  off : Off [p] W0 W
  o0 : B 3 = true → B 0 = true ∧ B 2 = true
  o9 : B 9 = true → B 3 = true ∧ B 8 = true
  o11 : B 11 = true → B 9 = true
  f0 : B 0 = true → B 3 = false → W.ownsRow W0.heap.size 79 7 (u 75) (0) ([])
  f3 : B 3 = true → B 9 = false → W.ownsRow W0.heap.size 79 7 (u 78) (0 + n2) ([] ++ xs)
  f8 : B 8 = true → B 9 = false → ∃ k, u 83 = .slice (some ⟨k, 0, none⟩) 1 1 ∧ W0.heap.size ≤ k ∧ W.heap[k]? = some (.cells kc.toArray 79 (0, 0)) ∧ (B 0 = true → B 3 = false → (u 75).ownBlock ≠ some k) ∧ (B 3 = true → (u 78).ownBlock ≠ some k)
  f9 : B 9 = true → W.ownsRow W0.heap.size 79 7 (u 84) (0 + n2 + 1) ([] ++ xs ++ kc)
  box : W.heap[p]? = some (.cells (if B 11 = true then cs.setIfInBounds 6 (u 84) else cs) 68 (0, 0))
theorem W16.start {wb W0 W : World} {p : Nat} {cs : Array Value} {n2 : Nat} {xs kc : List Value} {u : Nat → Value} (hg : Gr wb W) (ho : Off [p] W0 W) (hb : W.heap[p]? = some (.cells cs 68 (0, 0))) : W16 wb W0 p cs n2 xs kc (fun _ => false) u W :=
  ⟨hg, ho, (fun h => by cases h), (fun h => by cases h), (fun h => by cases h), (fun h => by cases h), (fun h => by cases h), (fun h => by cases h), (fun h => by cases h), hb⟩
theorem W16.other {wb W0 W : World} {p : Nat} {cs : Array Value} {n2 : Nat} {xs kc : List Value} {B : Nat → Bool} {u : Nat → Value} (h : W16 wb W0 p cs n2 xs kc B u W) {i d : Nat} {v : Value} (hi : i ≠ 0 ∧ i ≠ 3 ∧ i ≠ 8 ∧ i ≠ 9 ∧ i ≠ 11) (hd : d ≠ 75 ∧ d ≠ 78 ∧ d ≠ 83 ∧ d ≠ 84) : W16 wb W0 p cs n2 xs kc (upB B i) (upV u d v) W := by
  have e0 : upB B i 0 = B 0 := upB_ne (Ne.symm hi.1)
  have e3 : upB B i 3 = B 3 := upB_ne (Ne.symm hi.2.1)
  have e8 : upB B i 8 = B 8 := upB_ne (Ne.symm hi.2.2.1)
  have e9 : upB B i 9 = B 9 := upB_ne (Ne.symm hi.2.2.2.1)
  have e11 : upB B i 11 = B 11 := upB_ne (Ne.symm hi.2.2.2.2)
  have f75 : upV u d v 75 = u 75 := upV_else hd.1
  have f78 : upV u d v 78 = u 78 := upV_else hd.2.1
  have f83 : upV u d v 83 = u 83 := upV_else hd.2.2.1
  have f84 : upV u d v 84 = u 84 := upV_else hd.2.2.2
  refine ⟨h.gr, h.off, ?_, ?_, ?_, ?_, ?_, ?_, ?_, ?_⟩
  · rw [e0, e3]; exact fun hx => ⟨(h.o0 hx).1, (by unfold upB; split; exact rfl; exact (h.o0 hx).2)⟩
  · rw [e3, e8, e9]; exact h.o9
  · rw [e9, e11]; exact h.o11
  · rw [e0, e3, f75]; exact h.f0
  · rw [e3, e9, f78]; exact h.f3
  · rw [e0, e3, e8, e9, f75, f78, f83]; exact h.f8
  · rw [e9, f84]; exact h.f9
  · rw [e11, f84]; exact h.box
theorem W16.s0 {wb W0 W : World} {p : Nat} {cs : Array Value} {n2 : Nat} {xs kc : List Value} {B : Nat → Bool} {u : Nat → Value} (h : W16 wb W0 p cs n2 xs kc B u W) (_hp : p < W0.heap.size) (h0 : B 0 = false) : W16 wb W0 p cs n2 xs kc (upB B 0) (upV u 75 (.slice (some ⟨W.heap.size, 0, none⟩) 0 0)) (W.alloc (.cells #[] 79)) := by
  have h3 : B 3 = false := by
    cases hx : B 3 with
    | false => rfl
    | true => have := (h.o0 hx).1; rw [h0] at this; cases this
  have h9 : B 9 = false := by
    cases hx : B 9 with
    | false => rfl
    | true => have := (h.o9 hx).1; rw [h3] at this; cases this
  have h11 : B 11 = false := by
    cases hx : B 11 with
    | false => rfl
    | true => have := h.o11 hx; rw [h9] at this; cases this
  have hg : Gr W (W.alloc (.cells #[] 79)) := (Gr.refl W).alloc _
  have f75 : upV u 75 (.slice (some ⟨W.heap.size, 0, none⟩) 0 0) 75 = .slice (some ⟨W.heap.size, 0, none⟩) 0 0 := upV_same rfl
  have fo : ∀ d, d ≠ 75 → upV u 75 (.slice (some ⟨W.heap.size, 0, none⟩) 0 0) d = u d := fun d hd => upV_else (Ne.symm hd)
  have e : ∀ k, k ≠ 0 → upB B 0 k = B k := fun k hk => upB_ne hk
  refine ⟨h.gr.trans hg, h.off.trans (Off.gr hg), fun hx => ⟨upB_at, (by rw [e 2 (by decide)]; exact (h.o0 (by rwa [e 3 (by decide)] at hx)).2)⟩, ?_, ?_, fun _ _ => ?_, fun hx _ => ?_, fun hx hy => ?_, fun hx => ?_, ?_⟩
  · rw [e 9 (by decide), e 3 (by decide), e 8 (by decide)]; exact h.o9
  · rw [e 9 (by decide), e 11 (by decide)]; exact h.o11
  · rw [f75]
    exact own_fresh (n := 0) (cap := 0) (size := 7) (cs := []) (heap_alloc_new W _) h.off.1 rfl (Nat.le_refl _) rfl (by decide)
  · rw [e 3 (by decide), h3] at hx; cases hx
  · rw [e 8 (by decide)] at hx
    obtain ⟨k, q1, q2, q3, _, q5⟩ := h.f8 hx h9
    refine ⟨k, (fo 83 (by decide)).trans q1, q2, (hg.block k (lt_of_block q3)).trans q3, fun _ _ => ?_, fun hz => ?_⟩
    · rw [f75]
      intro he
      simp only [Value.ownBlock, Option.some.injEq] at he
      have := lt_of_block q3
      omega
    · rw [e 3 (by decide), h3] at hz; cases hz
  · rw [e 9 (by decide), h9] at hx; cases hx
  · rw [e 11 (by decide), fo 84 (by decide)]
    exact (hg.block p (lt_of_block h.box)).trans h.box
theorem W16.s3 {wb W0 W W' : World} {p : Nat} {cs : Array Value} {n2 : Nat} {xs kc : List Value} {B : Nat → Bool} {u : Nat → Value} (h : W16 wb W0 p cs n2 xs kc B u W) (hp : p < W0.heap.size) {v' : Value} (hw : wb.heap.size ≤ p) (hown : W'.ownsRow W0.heap.size 79 7 (v') (0 + n2) ([] ++ xs)) (hgrow : W.grownBy W' (u 75).ownBlock) (hat : v'.ownBlock = (u 75).ownBlock ∨ v'.ownBlock = some W.heap.size) (h0 : B 0 = true) (h2 : B 2 = true) (h3 : B 3 = false) : W16 wb W0 p cs n2 xs kc (upB B 3) (upV u 78 v') W' := by
  have h9 : B 9 = false := by
    cases hx : B 9 with
    | false => rfl
    | true => have := (h.o9 hx).1; rw [h3] at this; cases this
  have h11 : B 11 = false := by
    cases hx : B 11 with
    | false => rfl
    | true => have := h.o11 hx; rw [h9] at this; cases this
  have hge : ∀ k, (u 75).ownBlock = some k → W0.heap.size ≤ k := fun k hk => ((h.f0 h0 h3).lt k hk).1
  have f78 : upV u 78 v' 78 = v' := upV_same rfl
  have fo : ∀ d, d ≠ 78 → upV u 78 v' d = u d := fun d hd => upV_else (Ne.symm hd)
  have e : ∀ k, k ≠ 3 → upB B 3 k = B k := fun k hk => upB_ne hk
  refine ⟨Gr.grownOwnR h.gr hgrow (fun k hk => Nat.le_trans hw (Nat.le_trans (Nat.le_of_lt hp) (hge k hk))), ⟨Nat.le_trans h.off.1 hgrow.size, fun b hb hn => (hgrow.block b (Nat.lt_of_lt_of_le hb h.off.1) (fun he => by have := hge b he.symm; omega)).trans (h.off.2 b hb hn)⟩, fun _ => ⟨(by rw [e 0 (by decide)]; exact h0), (by rw [e 2 (by decide)]; exact h2)⟩, ?_, ?_, fun _ hx => ?_, fun _ _ => ?_, fun hx hy => ?_, fun hx => ?_, ?_⟩
  · rw [e 9 (by decide), h9]; intro hx; cases hx
  · rw [e 9 (by decide), e 11 (by decide)]; exact h.o11
  · rw [upB_at] at hx; cases hx
  · rw [f78]; exact hown
  · rw [e 8 (by decide)] at hx
    obtain ⟨k, q1, q2, q3, q4, _⟩ := h.f8 hx h9
    have hne := q4 h0 h3
    refine ⟨k, (fo 83 (by decide)).trans q1, q2, (hgrow.block k (lt_of_block q3) (fun he => hne he.symm)).trans q3, fun _ hz => ?_, fun _ => ?_⟩
    · rw [upB_at] at hz; cases hz
    · rw [f78]
      rcases hat with ha | ha
      · rw [ha]; exact hne
      · rw [ha]
        intro he
        simp only [Option.some.injEq] at he
        have := lt_of_block q3
        omega
  · rw [e 9 (by decide), h9] at hx; cases hx
  · rw [e 11 (by decide), fo 84 (by decide)]
    exact (hgrow.block p (lt_of_block h.box) (fun he => by have := hge p he.symm; omega)).trans h.box
theorem W16.s8 {wb W0 W : World} {p : Nat} {cs : Array Value} {n2 : Nat} {xs kc : List Value} {B : Nat → Bool} {u : Nat → Value} (h : W16 wb W0 p cs n2 xs kc B u W) (h8 : B 8 = false) : W16 wb W0 p cs n2 xs kc (upB B 8) (upV u 83 (.slice (some ⟨W.heap.size, 0, none⟩) 1 1)) (W.alloc (.cells kc.toArray 79)) := by
  have h9 : B 9 = false := by
    cases hx : B 9 with
    | false => rfl
    | true => have := (h.o9 hx).2; rw [h8] at this; cases this
  have hg : Gr W (W.alloc (.cells kc.toArray 79)) := (Gr.refl W).alloc _
  have f83 : upV u 83 (.slice (some ⟨W.heap.size, 0, none⟩) 1 1) 83 = .slice (some ⟨W.heap.size, 0, none⟩) 1 1 := upV_same rfl
  have fo : ∀ d, d ≠ 83 → upV u 83 (.slice (some ⟨W.heap.size, 0, none⟩) 1 1) d = u d := fun d hd => upV_else (Ne.symm hd)
  have e : ∀ k, k ≠ 8 → upB B 8 k = B k := fun k hk => upB_ne hk
  refine ⟨h.gr.trans hg, h.off.trans (Off.gr hg), ?_, ?_, ?_, ?_, ?_, fun _ _ => ?_, ?_, ?_⟩
  · rw [e 3 (by decide), e 0 (by decide), e 2 (by decide)]; exact h.o0
  · rw [e 9 (by decide), h9]; intro hx; cases hx
  · rw [e 9 (by decide), e 11 (by decide)]; exact h.o11
  · rw [e 0 (by decide), e 3 (by decide), fo 75 (by decide)]
    exact fun hx hy => own_same (h.f0 hx hy) (fun k hk => hg.block k ((h.f0 hx hy).lt k hk).2)
  · rw [e 3 (by decide), e 9 (by decide), fo 78 (by decide)]
    exact fun hx hy => own_same (h.f3 hx hy) (fun k hk => hg.block k ((h.f3 hx hy).lt k hk).2)
  · refine ⟨W.heap.size, f83, h.off.1, heap_alloc_new _ _, ?_, ?_⟩
    · rw [e 0 (by decide), e 3 (by decide), fo 75 (by decide)]
      exact fun hx hy he => Nat.lt_irrefl _ ((h.f0 hx hy).lt _ he).2
    · rw [e 3 (by decide), fo 78 (by decide)]
      exact fun hx he => Nat.lt_irrefl _ ((h.f3 hx h9).lt _ he).2
  · rw [e 9 (by decide), h9]; intro hx; cases hx
  · rw [e 11 (by decide), fo 84 (by decide)]
    exact (hg.block p (lt_of_block h.box)).trans h.box
theorem W16.s9 {wb W0 W W' : World} {p : Nat} {cs : Array Value} {n2 : Nat} {xs kc : List Value} {B : Nat → Bool} {u : Nat → Value} (h : W16 wb W0 p cs n2 xs kc B u W) (hp : p < W0.heap.size) {v' : Value} (hw : wb.heap.size ≤ p) (hown : W'.ownsRow W0.heap.size 79 7 (v') (0 + n2 + 1) ([] ++ xs ++ kc)) (hgrow : W.grownBy W' (u 78).ownBlock) (h3 : B 3 = true) (h8 : B 8 = true) (h9 : B 9 = false) : W16 wb W0 p cs n2 xs kc (upB B 9) (upV u 84 v') W' := by
  have h11 : B 11 = false := by
    cases hx : B 11 with
    | false => rfl
    | true => have := h.o11 hx; rw [h9] at this; cases this
  have hge : ∀ k, (u 78).ownBlock = some k → W0.heap.size ≤ k := fun k hk => ((h.f3 h3 h9).lt k hk).1
  have f84 : upV u 84 v' 84 = v' := upV_same rfl
  have fo : ∀ d, d ≠ 84 → upV u 84 v' d = u d := fun d hd => upV_else (Ne.symm hd)
  have e : ∀ k, k ≠ 9 → upB B 9 k = B k := fun k hk => upB_ne hk
  refine ⟨Gr.grownOwnR h.gr hgrow (fun k hk => Nat.le_trans hw (Nat.le_trans (Nat.le_of_lt hp) (hge k hk))), ?_, ?_, ?_, ?_, ?_, ?_, ?_, ?_, ?_⟩
  · exact ⟨Nat.le_trans h.off.1 hgrow.size, fun b hb hn => (hgrow.block b (Nat.lt_of_lt_of_le hb h.off.1) (fun he => by have := hge b he.symm; omega)).trans (h.off.2 b hb hn)⟩
  · rw [e 3 (by decide), e 0 (by decide), e 2 (by decide)]; exact h.o0
  · rw [e 3 (by decide), e 8 (by decide)]; exact fun _ => ⟨h3, h8⟩
  · rw [e 11 (by decide), h11]; intro hx; cases hx
  · rw [e 0 (by decide), e 3 (by decide), h3]; intro _ hx; cases hx
  · rw [upB_at]; intro _ hx; cases hx
  · rw [upB_at]; intro _ hx; cases hx
  · rw [f84]; exact fun _ => hown
  · rw [e 11 (by decide), h11]
    have hb := h.box
    rw [h11] at hb
    exact (hgrow.block p (lt_of_block hb) (fun he => by have := hge p he.symm; omega)).trans hb
theorem W16.s11 {wb W0 W : World} {p : Nat} {cs : Array Value} {n2 : Nat} {xs kc : List Value} {B : Nat → Bool} {u : Nat → Value} (h : W16 wb W0 p cs n2 xs kc B u W) (hp : p < W0.heap.size) (hw : wb.heap.size ≤ p) (h9 : B 9 = true) (h11 : B 11 = false) : W16 wb W0 p cs n2 xs kc (upB B 11) u (W.setCell ⟨p, 6, none⟩ (u 84)) := by
  have e : ∀ k, k ≠ 11 → upB B 11 k = B k := fun k hk => upB_ne hk
  have hb := h.box
  rw [if_neg (by rw [h11]; decide)] at hb
  refine ⟨h.gr.setCell hw _, h.off.set (by simp) _, ?_, ?_, ?_, ?_, ?_, ?_, ?_, ?_⟩
  · rw [e 3 (by decide), e 0 (by decide), e 2 (by decide)]; exact h.o0
  · rw [e 9 (by decide), e 3 (by decide), e 8 (by decide)]; exact h.o9
  · rw [e 9 (by decide)]; exact fun _ => h9
  · rw [e 0 (by decide), e 3 (by decide), (h.o9 h9).1]; intro _ hx; cases hx
  · rw [e 9 (by decide), h9]; intro _ hx; cases hx
  · rw [e 9 (by decide), h9]; intro _ hx; cases hx
  · exact fun _ => own_same (h.f9 h9) (fun k hk => heap_set_other (show k ≠ p from fun he => by have := ((h.f9 h9).lt k hk).1; omega))
  · rw [upB_at, if_pos rfl]
    exact cells_set hb _
/-- What the recursion gives. -/
def VisI (g : Bool) (L : U5) (m : Nat) : Prop := ∀ (v : ND) (t : NT) (st : RSt) (a : SV) (cnt : Nat) (w : World) (P : Nat → Prop), (∀ b, w.heap.size ≤ b → P b) → NRep P m w v t → SRep P w st a → markedB t = true → st.names.length ≤ cnt → st.done.length ≤ cnt → cnt + countF t ≤ 1000000 → Calls Try.prog 35 #[.agg #[.int .i64 L.d, .int .i64 L.n, .int .i64 L.b, .int .i64 L.a, .int .i64 L.x, .slice a.A1 a.n1 a.c1, .slice a.A2 a.n2 a.c2, .int .i64 st.u.d, .int .i64 st.u.n, .int .i64 st.u.b, .int .i64 st.u.a, .int .i64 st.u.x, .int .i64 st.err], .agg #[.int .i64 v.k, .string (bs v.l), .string (bs v.x), .slice v.A v.n v.c, .string (bs v.e)], .bool g] w (VRes P L (visR g L t st) w)
end Go.Proofs.Ytbfnmgiccbdglaa
