/- The kids that the reference's visit has made, and what its drawn region of a kid's visit has made. -/
import Derived.Test.YtbfnmgiccbdglaaAnRReg
namespace Go.Proofs.Ytbfnmgiccbdglaa
open Go.ChangeShapes Go.WideShapes Go.ChangeAt Go.RowKit

/-- The row of nodes that has been made so far. -/
structure KidR (P : Nat → Prop) (base : Nat) (W : World) (kv : Value) (kd : List NT) (ds : List ND) : Prop where
  len : ds.length = kd.length
  own : W.ownsRow base 24 5 kv (0 + kd.length) (ds.flatMap ND.cells)
  rep : ∀ (i : Nat) (e : ND), ds[i]? = some e → ∃ t, kd[i]? = some t ∧ NR P W e t
theorem KidR.nil {P : Nat → Prop} {base : Nat} {W : World} : KidR P base W (.slice none 0 0) [] [] := ⟨rfl, ⟨rfl, .inl ⟨rfl, rfl⟩⟩, fun i e h => by simp at h⟩
theorem KidR.off {P : Nat → Prop} {base : Nat} {W w : World} {kv : Value} {kd : List NT} {ds : List ND} {S : List Nat} (h : KidR P base W kv kd ds) (ho : Off S W w) (hS : ∀ b ∈ S, b < base) (hP : ∀ b, P b → b ∉ S) : KidR P base w kv kd ds :=
  ⟨h.len, own_same h.own (fun k hk => ho.2 k (h.own.lt k hk).2 (fun hm => by have h1 := hS k hm; have h2 := (h.own.lt k hk).1; omega)), fun i e he => by
    obtain ⟨t, h1, h2⟩ := h.rep i e he
    exact ⟨t, h1, h2.on (ho.on hP)⟩⟩
theorem nd_len (l : List ND) : (l.flatMap ND.cells).length = l.length * 5 := by
  induction l with
  | nil => rfl
  | cons e l ih => rw [List.flatMap_cons, List.length_append, ih, List.length_cons]; simp [ND.cells]; omega
theorem nd_get {l : List ND} {i : Nat} {e : ND} (h : l[i]? = some e) {j : Nat} (hj : j < 5) : (l.flatMap ND.cells)[i * 5 + j]? = e.cells[j]? := by
  induction l generalizing i with
  | nil => simp at h
  | cons a l ih =>
    rw [List.flatMap_cons]
    cases i with
    | zero =>
      simp only [List.getElem?_cons_zero, Option.some.injEq] at h
      subst h
      rw [Nat.zero_mul, Nat.zero_add, List.getElem?_append_left (by simp [ND.cells]; omega)]
    | succ i =>
      simp only [List.getElem?_cons_succ] at h
      rw [List.getElem?_append_right (by simp [ND.cells]; omega)]
      have hl : a.cells.length = 5 := rfl
      rw [hl, show (i + 1) * 5 + j - 5 = i * 5 + j by omega]
      exact ih h
/-- One node more. -/
theorem KidR.app {P : Nat → Prop} {base : Nat} {W w : World} {kv kv' : Value} {kd : List NT} {ds : List ND} (h : KidR P base W kv kd ds) {e : ND} {t : NT} (ho : w.ownsRow base 24 5 kv' (0 + kd.length + 1) (ds.flatMap ND.cells ++ e.cells)) (hon : SameOn P W w) (he : NR P W e t) : KidR P base w kv' (kd ++ [t]) (ds ++ [e]) := by
  refine ⟨by simp [h.len], by simpa [Nat.add_assoc] using ho, fun i x hx => ?_⟩
  rcases Nat.lt_trichotomy i ds.length with hi | hi | hi
  · rw [List.getElem?_append_left hi] at hx
    obtain ⟨t', h1, h2⟩ := h.rep i x hx
    exact ⟨t', (List.getElem?_append_left (by rw [← h.len]; exact hi)).trans h1, h2.on hon⟩
  · subst hi
    rw [List.getElem?_concat_length, Option.some.injEq] at hx
    subst hx
    exact ⟨t, by rw [h.len, List.getElem?_concat_length], he.on hon⟩
  · rw [List.getElem?_eq_none (by simp; omega)] at hx
    cases hx
theorem NR.all {P : Nat → Prop} {W : World} : ∀ (ds : List ND) (kd : List NT), ds.length = kd.length → (∀ (i : Nat) (e : ND), ds[i]? = some e → ∃ t, kd[i]? = some t ∧ NR P W e t) → ∃ m, ∀ (i : Nat) (e : ND), ds[i]? = some e → ∃ t, kd[i]? = some t ∧ NRep P m W e t
  | [], _, _, _ => ⟨0, fun i e h => by simp at h⟩
  | d :: ds, [], hl, _ => by simp at hl
  | d :: ds, y :: kd, hl, h => by
    obtain ⟨m1, h1⟩ := NR.all ds kd (by simpa using hl) (fun i e he => by
      obtain ⟨t, q1, q2⟩ := h (i + 1) e (by simpa using he)
      exact ⟨t, by simpa using q1, q2⟩)
    obtain ⟨t, q1, m2, q2⟩ := h 0 d rfl
    have q1 : y = t := by simpa using q1
    subst q1
    refine ⟨m1 + m2, fun i e he => ?_⟩
    cases i with
    | zero =>
      have he : d = e := by simpa using he
      subst he
      exact ⟨y, rfl, q2.ups _ (by omega)⟩
    | succ i =>
      obtain ⟨t, r1, r2⟩ := h1 i e (by simpa using he)
      exact ⟨t, by simpa using r1, r2.ups _ (by omega)⟩
/-- A node with these kids. -/
theorem KidR.node {P : Nat → Prop} {base : Nat} {W W' w : World} {kv : Value} {kd : List NT} {ds : List ND} {v : ND} {t : NT} (h : KidR P base W kv kd ds) (hP : ∀ b, base ≤ b → P b) (hr : NR P W' v t) (hon : SameOn P W w) : ∃ A c, kv = .slice A (0 + kd.length) c ∧ NR P w ⟨v.k, v.l, v.x, A, 0 + kd.length, c, v.e⟩ (.mk t.k t.l t.x kd t.e) := by
  obtain ⟨A, c, h1, h2, h3, h4, h5⟩ := RowP.own h.own hP
  obtain ⟨m, hm⟩ := NR.all ds kd h.len h.rep
  obtain ⟨m0, hr0⟩ := hr
  obtain ⟨m1, _, e1, e2, e3, e4, _, _, _, e8, e9, e10, e11, _⟩ := hr0.parts
  refine ⟨A, c, h1, m + 1, e1, e2, e3, e4, Nat.zero_add _, h2, h3, e8, e9, e10, e11, h5, fun i y hy => ?_⟩
  have hi : i < ds.length := by
    rw [h.len]
    exact (List.getElem?_eq_some_iff.1 hy).1
  have he : ds[i]? = some (ds[i]'hi) := List.getElem?_eq_getElem hi
  obtain ⟨t', q1, q2⟩ := hm i _ he
  rw [hy, Option.some.injEq] at q1
  subst q1
  obtain ⟨g, r1, r2, r3, r4⟩ := h4 (fun h0 => by
    have h6 := nd_len ds
    rw [h0] at h6
    simp at h6
    omega)
  have hc : NCells W g (0 + i * 5) (ds[i]'hi) := NCells.of (fun j hj => by
    have h7 := (nd_get he hj)
    have h8 : (ds[i]'hi).cells[j]? = some ((ds[i]'hi).cells[j]'hj) := List.getElem?_eq_getElem _
    rw [h8] at h7
    rw [h8, Nat.zero_add]
    exact r4 _ _ h7)
  exact ⟨g, 0, ds[i]'hi, r1, r2, Nat.lt_of_lt_of_le r3 hon.1, hc.keep hon r2 r3, NRep.keep hon m _ _ q2⟩
/-- What the region has made that visits a kid: the state goes to p, the node to r. -/
structure W27 (Q : Nat → Prop) (w W0 : World) (p r : Nat) (L : U5) (c0 : Array Value) (q : RSt × NT × Int) (B : Nat → Bool) (u : Nat → Value) (W : World) : Prop where
  gr : Gr w W
  off : Off [p, r] W0 W
  dep : ∀ k ∈ [7, 8, 9, 12], B k = true → B 0 = true
  c7 : B 7 = true → ∃ a' v', u 117 = .tuple #[.agg #[.int .i64 L.d, .int .i64 L.n, .int .i64 L.b, .int .i64 L.a, .int .i64 L.x, .slice a'.A1 a'.n1 a'.c1, .slice a'.A2 a'.n2 a'.c2, .int .i64 q.1.u.d, .int .i64 q.1.u.n, .int .i64 q.1.u.b, .int .i64 q.1.u.a, .int .i64 q.1.u.x, .int .i64 q.1.err], .agg #[.int .i64 v'.k, .string (bs v'.l), .string (bs v'.x), .slice v'.A v'.n v'.c, .string (bs v'.e)], .int .i64 q.2.2] ∧ SRep Q W q.1 a' ∧ NR Q W v' q.2.1
  c8 : B 8 = true → ∃ a' v', u 109 = .tuple #[.agg #[.int .i64 L.d, .int .i64 L.n, .int .i64 L.b, .int .i64 L.a, .int .i64 L.x, .slice a'.A1 a'.n1 a'.c1, .slice a'.A2 a'.n2 a'.c2, .int .i64 q.1.u.d, .int .i64 q.1.u.n, .int .i64 q.1.u.b, .int .i64 q.1.u.a, .int .i64 q.1.u.x, .int .i64 q.1.err], .agg #[.int .i64 v'.k, .string (bs v'.l), .string (bs v'.x), .slice v'.A v'.n v'.c, .string (bs v'.e)], .int .i64 q.2.2] ∧ SRep Q W q.1 a' ∧ NR Q W v' q.2.1
  c9 : B 9 = true → ∃ a', u 118 = .agg #[.int .i64 L.d, .int .i64 L.n, .int .i64 L.b, .int .i64 L.a, .int .i64 L.x, .slice a'.A1 a'.n1 a'.c1, .slice a'.A2 a'.n2 a'.c2, .int .i64 q.1.u.d, .int .i64 q.1.u.n, .int .i64 q.1.u.b, .int .i64 q.1.u.a, .int .i64 q.1.u.x, .int .i64 q.1.err] ∧ SRep Q W q.1 a'
  c10 : B 10 = true → ∃ v', u 119 = .agg #[.int .i64 v'.k, .string (bs v'.l), .string (bs v'.x), .slice v'.A v'.n v'.c, .string (bs v'.e)] ∧ NR Q W v' q.2.1
  z12 : B 12 = false → W.heap[p]? = some (.cells c0 68 (0, 0))
  c12 : B 12 = true → ∃ a', W.heap[p]? = some (.cells #[.int .i64 L.d, .int .i64 L.n, .int .i64 L.b, .int .i64 L.a, .int .i64 L.x, .slice a'.A1 a'.n1 a'.c1, .slice a'.A2 a'.n2 a'.c2, .int .i64 q.1.u.d, .int .i64 q.1.u.n, .int .i64 q.1.u.b, .int .i64 q.1.u.a, .int .i64 q.1.u.x, .int .i64 q.1.err] 68 (0, 0)) ∧ SRep Q W q.1 a'
  z13 : B 13 = false → W.heap[r]? = some (.cells #[.int .i64 0, .string ⟨#[]⟩, .string ⟨#[]⟩, .slice none 0 0, .string ⟨#[]⟩] 24 (0, 0))
  c13 : B 13 = true → ∃ v', W.heap[r]? = some (.cells #[.int .i64 v'.k, .string (bs v'.l), .string (bs v'.x), .slice v'.A v'.n v'.c, .string (bs v'.e)] 24 (0, 0)) ∧ NR Q W v' q.2.1
theorem W27.start {Q : Nat → Prop} {w W0 W : World} {p r : Nat} {L : U5} {c0 : Array Value} {q : RSt × NT × Int} {u : Nat → Value} (hg : Gr w W) (ho : Off [p, r] W0 W) (hp : W.heap[p]? = some (.cells c0 68 (0, 0))) (hr : W.heap[r]? = some (.cells #[.int .i64 0, .string ⟨#[]⟩, .string ⟨#[]⟩, .slice none 0 0, .string ⟨#[]⟩] 24 (0, 0))) : W27 Q w W0 p r L c0 q (fun _ => false) u W :=
  ⟨hg, ho, (fun _ _ h => by cases h), (fun h => by cases h), (fun h => by cases h), (fun h => by cases h), (fun h => by cases h), fun _ => hp, (fun h => by cases h), fun _ => hr, (fun h => by cases h)⟩
theorem upB_or {B : Nat → Bool} {i j : Nat} (h : B j = true) : upB B i j = true := by
  unfold upB
  split
  · rfl
  · exact h
theorem W27.step {Q : Nat → Prop} {w W0 W W' : World} {p r : Nat} {L : U5} {c0 : Array Value} {q : RSt × NT × Int} {B : Nat → Bool} {u : Nat → Value} (h : W27 Q w W0 p r L c0 q B u W) (hg : Gr W W') {i d : Nat} {v : Value} (hi : i ≠ 12 ∧ i ≠ 13) (h0 : i ∈ [7, 8, 9, 12] → B 0 = true)
    (hp : p < W.heap.size) (hr : r < W.heap.size) (n7 : (i = 7 ∧ d = 117 ∧ ∃ a' v', v = .tuple #[.agg #[.int .i64 L.d, .int .i64 L.n, .int .i64 L.b, .int .i64 L.a, .int .i64 L.x, .slice a'.A1 a'.n1 a'.c1, .slice a'.A2 a'.n2 a'.c2, .int .i64 q.1.u.d, .int .i64 q.1.u.n, .int .i64 q.1.u.b, .int .i64 q.1.u.a, .int .i64 q.1.u.x, .int .i64 q.1.err], .agg #[.int .i64 v'.k, .string (bs v'.l), .string (bs v'.x), .slice v'.A v'.n v'.c, .string (bs v'.e)], .int .i64 q.2.2] ∧ SRep Q W' q.1 a' ∧ NR Q W' v' q.2.1) ∨ (i ≠ 7 ∧ d ≠ 117)) (n8 : (i = 8 ∧ d = 109 ∧ ∃ a' v', v = .tuple #[.agg #[.int .i64 L.d, .int .i64 L.n, .int .i64 L.b, .int .i64 L.a, .int .i64 L.x, .slice a'.A1 a'.n1 a'.c1, .slice a'.A2 a'.n2 a'.c2, .int .i64 q.1.u.d, .int .i64 q.1.u.n, .int .i64 q.1.u.b, .int .i64 q.1.u.a, .int .i64 q.1.u.x, .int .i64 q.1.err], .agg #[.int .i64 v'.k, .string (bs v'.l), .string (bs v'.x), .slice v'.A v'.n v'.c, .string (bs v'.e)], .int .i64 q.2.2] ∧ SRep Q W' q.1 a' ∧ NR Q W' v' q.2.1) ∨ (i ≠ 8 ∧ d ≠ 109)) (n9 : (i = 9 ∧ d = 118 ∧ ∃ a', v = .agg #[.int .i64 L.d, .int .i64 L.n, .int .i64 L.b, .int .i64 L.a, .int .i64 L.x, .slice a'.A1 a'.n1 a'.c1, .slice a'.A2 a'.n2 a'.c2, .int .i64 q.1.u.d, .int .i64 q.1.u.n, .int .i64 q.1.u.b, .int .i64 q.1.u.a, .int .i64 q.1.u.x, .int .i64 q.1.err] ∧ SRep Q W' q.1 a') ∨ (i ≠ 9 ∧ d ≠ 118)) (n10 : (i = 10 ∧ d = 119 ∧ ∃ v', v = .agg #[.int .i64 v'.k, .string (bs v'.l), .string (bs v'.x), .slice v'.A v'.n v'.c, .string (bs v'.e)] ∧ NR Q W' v' q.2.1) ∨ (i ≠ 10 ∧ d ≠ 119)) : W27 Q w W0 p r L c0 q (upB B i) (upV u d v) W' := by
  have e12 : upB B i 12 = B 12 := upB_ne (Ne.symm hi.1)
  have e13 : upB B i 13 = B 13 := upB_ne (Ne.symm hi.2)
  refine ⟨h.gr.trans hg, h.off.trans (Off.gr hg), fun k hk hx => ?_, fun hx => ?_, fun hx => ?_, fun hx => ?_, fun hx => ?_, fun hx => ?_, fun hx => ?_, fun hx => ?_, fun hx => ?_⟩
  · by_cases hki : k = i
    · subst hki
      exact upB_or (h0 hk)
    · rw [upB_ne hki] at hx
      exact upB_or (h.dep k hk hx)
  · rcases n7 with ⟨_, hd, a', v', hv, hs, hn⟩ | ⟨hi, hd⟩
    · exact ⟨a', v', (upV_same hd).trans hv, hs, hn⟩
    · rw [upB_ne (Ne.symm hi)] at hx
      obtain ⟨a', v', he, hs, hn⟩ := h.c7 hx
      exact ⟨a', v', (upV_else hd).trans he, hs.on (hg.on _), hn.on (hg.on _)⟩
  · rcases n8 with ⟨_, hd, a', v', hv, hs, hn⟩ | ⟨hi, hd⟩
    · exact ⟨a', v', (upV_same hd).trans hv, hs, hn⟩
    · rw [upB_ne (Ne.symm hi)] at hx
      obtain ⟨a', v', he, hs, hn⟩ := h.c8 hx
      exact ⟨a', v', (upV_else hd).trans he, hs.on (hg.on _), hn.on (hg.on _)⟩
  · rcases n9 with ⟨_, hd, a', hv, hs⟩ | ⟨hi, hd⟩
    · exact ⟨a', (upV_same hd).trans hv, hs⟩
    · rw [upB_ne (Ne.symm hi)] at hx
      obtain ⟨a', he, hs⟩ := h.c9 hx
      exact ⟨a', (upV_else hd).trans he, hs.on (hg.on _)⟩
  · rcases n10 with ⟨_, hd, a', hv, hs⟩ | ⟨hi, hd⟩
    · exact ⟨a', (upV_same hd).trans hv, hs⟩
    · rw [upB_ne (Ne.symm hi)] at hx
      obtain ⟨a', he, hs⟩ := h.c10 hx
      exact ⟨a', (upV_else hd).trans he, hs.on (hg.on _)⟩
  · rw [e12] at hx
    exact (hg.block p hp).trans (h.z12 hx)
  · rw [e12] at hx
    obtain ⟨a', h1, h2⟩ := h.c12 hx
    exact ⟨a', (hg.block p hp).trans h1, h2.on (hg.on _)⟩
  · rw [e13] at hx
    exact (hg.block r hr).trans (h.z13 hx)
  · rw [e13] at hx
    obtain ⟨a', h1, h2⟩ := h.c13 hx
    exact ⟨a', (hg.block r hr).trans h1, h2.on (hg.on _)⟩
theorem W27.lt {Q : Nat → Prop} {w W0 W : World} {p r : Nat} {L : U5} {c0 : Array Value} {q : RSt × NT × Int} {B : Nat → Bool} {u : Nat → Value} (h : W27 Q w W0 p r L c0 q B u W) : p < W.heap.size ∧ r < W.heap.size := by
  constructor
  · cases hx : B 12 with
    | false => exact lt_of_block (h.z12 hx)
    | true =>
      obtain ⟨_, h1, _⟩ := h.c12 hx
      exact lt_of_block h1
  · cases hx : B 13 with
    | false => exact lt_of_block (h.z13 hx)
    | true =>
      obtain ⟨_, h1, _⟩ := h.c13 hx
      exact lt_of_block h1
theorem W27.other {Q : Nat → Prop} {w W0 W : World} {p r : Nat} {L : U5} {c0 : Array Value} {q : RSt × NT × Int} {B : Nat → Bool} {u : Nat → Value} (h : W27 Q w W0 p r L c0 q B u W) {i d : Nat} {v : Value} (hi : i ≠ 12 ∧ i ≠ 13 ∧ i ≠ 7 ∧ i ≠ 8 ∧ i ≠ 9 ∧ i ≠ 10) (hd : d ≠ 117 ∧ d ≠ 109 ∧ d ≠ 118 ∧ d ≠ 119) : W27 Q w W0 p r L c0 q (upB B i) (upV u d v) W :=
  h.step (Gr.refl _) ⟨hi.1, hi.2.1⟩ (fun hm => by simp only [List.mem_cons, List.not_mem_nil, or_false] at hm; omega) h.lt.1 h.lt.2 (.inr ⟨hi.2.2.1, hd.1⟩) (.inr ⟨hi.2.2.2.1, hd.2.1⟩) (.inr ⟨hi.2.2.2.2.1, hd.2.2.1⟩) (.inr ⟨hi.2.2.2.2.2, hd.2.2.2⟩)
theorem W27.st12 {Q : Nat → Prop} {w W0 W : World} {p r : Nat} {L : U5} {c0 : Array Value} {q : RSt × NT × Int} {B : Nat → Bool} {u : Nat → Value} (h : W27 Q w W0 p r L c0 q B u W) (hB : B 12 = false) (hpr : p ≠ r) (hw : w.heap.size ≤ p) (hQ : ∀ k, Q k → k ≠ p) {ba0 ba1 ba2 ba3 ba4 ba5 ba6 ba7 ba8 ba9 ba10 ba11 ba12 : Value} (hc0 : c0 = #[ba0, ba1, ba2, ba3, ba4, ba5, ba6, ba7, ba8, ba9, ba10, ba11, ba12]) (h0 : B 0 = true) {a' : SV} (hr : SRep Q W q.1 a') : W27 Q w W0 p r L c0 q (upB B 12) u (((((((((((((W.setCell ⟨p, 0, none⟩ (.int .i64 L.d)).setCell ⟨p, 1, none⟩ (.int .i64 L.n)).setCell ⟨p, 2, none⟩ (.int .i64 L.b)).setCell ⟨p, 3, none⟩ (.int .i64 L.a)).setCell ⟨p, 4, none⟩ (.int .i64 L.x)).setCell ⟨p, 5, none⟩ (.slice a'.A1 a'.n1 a'.c1)).setCell ⟨p, 6, none⟩ (.slice a'.A2 a'.n2 a'.c2)).setCell ⟨p, 7, none⟩ (.int .i64 q.1.u.d)).setCell ⟨p, 8, none⟩ (.int .i64 q.1.u.n)).setCell ⟨p, 9, none⟩ (.int .i64 q.1.u.b)).setCell ⟨p, 10, none⟩ (.int .i64 q.1.u.a)).setCell ⟨p, 11, none⟩ (.int .i64 q.1.u.x)).setCell ⟨p, 12, none⟩ (.int .i64 q.1.err)) := by
  have hz := h.z12 hB
  rw [hc0] at hz
  have ho : Off [p] W (((((((((((((W.setCell ⟨p, 0, none⟩ (.int .i64 L.d)).setCell ⟨p, 1, none⟩ (.int .i64 L.n)).setCell ⟨p, 2, none⟩ (.int .i64 L.b)).setCell ⟨p, 3, none⟩ (.int .i64 L.a)).setCell ⟨p, 4, none⟩ (.int .i64 L.x)).setCell ⟨p, 5, none⟩ (.slice a'.A1 a'.n1 a'.c1)).setCell ⟨p, 6, none⟩ (.slice a'.A2 a'.n2 a'.c2)).setCell ⟨p, 7, none⟩ (.int .i64 q.1.u.d)).setCell ⟨p, 8, none⟩ (.int .i64 q.1.u.n)).setCell ⟨p, 9, none⟩ (.int .i64 q.1.u.b)).setCell ⟨p, 10, none⟩ (.int .i64 q.1.u.a)).setCell ⟨p, 11, none⟩ (.int .i64 q.1.u.x)).setCell ⟨p, 12, none⟩ (.int .i64 q.1.err)) := (Off.set (Off.set (Off.set (Off.set (Off.set (Off.set (Off.set (Off.set (Off.set (Off.set (Off.set (Off.set (Off.set (Off.refl _ _) (by simp) _) (by simp) _) (by simp) _) (by simp) _) (by simp) _) (by simp) _) (by simp) _) (by simp) _) (by simp) _) (by simp) _) (by simp) _) (by simp) _) (by simp) _)
  have hon : SameOn Q W (((((((((((((W.setCell ⟨p, 0, none⟩ (.int .i64 L.d)).setCell ⟨p, 1, none⟩ (.int .i64 L.n)).setCell ⟨p, 2, none⟩ (.int .i64 L.b)).setCell ⟨p, 3, none⟩ (.int .i64 L.a)).setCell ⟨p, 4, none⟩ (.int .i64 L.x)).setCell ⟨p, 5, none⟩ (.slice a'.A1 a'.n1 a'.c1)).setCell ⟨p, 6, none⟩ (.slice a'.A2 a'.n2 a'.c2)).setCell ⟨p, 7, none⟩ (.int .i64 q.1.u.d)).setCell ⟨p, 8, none⟩ (.int .i64 q.1.u.n)).setCell ⟨p, 9, none⟩ (.int .i64 q.1.u.b)).setCell ⟨p, 10, none⟩ (.int .i64 q.1.u.a)).setCell ⟨p, 11, none⟩ (.int .i64 q.1.u.x)).setCell ⟨p, 12, none⟩ (.int .i64 q.1.err)) := ho.on (fun k hk => by simpa using hQ k hk)
  have eo : upB B 12 13 = B 13 := upB_ne (by decide)
  have hob : (((((((((((((W.setCell ⟨p, 0, none⟩ (.int .i64 L.d)).setCell ⟨p, 1, none⟩ (.int .i64 L.n)).setCell ⟨p, 2, none⟩ (.int .i64 L.b)).setCell ⟨p, 3, none⟩ (.int .i64 L.a)).setCell ⟨p, 4, none⟩ (.int .i64 L.x)).setCell ⟨p, 5, none⟩ (.slice a'.A1 a'.n1 a'.c1)).setCell ⟨p, 6, none⟩ (.slice a'.A2 a'.n2 a'.c2)).setCell ⟨p, 7, none⟩ (.int .i64 q.1.u.d)).setCell ⟨p, 8, none⟩ (.int .i64 q.1.u.n)).setCell ⟨p, 9, none⟩ (.int .i64 q.1.u.b)).setCell ⟨p, 10, none⟩ (.int .i64 q.1.u.a)).setCell ⟨p, 11, none⟩ (.int .i64 q.1.u.x)).setCell ⟨p, 12, none⟩ (.int .i64 q.1.err)).heap[r]? = W.heap[r]? := ho.2 r (h.lt).2 (by simpa using Ne.symm hpr)
  refine ⟨(Gr.setCell (Gr.setCell (Gr.setCell (Gr.setCell (Gr.setCell (Gr.setCell (Gr.setCell (Gr.setCell (Gr.setCell (Gr.setCell (Gr.setCell (Gr.setCell (Gr.setCell h.gr hw _) hw _) hw _) hw _) hw _) hw _) hw _) hw _) hw _) hw _) hw _) hw _) hw _), h.off.trans (Off.set (Off.set (Off.set (Off.set (Off.set (Off.set (Off.set (Off.set (Off.set (Off.set (Off.set (Off.set (Off.set (Off.refl _ _) (by simp) _) (by simp) _) (by simp) _) (by simp) _) (by simp) _) (by simp) _) (by simp) _) (by simp) _) (by simp) _) (by simp) _) (by simp) _) (by simp) _) (by simp) _), fun k hk hx => ?_, fun hx => ?_, fun hx => ?_, fun hx => ?_, fun hx => ?_, fun hx => ?_, fun hx => ?_, fun hx => ?_, fun hx => ?_⟩
  · exact upB_or h0
  · rw [upB_ne (by decide)] at hx
    obtain ⟨a', v', he, hs, hn⟩ := h.c7 hx
    exact ⟨a', v', he, hs.on hon, hn.on hon⟩
  · rw [upB_ne (by decide)] at hx
    obtain ⟨a', v', he, hs, hn⟩ := h.c8 hx
    exact ⟨a', v', he, hs.on hon, hn.on hon⟩
  · rw [upB_ne (by decide)] at hx
    obtain ⟨a', he, hs⟩ := h.c9 hx
    exact ⟨a', he, hs.on hon⟩
  · rw [upB_ne (by decide)] at hx
    obtain ⟨a', he, hs⟩ := h.c10 hx
    exact ⟨a', he, hs.on hon⟩
  · rw [upB_at] at hx
    cases hx
  · exact ⟨a', state_set hz _ _ _ _ _ _ _ _ _ _ _ _ _, hr.on hon⟩
  · rw [eo] at hx
    exact hob.trans (h.z13 hx)
  · rw [eo] at hx
    obtain ⟨a', h1, h2⟩ := h.c13 hx
    exact ⟨a', hob.trans h1, h2.on hon⟩
theorem W27.st13 {Q : Nat → Prop} {w W0 W : World} {p r : Nat} {L : U5} {c0 : Array Value} {q : RSt × NT × Int} {B : Nat → Bool} {u : Nat → Value} (h : W27 Q w W0 p r L c0 q B u W) (hB : B 13 = false) (hpr : p ≠ r) (hw : w.heap.size ≤ r) (hQ : ∀ k, Q k → k ≠ r) {v' : ND} (hr : NR Q W v' q.2.1) : W27 Q w W0 p r L c0 q (upB B 13) u (((((W.setCell ⟨r, 0, none⟩ (.int .i64 v'.k)).setCell ⟨r, 1, none⟩ (.string (bs v'.l))).setCell ⟨r, 2, none⟩ (.string (bs v'.x))).setCell ⟨r, 3, none⟩ (.slice v'.A v'.n v'.c)).setCell ⟨r, 4, none⟩ (.string (bs v'.e))) := by
  have hz := h.z13 hB
  have ho : Off [r] W (((((W.setCell ⟨r, 0, none⟩ (.int .i64 v'.k)).setCell ⟨r, 1, none⟩ (.string (bs v'.l))).setCell ⟨r, 2, none⟩ (.string (bs v'.x))).setCell ⟨r, 3, none⟩ (.slice v'.A v'.n v'.c)).setCell ⟨r, 4, none⟩ (.string (bs v'.e))) := (Off.set (Off.set (Off.set (Off.set (Off.set (Off.refl _ _) (by simp) _) (by simp) _) (by simp) _) (by simp) _) (by simp) _)
  have hon : SameOn Q W (((((W.setCell ⟨r, 0, none⟩ (.int .i64 v'.k)).setCell ⟨r, 1, none⟩ (.string (bs v'.l))).setCell ⟨r, 2, none⟩ (.string (bs v'.x))).setCell ⟨r, 3, none⟩ (.slice v'.A v'.n v'.c)).setCell ⟨r, 4, none⟩ (.string (bs v'.e))) := ho.on (fun k hk => by simpa using hQ k hk)
  have eo : upB B 13 12 = B 12 := upB_ne (by decide)
  have hob : (((((W.setCell ⟨r, 0, none⟩ (.int .i64 v'.k)).setCell ⟨r, 1, none⟩ (.string (bs v'.l))).setCell ⟨r, 2, none⟩ (.string (bs v'.x))).setCell ⟨r, 3, none⟩ (.slice v'.A v'.n v'.c)).setCell ⟨r, 4, none⟩ (.string (bs v'.e))).heap[p]? = W.heap[p]? := ho.2 p (h.lt).1 (by simpa using hpr)
  refine ⟨(Gr.setCell (Gr.setCell (Gr.setCell (Gr.setCell (Gr.setCell h.gr hw _) hw _) hw _) hw _) hw _), h.off.trans (Off.set (Off.set (Off.set (Off.set (Off.set (Off.refl _ _) (by simp) _) (by simp) _) (by simp) _) (by simp) _) (by simp) _), fun k hk hx => ?_, fun hx => ?_, fun hx => ?_, fun hx => ?_, fun hx => ?_, fun hx => ?_, fun hx => ?_, fun hx => ?_, fun hx => ?_⟩
  · rw [upB_ne (fun e => by subst e; revert hk; decide)] at hx
    exact upB_or (h.dep k hk hx)
  · rw [upB_ne (by decide)] at hx
    obtain ⟨a', v', he, hs, hn⟩ := h.c7 hx
    exact ⟨a', v', he, hs.on hon, hn.on hon⟩
  · rw [upB_ne (by decide)] at hx
    obtain ⟨a', v', he, hs, hn⟩ := h.c8 hx
    exact ⟨a', v', he, hs.on hon, hn.on hon⟩
  · rw [upB_ne (by decide)] at hx
    obtain ⟨a', he, hs⟩ := h.c9 hx
    exact ⟨a', he, hs.on hon⟩
  · rw [upB_ne (by decide)] at hx
    obtain ⟨a', he, hs⟩ := h.c10 hx
    exact ⟨a', he, hs.on hon⟩
  · rw [eo] at hx
    exact hob.trans (h.z12 hx)
  · rw [eo] at hx
    obtain ⟨a', h1, h2⟩ := h.c12 hx
    exact ⟨a', hob.trans h1, h2.on hon⟩
  · rw [upB_at] at hx
    cases hx
  · exact ⟨v', five_setR hz _ _ _ _ _, hr.on hon⟩
end Go.Proofs.Ytbfnmgiccbdglaa
