/- A range over a function whose body is told, at each element, what lies in memory. -/
import Derived.Test.YtklncffhkdbkhaaTrKeep
namespace Go.Proofs.Ytklncffhkdbkhaa
open Go.ChangeShapes Go.WideShapes Go.ChangeAt Go.RowKit

/-- An iterator that hands over its elements with Ok. -/
def SeqOk {α : Type} (n : Nat) (P : Program) (g : Nat) (lb : Array Value) (encs : α → Array Value) (Ok : List α → α → World → Prop) (Kp : World → World → Prop) (S Sp : List α → Prop) (w : World) : Prop :=
  ∀ (l : Nat) (J Jx : List α → World → Prop) (W : World), Below w.heap.size w W → AbidesFrom W.heap.size J →
    (∀ pre x W1, J pre W1 → Ok pre x W1 → YieldAt Fence.wide (n - 1) P l (encs x) W1 fun e W' =>
      (e = .returned (.bool true) ∧ J (pre ++ [x]) W' ∧ Kp W1 W') ∨ (e = .returned (.bool false) ∧ Jx (pre ++ [x]) W')) →
    J [] W →
    CallsIn Fence.wide n P g (#[.func (.yield l) #[] #[]] ++ lb) W fun e W' => (∃ v, e = .returned v) ∧ ((∃ xs, S xs ∧ J xs W') ∨ (∃ pre, Sp pre ∧ Jx pre W'))

/-- The loop's record, and the block of the deferred calls. -/
def RecAt (B : Nat) (rc : Loop) (W : World) : Prop := W.heap[B + 1]? = some (.loop rc) ∧ W.heap[B]? = some (.deferred (some []))
theorem RecAt.lt {B : Nat} {rc : Loop} {W : World} (h : RecAt B rc W) : B + 1 < W.heap.size := (Array.getElem?_eq_some_iff.1 h.1).1
theorem RecAt.put {B : Nat} {rc : Loop} {W : World} (h : RecAt B rc W) (rc' : Loop) : RecAt B rc' (W.putObj (B + 1) (.loop rc')) :=
  ⟨World.putObj_heap_same h.lt, (World.putObj_heap_other (by omega)).trans h.2⟩
theorem RecAt.keeps {B : Nat} {rc : Loop} {W W' : World} (h : RecAt B rc W) (hk : KeepsFrom B W W') : RecAt B rc W' :=
  ⟨hk.same _ _ (by omega) h.1 rfl, hk.same _ _ (Nat.le_refl _) h.2 rfl⟩
theorem RecAt.grown {B : Nat} {rc : Loop} {W W' : World} {row : Option Nat} (h : RecAt B rc W) (hg : W.grownBy W' row) (hr : ∀ r, row = some r → ∃ o : Obj, W.heap[r]? = some o ∧ o.isWalk = true) : RecAt B rc W' :=
  ⟨(grownBy_keeps hg hr h.1 rfl).trans h.1, (grownBy_keeps hg hr h.2 rfl).trans h.2⟩
theorem RecAt.start (w : World) (rc : Loop) : RecAt w.heap.size rc ((w.alloc (.deferred (some []))).alloc (.loop rc)) := by
  constructor
  · have h := World.alloc_heap_new (w.alloc (.deferred (some []))) (.loop rc)
    rwa [World.size_alloc] at h
  · exact (Below.heap_alloc _ _ _ (by simp)).trans (World.alloc_heap_new w _)

theorem range_told {α : Type} {P : Program} {n : Nat} {w : World} {g : Operand} {ps : Array Tmp} {assign body : Code} {Q : Exit → Act → World → Prop} {a : Act}
    {gf : Nat} {lb : Array Value} (hg : a.eval g = .func (.func gf) #[] lb) (eg : ∀ args w, (callFunc gf args).run P w = .ok (.enter gf args) w)
    {encs : α → Array Value} {Ok : List α → α → World → Prop} {Kp : World → World → Prop} {S Sp : List α → Prop} {w0 : World} (hseq : SeqOk (n - 1) P gf lb encs Ok Kp S Sp w0)
    (hKt : ∀ {A B C : World}, Kp A B → Kp B C → Kp A C) (hKb : ∀ (W : World) (l : Nat) (o o' : Obj), W.heap[l]? = some o → o.isCells = false → Kp W (W.putObj l o')) (hb0 : Below w0.heap.size w0 w) (hps : ∀ x, (encs x).size = ps.size)
    (I : List α → World → Prop) (Ix : Code → List α → World → Prop) (hI : OwnFrom w.heap.size I) (hIx : ∀ c, OwnFrom w.heap.size (Ix c)) (h0 : I [] w) (Ax : List α → α → Act → World → Prop) (hAx : ∀ pre x a', OwnFrom w.heap.size (fun (_ : Unit) W => Ax pre x a' W))
    (hassign : ∀ (l : Nat) (pre : List α) (x : α) (W : World) (K : Act → World → Prop), I pre W → Ok pre x W → (∀ a' W', KeepsFrom w.heap.size W W' → Kp W W' → I pre W' → Ax pre x a' W' → K a' W') →
      assign.wpIn (Fence.wide.inRound l) (n - 1 - 1) P (Exit.then K (fun _ _ _ => False)) { tmps := (ps.zip (encs x)).foldl (fun t (p, v) => t.setIfInBounds p v) a.tmps, defers := [] } W)
    (hbody : ∀ (l : Nat) (pre : List α) (x : α) (a' : Act) (W : World), I pre W → Ax pre x a' W → body.wpIn (Fence.wide.inRound l) (n - 1 - 1) P (ownPostG w.heap.size Kp I Ix (pre ++ [x]) W) a' W)
    (hdone : ∀ (D : Nat) (xs : List α) (W : World), w.heap.size ≤ D → S xs → I xs W → W.heap[D]? = some (.deferred (some [])) → Q .normal { a with defers := { target := .collected D, args := #[] } :: a.defers } W)
    (hstop : ∀ (D : Nat) (c : Code) (pre : List α) (W : World), w.heap.size ≤ D → Sp pre → Ix c pre W → W.heap[D]? = some (.deferred (some [])) → c.wpIn Fence.wide n P Q { a with defers := { target := .collected D, args := #[] } :: a.defers } W) :
    (Code.rangeFunc g ps assign body).wpIn Fence.wide n P Q a w := by
  refine wpIn_rangeFunc fun fn _ => ?_
  obtain ⟨B, hB⟩ : ∃ B, B = w.heap.size := ⟨_, rfl⟩
  obtain ⟨rc, hrc⟩ : ∃ rc : LoopState → Option Code → Loop, rc = fun st pe => { state := st, pending := pe, fn, tmps := a.tmps, params := ps, assign, body, defers := B } := ⟨_, rfl⟩
  have hsE : ∀ s p, (rc s p).state = s := by intro s p; rw [hrc]
  have hpE : ∀ s p, (rc s p).pending = p := by intro s p; rw [hrc]
  have hup : ∀ s p s' p', { rc s p with state := s', pending := p' } = rc s' p' := by intro s p s' p'; rw [hrc]
  have hup1 : ∀ s p s', { rc s p with state := s' } = rc s' p := by intro s p s'; rw [hrc]
  have hR1 : RecAt B (rc .ready none) ((w.alloc (.deferred (some []))).alloc (.loop (rc .ready none))) := by rw [hB]; exact RecAt.start w _
  have hI1 : I [] ((w.alloc (.deferred (some []))).alloc (.loop (rc .ready none))) := hI.alloc _ (hI.alloc _ h0)
  have hb1 : Below w0.heap.size w0 ((w.alloc (.deferred (some []))).alloc (.loop (rc .ready none))) := hb0.trans ((((Below.refl _ w).alloc (Nat.le_refl _) _).alloc (by simp) _).mono hb0.size)
  have hsz : B < ((w.alloc (.deferred (some []))).alloc (.loop (rc .ready none))).heap.size := by rw [hB]; simp; omega
  have hen : (Instr.enterLoop fn a.tmps ps assign body Fence.wide.round).run P w = .ok (B + 1, [{ target := .collected B, args := #[] }]) ((w.alloc (.deferred (some []))).alloc (.loop (rc .ready none))) := by
    rw [hrc, hB]
    exact run_enterLoop_outer _ _ _ _ _
  clear hb0
  revert hR1 hI1 hb1 hsz hen
  generalize ((w.alloc (.deferred (some []))).alloc (.loop (rc .ready none))) = W1
  intro hR1 hI1 hb1 hsz hen
  refine ⟨B + 1, [{ target := .collected B, args := #[] }], W1, { target := .fn (.func gf) lb, args := #[.func (.yield (B + 1)) #[] #[]] }, W1, gf, #[.func (.yield (B + 1)) #[] #[]] ++ lb, W1, hen, ?_, fun _ _ => trivial, ?_, (fun h => by cases h), ?_⟩
  · simp only [resolve, hg]
    simp [go_sem]
  · simp [invoke, go_sem, eg]
  have hput : ∀ {β : Type} {L : β → World → Prop}, OwnFrom w.heap.size L → ∀ {s : β} {W : World} {r0 : Loop}, RecAt B r0 W → ∀ r1 : Loop, L s W → L s (W.putObj (B + 1) (.loop r1)) :=
    fun hL _ _ _ hr _ hs => hL.putObj _ hs (by omega) hr.1 rfl
  have hwalk : ∀ {A : World} {row : Option Nat}, (∀ r, row = some r → W1.heap.size ≤ r ∧ ∃ o : Obj, A.heap[r]? = some o ∧ o.isWalk = true) → (∀ r, row = some r → w.heap.size ≤ r ∧ ∃ o : Obj, A.heap[r]? = some o ∧ o.isCells = false) := by
    intro A row hr r e
    obtain ⟨h1, o, ho, hw⟩ := hr r e
    exact ⟨by omega, o, ho, Obj.not_cells_of_walk hw⟩
  have hcall := hseq (B + 1) (fun pre W => I pre W ∧ RecAt B (rc .ready none) W) (fun pre W => ∃ c, Ix c pre W ∧ RecAt B (rc .done (some c)) W) W1 hb1
    (fun s A A' row hs hg' hr => ⟨hI s A A' row hs.1 hg' (hwalk hr), hs.2.grown hg' (fun r e => (hr r e).2)⟩) ?_ ⟨hI1, hR1⟩
  · refine hcall.mono ?_
    clear hcall
    rintro e W2 ⟨⟨v, rfl⟩, h⟩
    rcases h with ⟨xs, hS, hi, hr⟩ | ⟨pre, hSp, c, hi, hr⟩
    · have h2 := run_endLoop (P := P) hr.1 (by rw [hsE]; simp)
      rw [hpE] at h2
      exact ⟨none, _, h2, hdone B xs _ (by omega) hS (hput hI hr _ hi) (hr.put _).2⟩
    · have h2 := run_endLoop (P := P) hr.1 (by rw [hsE]; simp)
      rw [hpE] at h2
      exact ⟨some c, _, h2, hstop B c pre _ (by omega) hSp (hput (hIx c) hr _ hi) (hr.put _).2⟩
  rintro pre x W ⟨hi, hr⟩ hok
  have hy := run_yield (P := P) (args := encs x) hr.1 (by rw [hrc]; exact hps x)
  rw [hrc] at hy
  refine ⟨_, _, _, _, hy, roundIn_of_wpIn trivial (hassign _ pre x W _ hi hok ?_)⟩
  clear hy
  intro a1 Wa hkf hkp hia hax
  have hra := hr.keeps (by rw [← hB] at hkf; exact hkf)
  refine ⟨_, run_beginRound hra.1 (hsE _ _), ?_⟩
  rw [hup1]
  have hrb := hra.put (rc .busy none)
  refine wpIn_mono (hbody _ pre x a1 _ (hput hI hra _ hia) (hput (hAx pre x a1) (s := ()) hra _ hax)) ?_
  have hw2 : Kp W (Wa.putObj (B + 1) (.loop (rc .busy none))) := hKt hkp (hKb _ _ _ _ hra.1 rfl)
  have fin : ∀ (jump : Option Code) (W3 : World), KeepsFrom w.heap.size (Wa.putObj (B + 1) (.loop (rc .busy none))) W3 → RecAt B (rc .busy none) W3 ∧
      (Instr.endRound (B + 1) jump).run P W3 = .ok (.bool jump.isNone) (W3.putObj (B + 1) (.loop (rc (if jump.isNone then .ready else .done) jump))) := by
    intro jump W3 hk3
    have h3 := hrb.keeps (by rw [← hB] at hk3; exact hk3)
    have h4 := run_endRound (P := P) jump h3.1
    rw [hup] at h4
    exact ⟨h3, h4⟩
  have stop : ∀ (c : Code) (W3 : World), KeepsFrom w.heap.size (Wa.putObj (B + 1) (.loop (rc .busy none))) W3 → Ix c (pre ++ [x]) W3 →
      ∃ v W4, (Instr.endRound (B + 1) (some c)).run P W3 = .ok v W4 ∧ ((Ending.returned v = .returned (.bool true) ∧ (I (pre ++ [x]) W4 ∧ RecAt B (rc .ready none) W4) ∧ Kp W W4) ∨ (Ending.returned v = .returned (.bool false) ∧ ∃ c, Ix c (pre ++ [x]) W4 ∧ RecAt B (rc .done (some c)) W4)) := by
    intro c W3 hk3 hi3
    obtain ⟨h3, h4⟩ := fin (some c) W3 hk3
    exact ⟨_, _, h4, .inr ⟨rfl, c, hput (hIx c) h3 _ hi3, h3.put _⟩⟩
  rintro e a3 W3 hp
  cases e with
  | normal =>
    obtain ⟨hk3, hkp3, hi3⟩ := hp
    obtain ⟨h3, h4⟩ := fin none W3 hk3
    exact ⟨_, _, h4, .inl ⟨rfl, ⟨hput hI h3 _ hi3, h3.put _⟩, hKt (hKt hw2 hkp3) (hKb _ _ _ _ h3.1 rfl)⟩⟩
  | ret => exact stop .ret W3 hp.1 hp.2
  | exit id => exact stop (.exit id) W3 hp.1 hp.2
  | goto t => exact stop (.goto t) W3 hp.1 hp.2
  | panic ch => exact hp.elim
  | outgrown => exact hp.elim
end Go.Proofs.Ytklncffhkdbkhaa
