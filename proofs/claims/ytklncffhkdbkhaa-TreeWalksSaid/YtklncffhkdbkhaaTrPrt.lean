/- Print of package tree, walked. -/
import Derived.Test.YtklncffhkdbkhaaTrChk
import Derived.Test.YtklncffhkdbkhaaBld
import Derived.OneCell
namespace Go.Proofs.Ytklncffhkdbkhaa
open Go.ChangeShapes Go.WideShapes Go.ChangeAt Go.RowKit

def BT (B b : Nat) (l : List UInt8) (w : World) : Prop := Lib.IsBuilder 69 5 B b (Lib.byteCells l) w
theorem byteCells_app (a b : List UInt8) : Lib.byteCells (a ++ b) = Lib.byteCells a ++ Lib.byteCells b := by simp [Lib.byteCells]
theorem strCells_bs (l : List UInt8) : Lib.strCells (bs l) = Lib.byteCells l := rfl
theorem BT.alloc {B b : Nat} {l : List UInt8} {w : World} (h : BT B b l w) (o : Obj) : BT B b l (w.alloc o) := by
  have key : ∀ p, Lib.BuilderAt 69 5 B b p (Lib.byteCells l) w → Lib.BuilderAt 69 5 B b p (Lib.byteCells l) (w.alloc o) := by
    rintro p ⟨h1, v, h2, h3, h4⟩
    refine ⟨h1, v, ?_, h3.alloc o, h4⟩
    show (w.heap.push o)[b]? = _
    rw [Array.getElem?_push, if_neg (by have := lt_of_block h2; omega)]
    exact h2
  exact h.elim (fun k => .inl (key _ k)) (fun k => .inr (key _ k))
/-- What a writing call leaves: nothing below B, no box of another kind has turned. -/
structure WK (B b : Nat) (w w' : World) : Prop where
  bel : Below B w w'
  oth : OK1 b w w'
theorem WK.refl (B b : Nat) (w : World) : WK B b w w := ⟨Below.refl _ _, Lib.OthersKept.refl _ _ _⟩
theorem WK.trans {B b : Nat} {a c d : World} (h : WK B b a c) (k : WK B b c d) : WK B b a d := ⟨Below.trans h.bel k.bel, h.oth.trans k.oth⟩
theorem WK.alloc {B b : Nat} {a w : World} (h : WK B b a w) (hB : B ≤ a.heap.size) (o : Obj) : WK B b a (w.alloc o) := ⟨Below.alloc h.bel (Nat.le_trans hB h.bel.size) o, h.oth.alloc o⟩
theorem WK.on {B b : Nat} {w w' : World} (h : WK B b w w') : SameOn (fun k => k < B) w w' := ⟨h.bel.size, fun k o hk hl => by
  have := h.bel.block k hk
  simp [World.cell?, this]⟩
theorem WK.box {B b k : Nat} {w w' : World} {cs : Array Value} (h : WK B b w w') (hk : w.heap[k]? = some (.cells cs 24 (0, 0))) (hb : k ≠ b) : w'.heap[k]? = some (.cells cs 24 (0, 0)) := by
  refine h.oth k _ hk (fun e => hb (by cases e; rfl)) (fun c fz he => ?_)
  simp only [Obj.cells.injEq] at he
  exact absurd he.2.1 (by decide)
theorem BT.lt {B b : Nat} {l : List UInt8} {w : World} (h : BT B b l w) : b < w.heap.size ∧ B ≤ b := by
  rcases h with ⟨h1, v, h2, _⟩ | ⟨h1, v, h2, _⟩
  · exact ⟨lt_of_block h2, h1⟩
  · exact ⟨lt_of_block h2, h1⟩
theorem heapOld2 {w : World} {o : Obj} {k : Nat} (h : k < w.heap.size) : (w.alloc o).heap[k]? = w.heap[k]? := by
  show (w.heap.push o)[k]? = _
  rw [Array.getElem?_push, if_neg (by omega)]
theorem alloc_on2 {P : Nat → Prop} {W : World} (o : Obj) : SameOn P W (W.alloc o) := ((Gr.refl W).alloc o).on P
def WritePost (B b : Nat) (l : List UInt8) (w : World) (e : Ending) (w' : World) : Prop := e = .returned (.tuple #[]) ∧ BT B b l w' ∧ WK B b w w'
theorem writeStringP (B b : Nat) (l s : List UInt8) (w : World) (h : BT B b l w) (hlen : l.length + s.length ≤ 140737488355328) (hBw : B ≤ w.heap.size) :
    Calls Try.prog 49 #[.pointer (some ⟨b, 0, none⟩), .string (bs s)] w fun e w' => e = .returned (.tuple #[.int .i64 (bs s).size, .nilIface]) ∧ BT B b (l ++ s) w' ∧ WK B b w w' := by
  refine (writeStringP_any B b (Lib.byteCells l) (bs s) w h (by rw [Lib.byteCells_length]; exact hlen) hBw).mono ?_
  rintro e w' ⟨he, h1, h2, h3⟩
  refine ⟨he, .inr ?_, ⟨h2, h3⟩⟩
  rw [strCells_bs, ← byteCells_app] at h1
  exact h1
def WrRel (B b b0 : Nat) (W : World) (l : List UInt8) (cs : Array Value) (ks : List NT) (n : Nat) (iv : Value) (wr : World) : Prop :=
  ∃ j : Nat, j ≤ n ∧ iv = .int .i64 j ∧ BT B b (l ++ printL (ks.take j)) wr ∧ WK B b W wr ∧ wr.heap[b0]? = some (.cells cs 24 (0, 0))
set_option maxRecDepth 100000 in
set_option maxHeartbeats 4000000 in
theorem writeP_any : ∀ (m : Nat) (v : ND) (t : NT) (B b : Nat) (l : List UInt8) (w : World), NRep (fun k => k < B) m w v t → BT B b l w → B ≤ w.heap.size → l.length + lenF t ≤ 140737488355328 → Calls Try.prog 44 #[.pointer (some ⟨b, 0, none⟩), .agg #[.int .i64 v.k, .string (bs v.l), .string (bs v.x), .slice v.A v.n v.c, .string (bs v.e)]] w (WritePost B b (l ++ printF t) w) := by
  intro m
  induction m with
  | zero => intro v t B b l w h; exact h.elim
  | succ m ih =>
    intro v t B b l w hr hbt hB hlen
    obtain ⟨A, n, c, rfl, p1, p2, p3, p4, p5, p6, p7, p8, p9⟩ := hr.open5
    have hn63 : n ≤ maxLen := Nat.le_trans p2 p3
    unfold maxLen at hn63 p3 p5 p6 p7
    have HI := Lib.hid ih
    have HN := Lib.hid p1
    have HK0 : Hid (Kids (fun k => k < B) m w A t.ks) := Lib.hid p9
    clear ih hr p9 p8 p4
    dsimp only
    have hle := lenF_eq t
    have HLE := Lib.hid hle
    have hpr := printF_eq t
    have HPR := Lib.hid hpr
    obtain ⟨hbl, hBb⟩ := hbt.lt
    have HBT := Lib.hid hbt
    clear hbt hpr
    clear p1
    have hbx0 : (w.alloc (.cells #[.int .i64 t.k, .string (bs t.l), .string (bs t.x), .slice A n c, .string (bs t.e)] 24)).heap[w.heap.size]? = some (.cells #[.int .i64 t.k, .string (bs t.l), .string (bs t.x), .slice A n c, .string (bs t.e)] 24 (0, 0)) := heap_alloc_new _ _
    have HB0 : Hid (BT B b l (w.alloc (.cells #[.int .i64 t.k, .string (bs t.l), .string (bs t.x), .slice A n c, .string (bs t.e)] 24))) := Lib.hid (HBT.out.alloc _)
    have hk0 : WK B b w (w.alloc (.cells #[.int .i64 t.k, .string (bs t.l), .string (bs t.x), .slice A n c, .string (bs t.e)] 24)) := (WK.refl B b w).alloc hB _
    go_enter Try.func44, Try.ntmps44
    go_wp2_with fail
    generalize (w.alloc (.cells #[.int .i64 t.k, .string (bs t.l), .string (bs t.x), .slice A n c, .string (bs t.e)] 24)) = W1 at *
    generalize hb0e : w.heap.size = b0 at *
    have hb0b : b0 ≠ b := by omega
    refine (writeStringP B b l t.l _ HB0.out (by omega) (by have := hk0.bel.size; omega)).mono ?_
    rintro e w2 ⟨rfl, hbt2, hkk2⟩
    have hk2 := hk0.trans hkk2
    have hbx2 := hkk2.box hbx0 hb0b
    have c2 : w2.cell? ⟨b0, 2, none⟩ = some (.string (bs t.x)) := cell_of_cells hbx2 2
    have HX2 := Lib.hid hbx2
    clear hbx2 hkk2
    go_wp2_with fail
    refine (writeStringP B b (l ++ t.l) t.x _ hbt2 (by rw [List.length_append]; omega) (by have := hk2.bel.size; omega)).mono ?_
    rintro e w3 ⟨rfl, hbt3, hkk3⟩
    have hk3 := hk2.trans hkk3
    have hbx3 := hkk3.box HX2.out hb0b
    have c3 : w3.cell? ⟨b0, 3, none⟩ = some (.slice A n c) := cell_of_cells hbx3 3
    have HX3 := Lib.hid hbx3
    have HB3 := Lib.hid hbt3
    clear hbx3 hkk3 hbt2 hbt3 c2
    go_wp2_with fail
    clear c3
    go_loopw [17] (fun iv wr => WrRel B b b0 w (l ++ t.l ++ t.x) #[.int .i64 t.k, .string (bs t.l), .string (bs t.x), .slice A n c, .string (bs t.e)] t.ks n iv wr) (fun iv _ => n - (intOf iv).toNat)
    case atStart => exact ⟨0, Nat.zero_le _, rfl, by simpa [printL] using HB3.out, hk3, HX3.out⟩
    case round =>
      obtain ⟨j, hj, rfl, hbt, hkr, hbx⟩ := hrel
      have HBT4 := Lib.hid hbt
      have HX4 := Lib.hid hbx
      obtain ⟨hbl4, _⟩ := hbt.lt
      have hsz4 := hkr.bel.size
      clear hbt hbx
      by_cases hlt : j < n
      · obtain ⟨y, hy⟩ : ∃ y, t.ks[j]? = some y := ⟨t.ks[j]'(by have := HN.out; omega), List.getElem?_eq_getElem _⟩
        have HY := Lib.hid hy
        obtain ⟨bk, ok, d, hA, hbkB, hbk, hce, hre⟩ := HK0.out.on hkr.on j y hy
        subst hA
        clear hy
        have HE := Lib.hid hre
        obtain ⟨e0, e1, e2, e3, e4⟩ := hce
        have hlt1 : (j : Int) < (n : Int) := by omega
        have hg := lenL_get _ _ _ HY.out
        have hpl := printL_len (t.ks.take j)
        have HPL := Lib.hid hpl
        clear hre hpl
        go_wp2_with fail
        refine (HI.out d y B b (l ++ t.l ++ t.x ++ printL (t.ks.take j)) _ (NRep.keep (alloc_on2 _) _ _ _ HE.out) (HBT4.out.alloc _) (by simp; omega) (by have h1 := HPL.out; have h2 := HLE.out; simp only [List.length_append]; omega)).mono ?_
        rintro e w5 ⟨rfl, hbt5, hkk5⟩
        have hbx5 := hkk5.box ((heapOld2 (lt_of_block HX4.out)).trans HX4.out) hb0b
        have hk5 := (hkr.alloc (by omega) _).trans hkk5
        go_wp2_with fail
        go_roundw
        case rel => exact ⟨j + 1, by omega, by go_num, by rw [take_succ_at HY.out, printL_app, ← List.append_assoc]; simpa [printL] using hbt5, hk5, hbx5⟩
        case measure => simp [intOf] <;> omega
      · have hjn : j = n := by omega
        have c4 : wr.cell? ⟨b0, 4, none⟩ = some (.string (bs t.e)) := cell_of_cells HX4.out 4
        have hpl := printL_len (t.ks.take j)
        have htk : t.ks.take j = t.ks := List.take_of_length_le (by have := HN.out; omega)
        rw [htk] at hpl HBT4
        have HPL := Lib.hid hpl
        clear hpl htk
        go_wp2_with fail
        refine (writeStringP B b (l ++ t.l ++ t.x ++ printL t.ks) t.e _ HBT4.out (by have h1 := HPL.out; have h2 := HLE.out; simp only [List.length_append]; omega) (by omega)).mono ?_
        rintro e w5 ⟨rfl, hbt5, hkk5⟩
        go_wp2_with fail
        go_end0
        rw [HPR.out]
        exact ⟨rfl, by simpa [List.append_assoc] using hbt5, hkr.trans hkk5⟩
end Go.Proofs.Ytklncffhkdbkhaa
