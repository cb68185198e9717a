/- lives and few, walked. -/
import Derived.Test.YtapginodpikijaaSpanInv2
namespace Go.Proofs.Ytapginodpikijaa
open Go.ChangeShapes Go.WideShapes Go.ChangeAt Go.RowKit
open Go.Lib hiding intOf

theorem edits_one {W : World} {b : Nat} {f t : Int} {s : List UInt8} (h : W.heap[b]? = some (.cells #[.int .i64 f, .int .i64 t, .string (bs s)] 44 (0, 0))) (hf : (Lit.int .i64 f).wf = true) (ht : (Lit.int .i64 t).wf = true) (hs : s.length ≤ maxLen) : EditsAt W (some ⟨b, 0, none⟩) 1 [⟨f, t, s⟩] := by
  refine ⟨rfl, ?_, fun _ => ⟨b, 0, rfl, lt_of_block h, ?_⟩⟩
  · intro e he
    simp only [List.mem_singleton] at he
    subst he
    exact ⟨hf, ht, hs⟩
  · intro i hi
    have : i = 0 := by simpa using hi
    subst this
    exact ⟨cell_of_cells h 0, cell_of_cells h 1, cell_of_cells h 2⟩
set_option maxRecDepth 100000 in
set_option maxHeartbeats 4000000 in
theorem livesP_any (w : World) : Calls Try.prog 11 #[] w (RB true w) := by
  have hb := heap_alloc_new w (.cells #[.int .i64 1, .int .i64 2, .string (bs [120, 121])] 44)
  have hE : EditsAt (w.alloc (.cells #[.int .i64 1, .int .i64 2, .string (bs [120, 121])] 44)) (some ⟨w.heap.size, 0, none⟩) 1 ([EN.mk 1 2 [120, 121]].map EN.ed) := edits_one hb (by decide) (by decide) (by decide)
  have HE := Lib.hid hE
  have hc : checkF ([EN.mk 1 2 [120, 121]].map EN.ed) (([97, 98, 99] : List UInt8).length : Nat) = 0 := by decide
  have ho : Ok ([97, 98, 99] : List UInt8).length 0 [EN.mk 1 2 [120, 121]] := ⟨by decide, by decide, by decide, trivial⟩
  have HC := Lib.hid hc
  have HO := Lib.hid ho
  clear hE hb hc ho
  go_enter Try.func11, Try.ntmps11
  go_wp2_with fail
  refine (applyP_ok [97, 98, 99] (some ⟨w.heap.size, 0, none⟩) 1 1 [EN.mk 1 2 [120, 121]] _ HE.out (by decide) HC.out HO.out (by decide)).mono ?_
  rintro e w1 ⟨rfl, hb1⟩
  have e1 : appF [97, 98, 99] 0 [EN.mk 1 2 [120, 121]] = [97, 120, 121, 99] := by rfl
  rw [e1]
  go_wp2_with fail
  refine (invertP_ok [97, 98, 99] (some ⟨w.heap.size, 0, none⟩) 1 1 [EN.mk 1 2 [120, 121]] _ (HE.out.keep hb1) (by decide) HC.out HO.out (by decide)).mono ?_
  rintro e w2 ⟨A, n, c, rfl, hn, _, hE2, hb2⟩
  have e2 : invF [97, 98, 99] [EN.mk 1 2 [120, 121]] = [EN.mk 1 3 [98]] := by rfl
  rw [e2] at hE2
  have hn1 : 1 = n := hE2.1
  subst hn1
  obtain ⟨b, off, rfl, hbl⟩ := hE2.addr (i := 0) (by omega)
  obtain ⟨d0, d1, d2⟩ := hE2.cellsN (i := 0) (e := EN.mk 1 3 [98]) rfl
  have g0 : w2.cell? ⟨b, off, none⟩ = some (.int .i64 1) := d0
  have g1 : w2.cell? ⟨b, off + 1, none⟩ = some (.int .i64 3) := d1
  have g2 : w2.cell? ⟨b, off + 2, none⟩ = some (.string ⟨#[98]⟩) := d2
  clear d0 d1 d2 hE2
  have hs : (bs [97, 120, 121, 99]) = ⟨#[97, 120, 121, 99]⟩ := rfl
  rw [hs]
  go_wp2_with fail
  go_ret
  exact ⟨rfl, (by with_reducible (repeat (first | exact Gr.refl _ | assumption | apply Gr.alloc | apply Gr.drew | apply Gr.drewN | refine Gr.setCell ?_ (by first | (simp; done) | (simp; omega)) _ | refine Gr.trans ?_ (by assumption))))⟩

def fewB (src : List UInt8) (es : List ED) : Bool := decide (src.length ≤ 300 ∧ es.length ≤ 60 ∧ ∀ e ∈ es, e.s.length ≤ 300)
def FewRel (w : World) (es : List ED) (iv : Value) (wr : World) : Prop := ∃ j : Nat, j ≤ es.length ∧ iv = .int .i64 j ∧ wr = w ∧ ∀ e ∈ es.take j, e.s.length ≤ 300
set_option maxRecDepth 100000 in
theorem fewP_any (src : List UInt8) (A : Option Addr) (len cap : Nat) (es : List ED) (w : World) (he : EditsAt w A len es) (_hlen63 : len ≤ maxLen) : Calls Try.prog 10 #[.string (bs src), .slice A len cap] w (RB (fewB src es) w) := by
  have hl : es.length = len := he.1
  have hs : ((bs src).size : Int) = src.length := rfl
  have HE := Lib.hid he
  clear he
  by_cases h1 : src.length ≤ 300 ∧ len ≤ 60
  · obtain ⟨h1, h2⟩ := h1
    go_enter Try.func10, Try.ntmps10
    go_wp2_with fail
    go_loopw [5] (fun iv wr => FewRel w es iv wr) (fun iv _ => len - (intOf iv).toNat)
    case atStart => exact ⟨0, Nat.zero_le _, rfl, rfl, by simp⟩
    case round =>
      obtain ⟨j, hj, rfl, rfl, hall⟩ := hrel
      have HALL := Lib.hid hall
      clear hall
      by_cases hlt : j < len
      · obtain ⟨b, off, rfl, hb⟩ := HE.out.addr hlt
        obtain ⟨e, hge⟩ : ∃ e, es[j]? = some e := ⟨es[j]'(by omega), List.getElem?_eq_getElem _⟩
        obtain ⟨d0, d1, d2⟩ := HE.out.cells hge
        have hes : ((bs e.s).size : Int) = e.s.length := rfl
        have HGE := Lib.hid hge
        clear hge
        by_cases hbig : e.s.length ≤ 300
        · go_wp2_with fail
          refine ⟨⟨j + 1, by omega, by go_num, rfl, ?_⟩, by simp [intOf]; omega⟩
          intro x hx
          rw [take_succ_at HGE.out] at hx
          rcases List.mem_append.1 hx with hx | hx
          · exact HALL.out x hx
          · simp only [List.mem_singleton] at hx
            subst hx
            exact hbig
        · have hbig2 : 300 < e.s.length := by omega
          go_wp2_with fail
          go_ret
          refine ⟨ret_bool ?_, Gr.refl _⟩
          symm
          unfold fewB
          rw [decide_eq_false_iff_not]
          rintro ⟨_, _, h⟩
          have := h e (List.mem_of_getElem? HGE.out)
          omega
      · have hjl : j = es.length := by omega
        have HJ := Lib.hid hjl
        clear hjl hj
        go_wp2_with fail
        go_ret
        refine ⟨ret_bool ?_, Gr.refl _⟩
        symm
        unfold fewB
        rw [decide_eq_true_eq]
        have h3 := HALL.out
        rw [HJ.out, List.take_length] at h3
        exact ⟨h1, by omega, h3⟩
  · have hR : fewB src es = false := by
      unfold fewB
      rw [decide_eq_false_iff_not]
      rintro ⟨h2, h3, _⟩
      exact h1 ⟨h2, by omega⟩
    rw [hR]
    have h2 : 300 < src.length ∨ 60 < len := by omega
    go_enter Try.func10, Try.ntmps10
    go_wp2_with fail
    all_goals (go_ret; exact ⟨rfl, Gr.refl _⟩)
end Go.Proofs.Ytapginodpikijaa
