/- The reference's Check, walked. -/
import Derived.Test.YtapginodpikijaaSpanFns
import Derived.Deep.QuietTactic
import Derived.BigQuiet
namespace Go.Proofs.Ytapginodpikijaa
open Go.ChangeShapes Go.WideShapes Go.ChangeAt Go.RowKit

/-- The span of the edit before. -/
def prevOf (es : List ED) : Nat → Option (Int × Int)
  | 0 => none
  | k + 1 => (es[k]?).map fun e => (e.f, e.t)
theorem checkLR_bad {size : Int} {e : ED} {r : List ED} {p : Option (Int × Int)} (h : validS e.f e.t size = false) : checkLR size (e :: r) p = 2 := by
  rw [checkLR.eq_def]
  dsimp only
  rw [if_pos h]
theorem checkLR_one {size : Int} {e : ED} {r : List ED} (h : validS e.f e.t size = true) : checkLR size (e :: r) none = checkLR size r (some (e.f, e.t)) := by
  rw [checkLR.eq_def]
  dsimp only
  rw [if_neg (by rw [h]; decide)]
theorem checkLR_two {size : Int} {e : ED} {r : List ED} {a b : Int} (h : validS e.f e.t size = true) : checkLR size (e :: r) (some (a, b)) = if e.f < b ∨ a = e.t then 25 else checkLR size r (some (e.f, e.t)) := by
  rw [checkLR.eq_def]
  dsimp only
  rw [if_neg (by rw [h]; decide)]
theorem prevOf_at {es : List ED} {k : Nat} {e : ED} (h : es[k]? = some e) : prevOf es (k + 1) = some (e.f, e.t) := by
  rw [prevOf, h]
  rfl
def CheckRRel (w : World) (es : List ED) (size : Int) (iv : Value) (wr : World) : Prop :=
  ∃ j : Nat, j ≤ es.length ∧ iv = .int .i64 j ∧ checkLR size (es.drop j) (prevOf es j) = checkLR size es none ∧ Gr w wr
theorem EditsAt.cells {W : World} {b off len : Nat} {es : List ED} (h : EditsAt W (some ⟨b, off, none⟩) len es) {i : Nat} {e : ED} (he : es[i]? = some e) :
    W.cell? ⟨b, off + i * 3, none⟩ = some (.int .i64 e.f) ∧ W.cell? ⟨b, off + i * 3 + 1, none⟩ = some (.int .i64 e.t) ∧ W.cell? ⟨b, off + i * 3 + 2, none⟩ = some (.string (bs e.s)) := by
  have hi : i < len := by rw [← h.1]; exact (List.getElem?_eq_some_iff.1 he).1
  obtain ⟨b', off', e', ha, _, he', _, _, _, h1, h2, h3⟩ := h.at hi
  cases ha
  rw [he] at he'
  cases he'
  exact ⟨h1, h2, h3⟩
set_option maxRecDepth 100000 in
set_option maxHeartbeats 4000000 in
theorem checkRP_any (A : Option Addr) (len cap : Nat) (es : List ED) (size : Int) (w : World) (he : EditsAt w A len es) (hl : len ≤ 5000) :
    Calls Try.prog 22 #[.slice A len cap, .int .i64 size] w (RI (checkF es size) w) := by
  have HE := Lib.hid he
  have hlen : es.length = len := he.1
  clear he
  by_cases hbig : 4096 < len
  · have hR : checkF es size = 10 := by unfold checkF; rw [if_pos (by omega)]
    rw [hR]; clear hR
    go_enter Try.func22, Try.ntmps22
    go_wp2_with fail
    go_ret
    exact ⟨rfl, (by with_reducible (repeat (first | exact Gr.refl _ | assumption | apply Gr.alloc | apply Gr.drew | apply Gr.drewN | refine Gr.setCell ?_ (by first | (simp; done) | (simp; omega)) _ | refine Gr.trans ?_ (by assumption))))⟩
  · have hR : checkF es size = checkLR size es none := by unfold checkF; rw [if_neg (by omega), checkL_eq]
    rw [hR]; clear hR
    go_enter Try.func22, Try.ntmps22
    go_wp2_with fail
    go_loopw [5] (fun iv wr => CheckRRel w es size iv wr) (fun iv _ => len - (intOf iv).toNat)
    case atStart => exact ⟨0, Nat.zero_le _, rfl, rfl, (by with_reducible (repeat (first | exact Gr.refl _ | assumption | apply Gr.alloc | apply Gr.drew | apply Gr.drewN | refine Gr.setCell ?_ (by first | (simp; done) | (simp; omega)) _ | refine Gr.trans ?_ (by assumption))))⟩
    case round =>
      obtain ⟨j, hj, rfl, hR, hG⟩ := hrel
      have HR := Lib.hid hR
      clear hR
      by_cases hlt : j < len
      · obtain ⟨b, off, e, rfl, hb, hge, w1, w2, w3, d0, d1, d2⟩ := (HE.out.keep hG).at hlt
        have hrest := drop_at hge
        have HGE := Lib.hid hge
        have HREST := Lib.hid hrest
        clear hge hrest w1 w2 w3
        cases hv : validS e.f e.t size with
        | false =>
          go_wp2_with fail
          refine (validRP_eq _ _ _ false _ hv).mono ?_
          rintro e1 w1 ⟨rfl, hb1⟩
          go_wp2_with fail
          go_ret
          have hR2 := HR.out
          rw [HREST.out, checkLR_bad hv] at hR2
          exact ⟨congrArg (fun z => Ending.returned (.int .i64 z)) hR2, (by with_reducible (repeat (first | exact Gr.refl _ | assumption | apply Gr.alloc | apply Gr.drew | apply Gr.drewN | refine Gr.setCell ?_ (by first | (simp; done) | (simp; omega)) _ | refine Gr.trans ?_ (by assumption))))⟩
        | true =>
          match j, hlt with
          | 0, hlt =>
            have g0 : wr.cell? ⟨b, off, none⟩ = some (.int .i64 e.f) := d0
            have g1 : wr.cell? ⟨b, off + 1, none⟩ = some (.int .i64 e.t) := d1
            have g2 : wr.cell? ⟨b, off + 2, none⟩ = some (.string (bs e.s)) := d2
            have hR2 := HR.out
            rw [HREST.out, prevOf, checkLR_one hv, ← prevOf_at HGE.out] at hR2
            have HR2 := Lib.hid hR2
            clear hR2 d0 d1 d2
            go_wp2_with fail
            refine (validRP_eq _ _ _ true _ hv).mono ?_
            rintro e1 w1 ⟨rfl, hb1⟩
            go_wp2_with fail
            refine ⟨⟨1, by omega, by go_num, HR2.out, (by with_reducible (repeat (first | exact Gr.refl _ | assumption | apply Gr.alloc | apply Gr.drew | apply Gr.drewN | refine Gr.setCell ?_ (by first | (simp; done) | (simp; omega)) _ | refine Gr.trans ?_ (by assumption))))⟩, by simp [intOf]; omega⟩
          | k + 1, hlt =>
            obtain ⟨e', he'⟩ : ∃ e', es[k]? = some e' := ⟨es[k]'(by omega), List.getElem?_eq_getElem _⟩
            obtain ⟨p0, p1, _⟩ := (HE.out.keep hG).cells he'
            have HE' := Lib.hid he'
            clear he'
            go_wp2_with fail
            refine (validRP_eq _ _ _ true _ hv).mono ?_
            rintro e1 w1 ⟨rfl, hb1⟩
            obtain ⟨hc1, hf1, hs1⟩ := Gr.cells hb1
            have c0 := (hc1 _ _ hb).trans d0
            have c1 := (hc1 _ _ hb).trans d1
            have c2 := (hc1 _ _ hb).trans p0
            have c3 := (hc1 _ _ hb).trans p1
            have hb' : b < w1.heap.size := by omega
            clear hc1 hf1
            have hR2 := HR.out
            rw [HREST.out, prevOf_at HE'.out, checkLR_two hv] at hR2
            have HR2 := Lib.hid hR2
            clear hR2
            by_cases t1 : e.f < e'.t
            · have t1' : decide (e.f < e'.t) = true := decide_eq_true t1
              go_wp2_with fail
              go_quiet (fail)
              go_wp2_with fail
              go_ret
              have hR3 := HR2.out
              rw [if_pos (.inl t1)] at hR3
              exact ⟨congrArg (fun z => Ending.returned (.int .i64 z)) hR3, (by with_reducible (repeat (first | exact Gr.refl _ | assumption | apply Gr.alloc | apply Gr.drew | apply Gr.drewN | refine Gr.setCell ?_ (by first | (simp; done) | (simp; omega)) _ | refine Gr.trans ?_ (by assumption))))⟩
            · have t1' : decide (e.f < e'.t) = false := decide_eq_false t1
              go_wp2_with fail
              go_quiet (fail)
              go_wp2_with fail
              · go_ret
                have hR3 := HR2.out
                rw [if_pos (by (try simp only [beq_iff_eq] at *); omega)] at hR3
                exact ⟨congrArg (fun z => Ending.returned (.int .i64 z)) hR3, (by with_reducible (repeat (first | exact Gr.refl _ | assumption | apply Gr.alloc | apply Gr.drew | apply Gr.drewN | refine Gr.setCell ?_ (by first | (simp; done) | (simp; omega)) _ | refine Gr.trans ?_ (by assumption))))⟩
              · have hR3 := HR2.out
                rw [if_neg (by (try simp only [beq_eq_false_iff_ne, ne_eq] at *); omega), ← prevOf_at HGE.out] at hR3
                refine ⟨⟨k + 1 + 1, by omega, by go_num, hR3, (by with_reducible (repeat (first | exact Gr.refl _ | assumption | apply Gr.alloc | apply Gr.drew | apply Gr.drewN | refine Gr.setCell ?_ (by first | (simp; done) | (simp; omega)) _ | refine Gr.trans ?_ (by assumption))))⟩, by simp [intOf]; omega⟩
      · have hjl : j = es.length := by omega
        have HJ := Lib.hid hjl
        clear hjl hj
        go_wp2_with fail
        go_ret
        have hR2 := HR.out
        rw [HJ.out, List.drop_length, checkLR] at hR2
        exact ⟨congrArg (fun z => Ending.returned (.int .i64 z)) hR2, (by with_reducible (repeat (first | exact Gr.refl _ | assumption | apply Gr.alloc | apply Gr.drew | apply Gr.drewN | refine Gr.setCell ?_ (by first | (simp; done) | (simp; omega)) _ | refine Gr.trans ?_ (by assumption))))⟩
end Go.Proofs.Ytapginodpikijaa
