/- Package span's Invert, walked. -/
import Derived.Test.YtapginodpikijaaSpanInv
import Derived.Laws.OwnMore
namespace Go.Proofs.Ytapginodpikijaa
open Go.ChangeShapes Go.WideShapes Go.ChangeAt Go.RowKit
open Go.Lib hiding intOf

theorem set3 (P D : List Value) (j : Nat) (a b c : Value) (hP : P.length = j * 3) (hD : 3 ≤ D.length) : (((P ++ D).set (j * 3) a).set (j * 3 + 1) b).set (j * 3 + 2) c = P ++ ([a, b, c] ++ D.drop 3) := by
  match D, hD with
  | x :: y :: z :: r, _ =>
    rw [List.set_append_right _ _ (by omega), List.set_append_right _ _ (by omega), List.set_append_right _ _ (by omega)]
    have h1 : j * 3 - P.length = 0 := by omega
    have h2 : j * 3 + 1 - P.length = 1 := by omega
    have h3 : j * 3 + 2 - P.length = 2 := by omega
    rw [h1, h2, h3]
    rfl
theorem RunsAt.at {W : World} {A : Option Addr} {n : Nat} {rs : List Run} (h : RunsAt W A n rs) {i : Nat} (hi : i < n) : ∃ b off r, A = some ⟨b, off, none⟩ ∧ b < W.heap.size ∧ rs[i]? = some r ∧
    W.cell? ⟨b, off + i * 3, none⟩ = some (.int .i64 r.i) ∧ W.cell? ⟨b, off + i * 3 + 1, none⟩ = some (.int .i64 r.k) ∧ W.cell? ⟨b, off + i * 3 + 2, none⟩ = some (.int .i64 r.n) := by
  have hl := h.1
  rcases h.2 with ⟨_, h0⟩ | ⟨b, off, rfl, h2, h3⟩
  · omega
  · have hr : rs[i]? = some (rs[i]'(by omega)) := List.getElem?_eq_getElem _
    obtain ⟨c0, c1, c2⟩ := h3 i _ hr
    exact ⟨b, off, _, rfl, h2 (by omega), hr, c0, c1, c2⟩
def InvRel (w1 : World) (rs : List Run) (init : List Value) (n g : Nat) (iv : Value) (wr : World) : Prop :=
  ∃ j : Nat, j ≤ n ∧ iv = .int .i64 j ∧ Gr w1 wr ∧ wr.ownsRow w1.heap.size 57 3 (.slice (some ⟨g, 0, none⟩) n n) n (((rs.take j).map Run.swap).flatMap Run.cells ++ init.drop (j * 3))
def EdPost2 (dst : List UInt8) (rs : List Run) (w : World) (e : Ending) (w' : World) : Prop := ∃ A n c, e = .returned (.tuple #[.string (bs dst), .slice A n c, .int .i64 0]) ∧ n ≤ c ∧ c ≤ maxLen ∧ RunsAt w' A n rs ∧ Gr w w'
def InvPost (es : List EN) (w : World) (e : Ending) (w' : World) : Prop := ∃ A n c, e = .returned (.tuple #[.slice A n c, .int .i64 0]) ∧ n ≤ c ∧ c ≤ maxLen ∧ EditsAt w' A n (es.map EN.ed) ∧ Gr w w'
set_option maxRecDepth 100000 in
theorem invertP_bad (src : List UInt8) (A : Option Addr) (len cap : Nat) (es : List ED) (w : World) (he : EditsAt w A len es) (hl : len ≤ 5000) (hc : checkF es src.length ≠ 0) :
    Calls Try.prog 14 #[.string (bs src), .slice A len cap] w (R2 (.slice none 0 0) (.int .i64 (checkF es src.length)) w) := by
  have hcb : (checkF es src.length == 0) = false := by simpa using hc
  go_enter Try.func14, Try.ntmps14
  go_wp2_with fail
  refine (editedP_bad src A len cap es w he hl hc).mono ?_
  rintro e w1 ⟨rfl, hb1⟩
  go_wp2_with fail
  go_ret2
  exact ⟨rfl, hb1⟩
set_option maxRecDepth 100000 in
set_option maxHeartbeats 8000000 in
theorem invertP_ok (src : List UInt8) (A : Option Addr) (len cap : Nat) (ns : List EN) (w : World) (he : EditsAt w A len (ns.map EN.ed)) (hl : len ≤ 5000) (hc : checkF (ns.map EN.ed) src.length = 0) (hok : Ok src.length 0 ns)
    (hsum : src.length + texts ns ≤ 1048576) : Calls Try.prog 14 #[.string (bs src), .slice A len cap] w (InvPost (invF src ns) w) := by
  have hnl : ns.length = len := by have := he.1; simpa using this
  have hrc := runs_count src.length ns 0 0
  have hch := runs_chain src ns 0 0 hok (Nat.zero_le _)
  rw [Nat.zero_add] at hch
  have hch2 := ChainSw _ _ _ _ _ hch
  have hdl := appF_delta src ns 0 hok (Nat.zero_le _)
  have hdb := delta_le src.length ns 0 hok (Nat.zero_le _)
  have hTb : (appF src 0 ns).length ≤ 1048576 := by omega
  obtain ⟨i0, hi, hz0, hz1, hz2⟩ := info_parts infoRun
  unfold invF
  have HCH := Lib.hid hch2
  have HED : Hid (Calls Try.prog 29 #[.string (bs src), .slice A len cap] w (EdPost2 (appF src 0 ns) (runsF src.length 0 0 ns) w)) := Lib.hid (editedP_ok src A len cap ns w he hl hc hok hsum)
  clear hch hch2 hdl hdb he hc hok
  generalize runsF src.length 0 0 ns = rs at *
  generalize appF src 0 ns = dst at *
  go_enter Try.func14, Try.ntmps14
  go_wp2_with fail
  refine HED.out.mono ?_
  rintro e w1 ⟨A1, n, c1, rfl, hn1, _, hr1, hb1⟩
  have hn : rs.length = n := hr1.1
  have hlw := Below.size hb1
  have HR1 := Lib.hid hr1
  clear HED hr1
  go_wp2_with (at_make; (refine wpList_make_full _ rfl _ _ 53 rfl w1.heap.size 57 i0 _ 3 Try.underlying53 hi hz0 hz1 .i64 .i64 _ _ n rfl rfl rfl rfl (by rw [hz2]; omega) (by unfold maxLen; omega) (by omega) ?_); intro w2 hown2 hgrow2)
  have hG2 : Gr w1 w2 := Gr.grown hgrow2
  obtain ⟨init, hinit⟩ : ∃ l, l = (madeCells (Value.agg #[Value.int IntKind.i64 0, Value.int IntKind.i64 0, Value.int IntKind.i64 0]).cells (n * 3)).toList := ⟨_, rfl⟩
  rw [← hinit] at hown2
  have hil : init.length = n * 3 := hown2.1
  have hgl : w1.heap.size < w2.heap.size := (hown2.lt _ rfl).2
  have HOWN2 := Lib.hid hown2
  clear hinit hgrow2 hown2
  obtain ⟨g, hg⟩ : ∃ g, g = w1.heap.size := ⟨_, rfl⟩
  rw [← hg] at HOWN2 ⊢
  have HG := Lib.hid hg
  have hgl2 : g < w2.heap.size := by omega
  have hgw : w1.heap.size ≤ g := by omega
  clear hg
  go_loopw [27] (fun iv wr => InvRel w1 rs init n g iv wr) (fun iv _ => n - (intOf iv).toNat)
  case atStart => exact ⟨0, Nat.zero_le _, rfl, hG2, by simpa [← HG.out] using HOWN2.out⟩
  case round =>
    obtain ⟨j, hj, rfl, hG, hown⟩ := hrel
    have HOWN := Lib.hid hown
    have hg2 : g < wr.heap.size := (hown.lt _ rfl).2
    by_cases hlt : j < n
    · obtain ⟨b, off, r, rfl, hb, hrj, d0, d1, d2⟩ := (HR1.out.keep hG).at hlt
      have HRJ := Lib.hid hrj
      have hpl : (((rs.take j).map Run.swap).flatMap Run.cells).length = j * 3 := by
        rw [flat3, List.length_map, List.length_take, hn, Nat.min_eq_left (by omega)]
      have hlen : (((rs.take j).map Run.swap).flatMap Run.cells ++ init.drop (j * 3)).length = n * 3 := hown.1
      obtain ⟨z0, q0⟩ : ∃ z, wr.cell? ⟨g, j * 3, none⟩ = some z := ⟨_, (hown.cellAt (j * 3) (by omega)).trans (List.getElem?_eq_getElem (by omega))⟩
      obtain ⟨z1, q1⟩ : ∃ z, wr.cell? ⟨g, j * 3 + 1, none⟩ = some z := ⟨_, (hown.cellAt (j * 3 + 1) (by omega)).trans (List.getElem?_eq_getElem (by omega))⟩
      obtain ⟨z2, q2⟩ : ∃ z, wr.cell? ⟨g, j * 3 + 2, none⟩ = some z := ⟨_, (hown.cellAt (j * 3 + 2) (by omega)).trans (List.getElem?_eq_getElem (by omega))⟩
      have f0 := hown.frozenAt (j * 3)
      have f1 := hown.frozenAt (j * 3 + 1)
      have f2 := hown.frozenAt (j * 3 + 2)
      have HPL := Lib.hid hpl
      clear hown hrj hpl hlen
      go_wp2_with fail
      go_roundw
      case rel =>
        refine ⟨j + 1, by omega, by go_num, (by with_reducible (repeat (first | exact Gr.refl _ | assumption | apply Gr.alloc | apply Gr.drew | apply Gr.drewN | refine Gr.setCell ?_ (by first | (simp; done) | (simp; omega)) _ | refine Gr.trans ?_ (by assumption)))), ?_⟩
        refine World.ownsRow.alloc ?_ _
        have h1 := (((HOWN.out.stored (j * 3) (.int .i64 r.k)).1.stored (j * 3 + 1) (.int .i64 r.i)).1.stored (j * 3 + 2) (.int .i64 r.n)).1
        rw [set3 _ _ j _ _ _ HPL.out (by rw [List.length_drop]; omega), List.drop_drop] at h1
        rw [take_succ_at HRJ.out, List.map_append, List.flatMap_append, List.append_assoc, show (j + 1) * 3 = j * 3 + 3 from by omega]
        exact h1
      case measure => simp [intOf]; omega
    · have hjn : j = n := by omega
      have h2 := HOWN.out
      rw [hjn, ← hn, List.take_length, hn, List.drop_of_length_le (by omega), List.append_nil] at h2
      obtain ⟨A4, c4, hv4, _, _, hr4⟩ := RunsAt.of_own h2 (by rw [List.length_map]; exact hn)
      simp only [Value.slice.injEq] at hv4
      obtain ⟨rfl, _, rfl⟩ := hv4
      have HBT := Lib.hid (betweenP_any dst src (rs.map Run.swap) wr (some ⟨g, 0, none⟩) n n hr4 (Nat.le_refl _) (fun h => by cases h) HCH.out (by omega) (by omega) (by rw [List.length_map]; omega))
      clear h2 hr4 HOWN HCH hjn
      go_wp2_with fail
      refine HBT.out.mono ?_
      rintro e w3 ⟨A5, n5, c5, rfl, h5, h6, h7, h8⟩
      go_wp2_with fail
      go_ret2
      exact ⟨A5, n5, c5, rfl, h5, h6, h7, hb1.trans (hG.trans h8)⟩
end Go.Proofs.Ytapginodpikijaa
