/- The reference's Apply, walked. -/
import Derived.Test.YtapginodpikijaaSpanLives
import Derived.Laws.Concat
namespace Go.Proofs.Ytapginodpikijaa
open Go.ChangeShapes Go.WideShapes Go.ChangeAt Go.RowKit
open Go.Lib hiding intOf

def ApplyRRel (w : World) (src : List UInt8) (ns : List EN) (ov av iv : Value) (wr : World) : Prop :=
  ∃ (j a : Nat) (out : List UInt8), j ≤ ns.length ∧ iv = .int .i64 j ∧ av = .int .i64 a ∧ ov = .string (bs out) ∧ Gr w wr ∧ a ≤ src.length ∧ Ok src.length a (ns.drop j) ∧ out ++ appF src a (ns.drop j) = appF src 0 ns
set_option maxRecDepth 100000 in
theorem applyRP_bad (src : List UInt8) (A : Option Addr) (len cap : Nat) (es : List ED) (w : World) (he : EditsAt w A len es) (hl : len ≤ 5000) (hc : checkF es src.length ≠ 0) :
    Calls Try.prog 13 #[.string (bs src), .slice A len cap] w (R2 (.string (bs [])) (.int .i64 (checkF es src.length)) w) := by
  have hcb : (checkF es src.length == 0) = false := by simpa using hc
  have hlen : ((bs src).size : Int) = src.length := rfl
  go_enter Try.func13, Try.ntmps13
  go_wp2_with fail
  refine (checkRP_any A len cap es _ _ he hl).mono ?_
  rintro e w1 ⟨rfl, hb1⟩
  go_wp2_with fail
  go_ret2
  exact ⟨rfl, hb1⟩
set_option maxRecDepth 100000 in
set_option maxHeartbeats 8000000 in
theorem applyRP_ok (src : List UInt8) (A : Option Addr) (len cap : Nat) (ns : List EN) (w : World) (he : EditsAt w A len (ns.map EN.ed)) (hl : len ≤ 5000) (hc : checkF (ns.map EN.ed) src.length = 0) (hok : Ok src.length 0 ns)
    (hsum : src.length + texts ns ≤ 1048576) : Calls Try.prog 13 #[.string (bs src), .slice A len cap] w (R2 (.string (bs (appF src 0 ns))) (.int .i64 0) w) := by
  have hnl : ns.length = len := by have := he.1; simpa using this
  have hdl := appF_delta src ns 0 hok (Nat.zero_le _)
  have hdb := delta_le src.length ns 0 hok (Nat.zero_le _)
  have hTb : (appF src 0 ns).length ≤ 1048576 := by omega
  have HE := Lib.hid he
  have HOK := Lib.hid hok
  have HC := Lib.hid hc
  clear he hok hc hdl hdb
  go_enter Try.func13, Try.ntmps13
  go_wp2_with fail
  refine (checkRP_any A len cap _ _ _ HE.out hl).mono ?_
  rw [show (((bs src).size : Nat) : Int) = src.length from rfl, HC.out]
  rintro e w1 ⟨rfl, hb1⟩
  go_wp2_with fail
  go_loopw [7, 8, 9] (fun ov av iv wr => ApplyRRel w src ns ov av iv wr) (fun _ _ iv _ => len - (intOf iv).toNat)
  case atStart => exact ⟨0, 0, [], Nat.zero_le _, rfl, rfl, rfl, hb1, Nat.zero_le _, HOK.out, rfl⟩
  case round =>
    obtain ⟨j, a, out, hj, rfl, rfl, rfl, hG, ha, hok, happ⟩ := hrel
    have HAPP := Lib.hid happ
    have hTl : out.length + (appF src a (ns.drop j)).length ≤ 1048576 := by rw [← List.length_append, happ]; exact hTb
    clear happ
    by_cases hlt : j < len
    · obtain ⟨e, hge⟩ : ∃ e, ns[j]? = some e := ⟨ns[j]'(by omega), List.getElem?_eq_getElem _⟩
      obtain ⟨b, off, rfl, hb⟩ := (HE.out.keep hG).addr hlt
      obtain ⟨d0, d1, d2⟩ := (HE.out.keep hG).cellsN hge
      have hdr := drop_at hge
      rw [hdr] at hok hTl
      have HDR := Lib.hid hdr
      obtain ⟨o1, o2, o3, o4⟩ := hok
      have HO4 := Lib.hid o4
      have hcl := cut_length src a e.f (by omega)
      have hbk : e.f ≤ (bs src).size := by show e.f ≤ src.length; omega
      have hob : out.length + (e.f - a) + e.s.length ≤ 1048576 := by
        simp only [appF, List.length_append, hcl] at hTl
        omega
      have HCL := Lib.hid hcl
      have hx : (bs src).extract a e.f = bs (cut src a e.f) := bs_extract _ _ _
      have s0 : (bs (cut src a e.f)).size = e.f - a := hcl
      have s1 : (bs out).size + ((bs src).extract a e.f).size ≤ 9223372036854775807 := by rw [hx, s0]; show out.length + _ ≤ _; omega
      have s2 : (bs out ++ (bs src).extract a e.f).size + (bs e.s).size ≤ 9223372036854775807 := by
        rw [hx, bs_append]
        show (out ++ cut src a e.f).length + e.s.length ≤ _
        rw [List.length_append, hcl]
        omega
      have hcat : bs out ++ (bs src).extract a e.f ++ bs e.s = bs (out ++ cut src a e.f ++ e.s) := by rw [hx, bs_append, bs_append]
      obtain ⟨q, hq⟩ : ∃ q, q = out ++ cut src a e.f ++ e.s := ⟨_, rfl⟩
      rw [← hq] at hcat
      have hqb : q.length ≤ 1048576 := by rw [hq, List.length_append, List.length_append, hcl]; omega
      have hqs : ((bs q).size : Int) = q.length := rfl
      have HQ := Lib.hid hq
      have HCAT := Lib.hid hcat
      clear hge hdr o4 hcl hTl hx s0 hcat hq
      go_wp2_with fail
      go_quiet (fail)
      rw [HCAT.out]
      go_wp2_with fail
      go_roundw
      case rel => exact ⟨j + 1, e.t, q, by omega, by go_num, rfl, rfl, hG.drewN nq, o3, HO4.out, by rw [← HAPP.out, HDR.out, HQ.out]; simp [appF, List.append_assoc]⟩
      case measure => simp [intOf]; omega
    · have hjn : j = ns.length := by omega
      have happ := HAPP.out
      rw [hjn, List.drop_length] at happ
      have hal : (bs src).extract a (bs src).size = bs (src.drop a) := by
        rw [bs_extract]
        unfold cut
        rw [bs_size, List.take_of_length_le (by simp)]
      have hcat : bs out ++ (bs src).extract a (bs src).size = bs (appF src 0 ns) := by rw [hal, bs_append, ← happ]; rfl
      have s1 : (bs out).size + ((bs src).extract a (bs src).size).size ≤ 9223372036854775807 := by
        rw [hal]
        show out.length + (src.drop a).length ≤ _
        rw [List.length_drop]
        omega
      have hab : a ≤ (bs src).size := ha
      have hTs : ((bs (appF src 0 ns)).size : Int) = (appF src 0 ns).length := rfl
      have hsz : ((bs src).size : Int) = src.length := rfl
      clear happ hal hok hTl
      go_wp2_with fail
      go_ret2
      exact ⟨rfl, hG⟩
end Go.Proofs.Ytapginodpikijaa
