/- Package span's Apply and Invert, walked. -/
import Derived.Test.YtapginodpikijaaSpanBtw
namespace Go.Proofs.Ytapginodpikijaa
open Go.ChangeShapes Go.WideShapes Go.ChangeAt Go.RowKit
open Go.Lib hiding intOf

theorem betweenP_any (a b : List UInt8) (rs : List Run) (w : World) (A : Option Addr) (n cap : Nat) (hr : RunsAt w A n rs) (hcap : n ≤ cap) (hcz : A = none → cap = 0) (hc : ChainR a.length b.length 0 0 rs) (ha : a.length ≤ 2097152) (hb : b.length ≤ 2097152) (hrs : rs.length ≤ 2097152) :
    Calls Try.prog 30 #[.string (bs a), .string (bs b), .slice A n cap] w (BtwPost (btwR a.length b.length b 0 0 rs) w) := by
  have hl := hr.1
  rcases hr.2 with ⟨rfl, rfl⟩ | ⟨bl, off, rfl, _⟩
  · have : rs = [] := List.eq_nil_of_length_eq_zero hl
    rw [hcz rfl]
    exact betweenP_none a b rs w 0 this (Nat.le_refl _) hc ha hb hrs
  · exact betweenP_some a b rs w cap n bl off hr hl hcap hc ha hb hrs

/- ## Apply -/
set_option maxRecDepth 100000 in
theorem applyP_bad (src : List UInt8) (A : Option Addr) (len cap : Nat) (es : List ED) (w : World) (he : EditsAt w A len es) (hl : len ≤ 5000) (hc : checkF es src.length ≠ 0) :
    Calls Try.prog 12 #[.string (bs src), .slice A len cap] w (R2 (.string (bs [])) (.int .i64 (checkF es src.length)) w) := by
  go_enter Try.func12, Try.ntmps12
  go_wp2_with fail
  refine (editedP_bad src A len cap es w he hl hc).mono ?_
  rintro e w1 ⟨rfl, hb1⟩
  go_wp2_with fail
  go_ret2
  exact ⟨rfl, hb1⟩
set_option maxRecDepth 100000 in
theorem applyP_ok (src : List UInt8) (A : Option Addr) (len cap : Nat) (ns : List EN) (w : World) (he : EditsAt w A len (ns.map EN.ed)) (hl : len ≤ 5000) (hc : checkF (ns.map EN.ed) src.length = 0) (hok : Ok src.length 0 ns)
    (hsum : src.length + texts ns ≤ 1048576) : Calls Try.prog 12 #[.string (bs src), .slice A len cap] w (R2 (.string (bs (appF src 0 ns))) (.int .i64 0) w) := by
  go_enter Try.func12, Try.ntmps12
  go_wp2_with fail
  refine (editedP_ok src A len cap ns w he hl hc hok hsum).mono ?_
  rintro e w1 ⟨A1, n1, c1, rfl, _, _, _, hb1⟩
  go_wp2_with fail
  go_ret2
  exact ⟨rfl, hb1⟩

/- ## Invert -/
theorem ChainSw (la lb : Nat) : ∀ (rs : List Run) (f t : Nat), ChainR la lb f t rs → ChainR lb la t f (rs.map Run.swap)
  | [], _, _, _ => trivial
  | _ :: rs, _, _, ⟨h1, h2, h3, h4, h5⟩ => ⟨h2, h1, h4, h3, ChainSw la lb rs _ _ h5⟩
/-- The runs of the edited text are in order. -/
theorem runs_chain (src : List UInt8) : ∀ (es : List EN) (a out : Nat), Ok src.length a es → a ≤ src.length → ChainR src.length (out + (appF src a es).length) a out (runsF src.length a out es)
  | [], a, out, _, h => by
    simp only [runsF, keepR]
    split
    · exact ⟨Nat.le_refl _, Nat.le_refl _, by show a + (src.length - a) ≤ _; omega, by simp only [appF, List.length_drop]; omega, trivial⟩
    · trivial
  | e :: r, a, out, ⟨h1, h2, h3, h4⟩, h => by
    have ih := runs_chain src r e.t (out + (e.f - a) + e.s.length) h4 h3
    have hl : (appF src a (e :: r)).length = (e.f - a) + e.s.length + (appF src e.t r).length := by
      simp only [appF, List.length_append, cut_length src a e.f (by omega)]
    rw [hl, show out + (e.f - a + e.s.length + (appF src e.t r).length) = out + (e.f - a) + e.s.length + (appF src e.t r).length from by omega]
    have mono : ∀ (rs : List Run) (f t f' t' : Nat), ChainR src.length (out + (e.f - a) + e.s.length + (appF src e.t r).length) f t rs → f' ≤ f → t' ≤ t → ChainR src.length (out + (e.f - a) + e.s.length + (appF src e.t r).length) f' t' rs := by
      intro rs f t f' t' hc hf ht
      cases rs with
      | nil => trivial
      | cons q rs =>
        obtain ⟨k1, k2, k3⟩ := hc
        exact ⟨by omega, by omega, k3⟩
    simp only [runsF, keepR]
    split
    · refine ⟨Nat.le_refl _, Nat.le_refl _, by show a + (e.f - a) ≤ _; omega, by show out + (e.f - a) ≤ _; omega, mono _ _ _ _ _ ih ?_ ?_⟩
      · show a + (e.f - a) ≤ e.t; omega
      · show out + (e.f - a) ≤ _; omega
    · rw [List.nil_append]
      exact mono _ _ _ _ _ ih (by omega) (by omega)
theorem runs_count (size : Nat) : ∀ (es : List EN) (a out : Nat), (runsF size a out es).length ≤ es.length + 1
  | [], a, out => by
    have := keepR_le a out size
    simp only [runsF]
    simpa using this
  | e :: r, a, out => by
    have h1 := keepR_le a out e.f
    have h2 := runs_count size r e.t (out + (e.f - a) + e.s.length)
    simp only [runsF, List.length_append, List.length_cons]
    omega
end Go.Proofs.Ytapginodpikijaa
