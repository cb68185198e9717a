/- Package span's 'edited', walked. -/
import Derived.Test.YtapginodpikijaaSpanKeep
import Derived.Lib.SlBytesRow
namespace Go.Proofs.Ytapginodpikijaa
open Go.ChangeShapes Go.WideShapes Go.ChangeAt Go.RowKit
open Go.Lib hiding intOf

/- ## Plain -/
/-- What the edits add to the size. -/
def delta : List EN → Int
  | [] => 0
  | e :: r => (e.s.length : Int) - (e.t - e.f) + delta r
theorem delta_app : ∀ (a b : List EN), delta (a ++ b) = delta a + delta b
  | [], b => by simp [delta]
  | e :: r, b => by simp only [List.cons_append, delta, delta_app r b]; omega
theorem appF_delta (src : List UInt8) : ∀ (es : List EN) (a : Nat), Ok src.length a es → a ≤ src.length → ((appF src a es).length : Int) = src.length - a + delta es
  | [], a, _, h => by simp only [appF, List.length_drop, delta]; omega
  | e :: r, a, ⟨h1, h2, h3, h4⟩, h => by
    have := appF_delta src r e.t h4 h3
    simp only [appF, List.length_append, cut_length src a e.f (by omega), delta]
    omega
theorem take_succ_at {α : Type} {l : List α} {j : Nat} {e : α} (h : l[j]? = some e) : l.take (j + 1) = l.take j ++ [e] := by
  rw [List.take_add_one, h]
  rfl
/-- The sum of the texts' lengths. -/
def texts (es : List EN) : Nat := (es.map fun e => e.s.length).sum
theorem delta_le (size : Nat) : ∀ (es : List EN) (a : Nat), Ok size a es → a ≤ size → -((size : Int) - a) ≤ delta es ∧ delta es ≤ texts es
  | [], a, _, h => by simp [delta, texts]; omega
  | e :: r, a, ⟨h1, h2, h3, h4⟩, h => by
    have := delta_le size r e.t h4 h3
    simp only [delta, texts, List.map_cons, List.sum_cons] at this ⊢
    omega
theorem Ok.take {size : Nat} : ∀ {es : List EN} {a : Nat} (j : Nat), Ok size a es → Ok size a (es.take j)
  | [], _, _, _ => by simp [Ok]
  | _ :: _, _, 0, _ => by simp [Ok]
  | e :: r, a, j + 1, ⟨h1, h2, h3, h4⟩ => ⟨h1, h2, h3, h4.take j⟩
theorem texts_take : ∀ (es : List EN) (j : Nat), texts (es.take j) ≤ texts es
  | [], _ => by simp [texts]
  | _ :: _, 0 => by simp [texts]
  | e :: r, j + 1 => by
    have := texts_take r j
    simp only [texts, List.take_succ_cons, List.map_cons, List.sum_cons] at this ⊢
    omega
theorem Ok.at {size : Nat} : ∀ {es : List EN} {a : Nat} {j : Nat} {e : EN}, Ok size a es → es[j]? = some e → e.f ≤ e.t ∧ e.t ≤ size
  | [], _, _, _, _, h => by simp at h
  | x :: r, a, 0, e, ⟨h1, h2, h3, h4⟩, h => by
    simp only [List.getElem?_cons_zero, Option.some.injEq] at h
    subst h
    exact ⟨h2, h3⟩
  | x :: r, a, j + 1, e, ⟨h1, h2, h3, h4⟩, h => h4.at (by simpa using h)

theorem texts_mem : ∀ {es : List EN} {j : Nat} {e : EN}, es[j]? = some e → e.s.length ≤ texts es
  | [], _, _, h => by simp at h
  | x :: r, 0, e, h => by
    simp only [List.getElem?_cons_zero, Option.some.injEq] at h
    subst h
    simp only [texts, List.map_cons, List.sum_cons]
    omega
  | x :: r, j + 1, e, h => by
    have := texts_mem (es := r) (j := j) (e := e) (by simpa using h)
    simp only [texts, List.map_cons, List.sum_cons] at this ⊢
    omega

/- ## The walk -/
theorem EditsAt.cellsN {W : World} {b off len : Nat} {ns : List EN} (h : EditsAt W (some ⟨b, off, none⟩) len (ns.map EN.ed)) {i : Nat} {e : EN} (he : ns[i]? = some e) :
    W.cell? ⟨b, off + i * 3, none⟩ = some (.int .i64 e.f) ∧ W.cell? ⟨b, off + i * 3 + 1, none⟩ = some (.int .i64 e.t) ∧ W.cell? ⟨b, off + i * 3 + 2, none⟩ = some (.string (bs e.s)) :=
  h.cells (e := e.ed) (by rw [List.getElem?_map, he]; rfl)
theorem EditsAt.addr {W : World} {A : Option Addr} {len : Nat} {es : List ED} (h : EditsAt W A len es) {i : Nat} (hi : i < len) : ∃ b off, A = some ⟨b, off, none⟩ ∧ b < W.heap.size := by
  obtain ⟨b, off, _, h1, h2, _⟩ := h.at hi
  exact ⟨b, off, h1, h2⟩
theorem cell_of_cells {w : World} {b : Nat} {cs : Array Value} {t : TypeId} (h : w.heap[b]? = some (.cells cs t (0, 0))) (o : Nat) : w.cell? ⟨b, o, none⟩ = cs[o]? := by simp [World.cell?, h]
theorem keepR_le (a k e : Nat) : (keepR a k e).length ≤ 1 := by
  unfold keepR
  split <;> simp
def SizeRel (w : World) (src : List UInt8) (ns : List EN) (sz iv : Value) (wr : World) : Prop :=
  ∃ j : Nat, j ≤ ns.length ∧ iv = .int .i64 j ∧ sz = .int .i64 (src.length + delta (ns.take j)) ∧ Gr w wr ∧ w.heap.size + 1 ≤ wr.heap.size ∧ wr.heap[w.heap.size]? = some (.cells #[.string (bs src)] 9 (0, 0))
set_option maxRecDepth 100000 in
set_option maxHeartbeats 4000000 in
theorem editedP_bad (src : List UInt8) (A : Option Addr) (len cap : Nat) (es : List ED) (w : World) (he : EditsAt w A len es) (hl : len ≤ 5000) (hc : checkF es src.length ≠ 0) :
    Calls Try.prog 29 #[.string (bs src), .slice A len cap] w fun e w' => e = .returned (.tuple #[.string (bs []), .slice none 0 0, .int .i64 (checkF es src.length)]) ∧ Gr w w' := by
  have HE := Lib.hid (he.keep ((Gr.refl w).alloc (.cells #[.string (bs src)] 9)))
  have hcb : (checkF es src.length == 0) = false := by simpa using hc
  clear he hc
  go_enter Try.func29, Try.ntmps29
  go_wp2_with fail
  refine (checkP_any A len cap es _ _ HE.out hl).mono ?_
  rintro e w1 ⟨rfl, hb1⟩
  have hlen : ((bs src).size : Int) = src.length := rfl
  go_wp2_with fail
  go_ret3
  exact ⟨rfl, (by with_reducible (repeat (first | exact Gr.refl _ | assumption | apply Gr.alloc | apply Gr.drew | apply Gr.drewN | refine Gr.setCell ?_ (by first | (simp; done) | (simp; omega)) _ | refine Gr.trans ?_ (by assumption))))⟩

theorem bytes_own {w : World} {base g c : Nat} {n : Nat} {l : List UInt8} (h : w.ownsRow base 5 1 (.slice (some ⟨g, 0, none⟩) n c) n (strCells (bs l))) (hl : l.length = n) : Bytes w g 0 (bs l) := by
  intro i hi
  have hi' : i < l.length := hi
  have h1 := h.cellAt i (by omega)
  rw [Nat.zero_add, h1]
  have h2 : (strCells (bs l))[i]? = some (.int .u8 (l[i].toNat : Int)) := by simp [strCells, bs, List.getElem?_eq_getElem hi']
  rw [h2]
  rfl
theorem conv_own {w : World} {base : Nat} {A : Option Addr} {n c : Nat} {l : List UInt8} (h : w.ownsRow base 5 1 (.slice A n c) n (strCells (bs l))) (hl : l.length = n) (q : Nat) :
    (convert 62 9 (.slice A n c)).run Try.prog (w.drewN q) = .ok (.string (bs l)) (w.drewN q) := by
  rcases h.2 with ⟨h0, h1⟩ | ⟨g, cap, cur, h0, _⟩
  · simp only [Value.slice.injEq] at h0
    obtain ⟨rfl, rfl, rfl⟩ := h0
    have : l = [] := List.eq_nil_of_length_eq_zero hl
    subst this
    exact run_convert_bytes_nil _ _ _ Try.underlying62 Try.underlying5 _ _ _ Try.underlying9
  · simp only [Value.slice.injEq] at h0
    obtain ⟨rfl, _, rfl⟩ := h0
    have hb := (bytes_own h hl).drewN q
    subst hl
    exact run_convert_whole _ _ _ _ Try.underlying62 Try.underlying5 Try.underlying9 g 0 (bs l) hb _
/-- The slice at A, of length n, holds these runs. -/
def RunsAt (W : World) (A : Option Addr) (n : Nat) (rs : List Run) : Prop :=
  rs.length = n ∧ ((A = none ∧ n = 0) ∨ ∃ b off, A = some ⟨b, off, none⟩ ∧ (0 < n → b < W.heap.size) ∧ ∀ (i : Nat) (r : Run), rs[i]? = some r →
    W.cell? ⟨b, off + i * 3, none⟩ = some (.int .i64 r.i) ∧ W.cell? ⟨b, off + i * 3 + 1, none⟩ = some (.int .i64 r.k) ∧ W.cell? ⟨b, off + i * 3 + 2, none⟩ = some (.int .i64 r.n))
theorem RunsAt.keep {W w : World} {A : Option Addr} {n : Nat} {rs : List Run} (h : RunsAt W A n rs) (hg : Gr W w) : RunsAt w A n rs := by
  obtain ⟨h1, h2⟩ := h
  refine ⟨h1, ?_⟩
  rcases h2 with h2 | ⟨b, off, h3, h4, h5⟩
  · exact .inl h2
  · refine .inr ⟨b, off, h3, fun hn => Gr.lt hg (h4 hn), fun i r hr => ?_⟩
    have hb : b < W.heap.size := h4 (by have := (List.getElem?_eq_some_iff.1 hr).1; omega)
    obtain ⟨c0, c1, c2⟩ := h5 i r hr
    exact ⟨(hg.cells.1 b _ hb).trans c0, (hg.cells.1 b _ hb).trans c1, (hg.cells.1 b _ hb).trans c2⟩
theorem runs_flat : ∀ (rs : List Run) (i j : Nat) (r : Run), rs[i]? = some r → j < 3 → (rs.flatMap Run.cells)[i * 3 + j]? = r.cells[j]?
  | [], _, _, _, h, _ => by simp at h
  | x :: q, 0, j, r, h, hj => by
    simp only [List.getElem?_cons_zero, Option.some.injEq] at h
    subst h
    rw [List.flatMap_cons, List.getElem?_append_left (by show 0 * 3 + j < 3; omega)]
    simp
  | x :: q, i + 1, j, r, h, hj => by
    have hx : x.cells.length = 3 := rfl
    rw [List.flatMap_cons, List.getElem?_append_right (by rw [hx]; omega), hx]
    have h1 : (i + 1) * 3 + j - 3 = i * 3 + j := by omega
    rw [h1]
    exact runs_flat q i j r (by simpa using h) hj
theorem RunsAt.of_own {W : World} {B : Nat} {t : TypeId} {v : Value} {n : Nat} {rs : List Run} (hown : W.ownsRow B t 3 v n (rs.flatMap Run.cells)) (hl : rs.length = n) : ∃ A c, v = .slice A n c ∧ n ≤ c ∧ c ≤ maxLen ∧ RunsAt W A n rs := by
  have hown' := hown
  rcases hown.2 with ⟨rfl, h0⟩ | ⟨g, cap, cur, rfl, _, hh, hc, hm, _⟩
  · exact ⟨none, 0, by rw [h0], by omega, Nat.zero_le _, hl, .inl ⟨rfl, h0⟩⟩
  · refine ⟨_, _, rfl, hc, hm, hl, .inr ⟨g, 0, rfl, fun _ => lt_of_block hh, fun i r hr => ?_⟩⟩
    have hi : i < n := by have := (List.getElem?_eq_some_iff.1 hr).1; omega
    have key : ∀ j u, j < 3 → r.cells[j]? = some u → W.cell? ⟨g, 0 + i * 3 + j, none⟩ = some u := fun j u hj hu => by
      have h1 := runs_flat rs i j r hr hj
      rw [hu] at h1
      have h2 := (hown'.cellAt (i * 3 + j) (by omega)).trans h1
      simpa [Nat.add_assoc] using h2
    exact ⟨key 0 _ (by omega) rfl, key 1 _ (by omega) rfl, key 2 _ (by omega) rfl⟩

def EdRel (w : World) (src : List UInt8) (ns : List EN) (ba br bo : Nat) (iv : Value) (wr : World) : Prop :=
  ∃ (j a : Nat) (rs : List Run) (out : List UInt8) (vr vo : Value), j ≤ ns.length ∧ iv = .int .i64 j ∧ EdSt w ba br bo w.heap.size src wr a rs out vr vo ∧ rs.length ≤ j ∧ a ≤ src.length ∧ Ok src.length a (ns.drop j) ∧
    out ++ appF src a (ns.drop j) = appF src 0 ns ∧ rs ++ runsF src.length a out.length (ns.drop j) = runsF src.length 0 0 ns
def EdPost (src : List UInt8) (ns : List EN) (w : World) (e : Ending) (w' : World) : Prop :=
  ∃ A n c, e = .returned (.tuple #[.string (bs (appF src 0 ns)), .slice A n c, .int .i64 0]) ∧ n ≤ c ∧ c ≤ maxLen ∧ RunsAt w' A n (runsF src.length 0 0 ns) ∧ Gr w w'
set_option maxRecDepth 100000 in
set_option maxHeartbeats 4000000 in
theorem editedP_ok (src : List UInt8) (A : Option Addr) (len cap : Nat) (ns : List EN) (w : World) (he : EditsAt w A len (ns.map EN.ed)) (hl : len ≤ 5000) (hc : checkF (ns.map EN.ed) src.length = 0) (hok : Ok src.length 0 ns)
    (hsum : src.length + texts ns ≤ 1048576) : Calls Try.prog 29 #[.string (bs src), .slice A len cap] w (EdPost src ns w) := by
  have HE := Lib.hid he
  have hlen : ns.length = len := by have := he.1; simpa using this
  have hd := delta_le src.length ns 0 hok (Nat.zero_le _)
  have hT := appF_delta src ns 0 hok (Nat.zero_le _)
  generalize hTe : (appF src 0 ns).length = T at hT
  have HTe := Lib.hid hTe
  have HT := Lib.hid hT
  have HOK := Lib.hid hok
  have HC := Lib.hid hc
  have hTb : T ≤ 1048576 := by omega
  clear he hc hok hTe hT hd
  obtain ⟨i1, hy, hy0, hy1, hy2⟩ := info_parts infoU8
  go_enter Try.func29, Try.ntmps29
  go_wp2_with fail
  refine (checkP_any A len cap _ _ _ (HE.out.keep ((Gr.refl w).alloc _)) hl).mono ?_
  rw [show (((bs src).size : Nat) : Int) = src.length from rfl, HC.out]
  rintro e w1 ⟨rfl, hb1⟩
  obtain ⟨hc1, hf1, hs1⟩ := Gr.cells hb1
  simp at hs1
  have hbx : w1.heap[w.heap.size]? = some (.cells #[.string (bs src)] 9 (0, 0)) := (Below.block hb1 w.heap.size (by simp)).trans (heap_alloc_new w _)
  have cx := cell_of_one hbx
  have fx := free_of_one hbx
  have HBX := Lib.hid hbx
  clear hbx hc1 hf1
  have hsz : ((bs src).size : Int) = src.length := rfl
  have hG1 : Gr w w1 := (by with_reducible (repeat (first | exact Gr.refl _ | assumption | apply Gr.alloc | apply Gr.drew | apply Gr.drewN | refine Gr.setCell ?_ (by first | (simp; done) | (simp; omega)) _ | refine Gr.trans ?_ (by assumption))))
  go_wp2_with fail
  go_loopw [8, 28] (fun sz iv wr => SizeRel w src ns sz iv wr) (fun _ iv _ => len - (intOf iv).toNat)
  case atStart => exact ⟨0, Nat.zero_le _, rfl, by simp [delta], hG1, hs1, HBX.out⟩
  case round =>
    obtain ⟨j, hj1, rfl, rfl, hG, hB, hbw⟩ := hrel
    have HBW := Lib.hid hbw
    clear hbw
    by_cases hlt : j < len
    · obtain ⟨e, hge⟩ : ∃ e, ns[j]? = some e := ⟨ns[j]'(by omega), List.getElem?_eq_getElem _⟩
      obtain ⟨b, off, rfl, hb⟩ := (HE.out.keep hG).addr hlt
      obtain ⟨d0, d1, d2⟩ := (HE.out.keep hG).cellsN hge
      obtain ⟨o1, o2⟩ := HOK.out.at hge
      have ht := texts_mem hge
      have hdb := delta_le src.length (ns.take j) 0 (HOK.out.take j) (Nat.zero_le _)
      have htt := texts_take ns j
      have hst : delta (ns.take (j + 1)) = delta (ns.take j) + ((e.s.length : Int) - (e.t - e.f)) := by
        rw [take_succ_at hge, delta_app]
        simp [delta]
      have HST := Lib.hid hst
      have hes : ((bs e.s).size : Int) = e.s.length := rfl
      clear hge hst
      generalize delta (ns.take j) = D at *
      go_wp2_with fail
      go_roundw
      case rel => exact ⟨j + 1, by omega, by go_num, by rw [HST.out]; go_num, (by with_reducible (repeat (first | exact Gr.refl _ | assumption | apply Gr.alloc | apply Gr.drew | apply Gr.drewN | refine Gr.setCell ?_ (by first | (simp; done) | (simp; omega)) _ | refine Gr.trans ?_ (by assumption)))), by simp; omega, (heap_alloc_old (by omega)).trans HBW.out⟩
      case measure => simp [intOf]; omega
    · have hjn : j = ns.length := by omega
      have hDT : (src.length : Int) + delta (ns.take j) = T := by
        rw [hjn, List.take_length, HT.out]
        simp
      rw [hDT]
      have HJN := Lib.hid hjn
      clear hjn hDT hj1 HT cx fx
      have hlw : w.heap.size < wr.heap.size := hB
      go_wp2_with (at_make; (refine wpList_make_own _ rfl _ _ 62 rfl w.heap.size 5 i1 _ 1 Try.underlying62 hy hy0 hy1 .i64 .i64 _ T rfl rfl rfl (by rw [hy2]; omega) (by unfold maxLen; omega) (by omega) ?_); intro w2 hown2 hgrow2; obtain ⟨hc2, hf2, hs2⟩ := Gr.cells (Gr.grown hgrow2))
      have hbw2 : w2.heap[w.heap.size]? = some (.cells #[.string (bs src)] 9 (0, 0)) := (hgrow2.block _ hlw (by simp)).trans HBW.out
      have hG2 : Gr w w2 := hG.trans (Gr.grown hgrow2)
      have hlw2 : w.heap.size < w2.heap.size := by omega
      have S0 : EdSt w (w2.heap.size + 1 + 1) (w2.heap.size + 1) w2.heap.size w.heap.size src (((w2.alloc (.cells #[.slice (some ⟨wr.heap.size, 0, none⟩) 0 T] 62)).alloc (.cells #[.slice none 0 0] 53)).alloc (.cells #[.int .i64 0] 3)) 0 [] [] (.slice none 0 0) (.slice (some ⟨wr.heap.size, 0, none⟩) 0 T) := by
        refine ⟨?_, ?_, ?_, ?_, World.ownsRow_nil _ _ _ _, ((hown2.alloc _).alloc _).alloc _, (by with_reducible (repeat (first | exact Gr.refl _ | assumption | apply Gr.alloc | apply Gr.drew | apply Gr.drewN | refine Gr.setCell ?_ (by first | (simp; done) | (simp; omega)) _ | refine Gr.trans ?_ (by assumption)))), by omega⟩
        · rw [heap_alloc_old (by simp; omega), heap_alloc_old (by simp; omega), heap_alloc_old hlw2]
          exact hbw2
        · have := heap_alloc_new ((w2.alloc (.cells #[.slice (some ⟨wr.heap.size, 0, none⟩) 0 T] 62)).alloc (.cells #[.slice none 0 0] 53)) (.cells #[.int .i64 0] 3)
          simpa using this
        · rw [heap_alloc_old (by simp)]
          have := heap_alloc_new (w2.alloc (.cells #[.slice (some ⟨wr.heap.size, 0, none⟩) 0 T] 62)) (.cells #[.slice none 0 0] 53)
          simpa using this
        · rw [heap_alloc_old (by simp; omega), heap_alloc_old (by simp)]
          exact heap_alloc_new w2 _
      have hsz0 : w2.heap.size + 1 + 1 + 1 = (((w2.alloc (.cells #[.slice (some ⟨wr.heap.size, 0, none⟩) 0 T] 62)).alloc (.cells #[.slice none 0 0] 53)).alloc (.cells #[.int .i64 0] 3)).heap.size := by simp
      generalize (((w2.alloc (.cells #[.slice (some ⟨wr.heap.size, 0, none⟩) 0 T] 62)).alloc (.cells #[.slice none 0 0] 53)).alloc (.cells #[.int .i64 0] 3)) = w3 at S0 hsz0 ⊢
      generalize w2.heap.size + 1 + 1 = ba at *
      generalize w2.heap.size + 1 = br at *
      generalize w2.heap.size = bo at *
      have SS0 := Lib.hid S0
      clear S0 hown2 hgrow2 hc2 hf2 hbw2 hG2 hsz0 hlw2 hs2
      go_loopw [53] (fun iv wr => EdRel w src ns ba br bo iv wr) (fun iv _ => len - (intOf iv).toNat)
      case atStart => exact ⟨0, 0, [], [], _, _, Nat.zero_le _, rfl, SS0.out, Nat.le_refl _, Nat.zero_le _, HOK.out, rfl, rfl⟩
      case round =>
        obtain ⟨j, a, rs, out, vr, vo, hj, rfl, S, hrs, ha, hok, happ, hrun⟩ := hrel
        have SS := Lib.hid S
        have HAPP := Lib.hid happ
        have HRUN := Lib.hid hrun
        have hG2 := S.gr
        have hTl : out.length + (appF src a (ns.drop j)).length = T := by rw [← HTe.out, ← happ, List.length_append]
        have ca := cell_of_one S.ha
        have co := cell_of_one S.ho
        have cs := cell_of_one S.hs
        have fa := free_of_one S.ha
        have fo := free_of_one S.ho
        have la := lt_of_block S.ha
        have lb := lt_of_block S.ho
        have lc := lt_of_block S.hs
        obtain ⟨A1, c1, rfl⟩ := own_form S.oo
        clear S happ hrun
        by_cases hlt2 : j < len
        · obtain ⟨e, hge⟩ : ∃ e, ns[j]? = some e := ⟨ns[j]'(by omega), List.getElem?_eq_getElem _⟩
          obtain ⟨b, off, rfl, hb⟩ := (HE.out.keep hG2).addr hlt2
          obtain ⟨d0, d1, d2⟩ := (HE.out.keep hG2).cellsN hge
          have hdr := drop_at hge
          have HDR := Lib.hid hdr
          rw [hdr] at hok
          obtain ⟨o1, o2, o3, o4⟩ := hok
          have HO4 := Lib.hid o4
          have ht := texts_mem hge
          clear hge hdr o4
          go_wp2_with fail
          have hcl : (cut src a e.f).length = e.f - a := cut_length _ _ _ (by omega)
          have hlo : (out ++ cut src a e.f).length = out.length + (e.f - a) := by rw [List.length_append, hcl]
          have hal : (appF src a (ns.drop j)).length = (e.f - a) + e.s.length + (appF src e.t (ns.drop (j + 1))).length := by
            rw [HDR.out]
            simp only [appF, List.length_append, hcl]
          obtain ⟨o4, ho4e⟩ : ∃ o4, o4 = out ++ cut src a e.f := ⟨_, rfl⟩
          rw [← ho4e] at hlo
          have HO4E := Lib.hid ho4e
          have HLO := Lib.hid hlo
          have hlob : o4.length + e.s.length ≤ 1048576 := by omega
          clear hcl ho4e hlo hal
          have hes : (bs e.s).size = e.s.length := rfl
          have hwr : w.heap.size ≤ wr.heap.size := Below.size hG2
          go_wp2_with fail
          refine (keepP_any w ba br bo w.heap.size src _ a rs out vr _ e.f (SS.out.alloc _) (by omega) (by omega) (by omega) (by omega)).mono ?_
          rintro e1 w4 ⟨rfl, hg4, ho4, hs4, vr4, vo4, S4⟩
          rw [← HO4E.out] at S4
          obtain ⟨A4, c4, rfl⟩ := own_form S4.oo
          have hbx := ho4 wr.heap.size _ _ (heap_alloc_new wr (.cells #[.int .i64 e.f, .int .i64 e.t, .string (bs e.s)] 44)) (by decide) (by decide) (by decide) (by decide)
          have HBX4 := Lib.hid hbx
          have x0 : w4.cell? ⟨wr.heap.size, 0, none⟩ = some (.int .i64 e.f) := cell_of_cells hbx 0
          have x1 : w4.cell? ⟨wr.heap.size, 1, none⟩ = some (.int .i64 e.t) := cell_of_cells hbx 1
          have x2 : w4.cell? ⟨wr.heap.size, 2, none⟩ = some (.string (bs e.s)) := cell_of_cells hbx 2
          have y1 := cell_of_one S4.ho
          have hw4 := Below.size hg4
          have SS4 := Lib.hid S4
          clear S4 hbx ho4
          go_wp2_with (at_builtin; go_must (refine wpList_append_own_string _ rfl (.tmp 62) (.tmp 64) 62 9 rfl w.heap.size 5 i1 Try.underlying62 Try.underlying9 hy hy0 hy1 hy2 _ o4.length (strCells (bs o4)) rfl SS4.out.oo (bs e.s) rfl (by rw [hes]; unfold maxLen; omega) (by rw [hes]; omega) hw4 ?_); intro v' w5 hown5 hgrow5 _; obtain ⟨A5, c5, rfl⟩ := own_form hown5; have S5 := Lib.hid (SS4.out.appO hgrow5 hown5); have co5 := cell_of_one S5.out.1; have fo5 := free_of_one S5.out.1; have hbx5 := grown_frame SS4.out.oo hgrow5 HBX4.out (by decide); have x5 := cell_of_cells hbx5 1; have hba5 := grown_frame SS4.out.oo hgrow5 SS4.out.ha (by decide); have ca5 := cell_of_one hba5; have fa5 := free_of_one hba5; have hne1 := block_type_ne S5.out.1 hbx5 (by decide); have hne2 := block_type_ne hba5 S5.out.1 (by decide))
          have S6 := S5.out.2
          rw [hes] at S6
          have S7 := S6.setAt e.t
          have hkl := keepR_le a out.length e.f
          refine ⟨⟨j + 1, e.t, rs ++ keepR a out.length e.f, o4 ++ e.s, _, _, by omega, by go_num, S7, by rw [List.length_append]; omega, o3, HO4.out, ?_, ?_⟩, by simp [intOf]; omega⟩
          · rw [← HAPP.out, HDR.out, HO4E.out]
            simp [appF, List.append_assoc]
          · rw [← HRUN.out, HDR.out, List.length_append, HLO.out]
            simp [runsF, List.append_assoc]
        · have hjn : j = ns.length := by omega
          have happ := HAPP.out
          have hrun := HRUN.out
          rw [hjn, List.drop_length] at happ hrun hTl
          have hct : cut src a src.length = src.drop a := by
            unfold cut
            rw [List.take_of_length_le (by simp)]
          have hfin : out ++ cut src a src.length = appF src 0 ns := by rw [hct]; exact happ
          have hrfin : rs ++ keepR a out.length src.length = runsF src.length 0 0 ns := hrun
          have HFIN := Lib.hid hfin
          have HRFIN := Lib.hid hrfin
          have hol : out.length ≤ 1048576 := by omega
          clear happ hrun hTl hct hfin hrfin hok
          go_wp2_with fail
          refine (keepP_any w ba br bo w.heap.size src _ a rs out vr _ src.length SS.out (by omega) (by omega) (by omega) (by omega)).mono ?_
          rintro e1 w4 ⟨rfl, hg4, ho4, hs4, vr4, vo4, S4⟩
          rw [HFIN.out, HRFIN.out] at S4
          obtain ⟨A4, c4, rfl⟩ := own_form S4.oo
          obtain ⟨A6, c6, rfl⟩ := own_form S4.rr
          have y1 := cell_of_one S4.ho
          have y2 := cell_of_one S4.hr
          have SS4 := Lib.hid S4
          have hcv := conv_own S4.oo rfl
          have hcv0 := hcv 0
          simp only [World.drewN_zero] at hcv0
          clear S4 ho4
          go_wp2_with fail
          go_quiet (fail)
          go_wp2_with fail
          go_ret3
          obtain ⟨A7, c7, hv7, hb7, hm7, hr7⟩ := RunsAt.of_own SS4.out.rr rfl
          simp only [Value.slice.injEq] at hv7
          obtain ⟨rfl, _, rfl⟩ := hv7
          have hq : Gr w (w4.drewN nq) := hg4.drewN nq
          exact ⟨A6, _, c6, rfl, hb7, hm7, hr7.keep ((Gr.refl w4).drewN nq), hq⟩
end Go.Proofs.Ytapginodpikijaa
