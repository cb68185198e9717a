/- The closure 'keep' of package span's 'edited', walked. -/
import Derived.Test.YtapginodpikijaaSpanEd
namespace Go.Proofs.Ytapginodpikijaa
open Go.ChangeShapes Go.WideShapes Go.ChangeAt Go.RowKit Go.Lib

theorem news_new {W : World} {t : TypeId} {cs : List Value} {B : Nat} (hB : B = W.heap.size) : ∀ (j : Nat) (u : Value), cs[j]? = some u → (W.alloc (.cells cs.toArray t)).cell? ((⟨B, 0, none⟩ : Addr).add j) = some u := by
  intro j u hu
  subst hB
  rw [show (⟨W.heap.size, 0, none⟩ : Addr).add j = ⟨W.heap.size, j, none⟩ from by unfold Addr.add; split <;> simp_all, World.cell?_alloc_new]
  simpa using hu
theorem own_form {w : World} {base : Nat} {e : TypeId} {size : Nat} {v : Value} {n : Nat} {xs : List Value} (h : w.ownsRow base e size v n xs) : ∃ A cap, v = .slice A n cap := by
  rcases h.2 with ⟨rfl, h0⟩ | ⟨g, cap, cur, rfl, _⟩
  · exact ⟨none, 0, by rw [h0]⟩
  · exact ⟨_, _, rfl⟩
theorem infoRun : (Try.prog.info? 57).map (fun i => (i.zero, i.size, i.bytes)) = some (some (.agg #[.int .i64 0, .int .i64 0, .int .i64 0]), 3, 24) := by kernel_rfl
theorem infoU8 : (Try.prog.info? 5).map (fun i => (i.zero, i.size, i.bytes)) = some (some (.int .u8 0), 1, 1) := by kernel_rfl
theorem Run.one (r : Run) : ∀ u ∈ r.cells, u.oneCell' = true := by
  intro u hu
  simp only [Run.cells, List.mem_cons, List.not_mem_nil, or_false] at hu
  rcases hu with rfl | rfl | rfl <;> rfl
/-- Boxes of other types are as they were. -/
def Others (w w' : World) : Prop := ∀ (k : Nat) (cs : Array Value) (T : TypeId), w.heap[k]? = some (.cells cs T (0, 0)) → T ≠ 57 → T ≠ 5 → T ≠ 53 → T ≠ 62 → w'.heap[k]? = some (.cells cs T (0, 0))
theorem Others.trans {a b c : World} (h : Others a b) (k : Others b c) : Others a c := fun i cs T hi h1 h2 h3 h4 => k i cs T (h i cs T hi h1 h2 h3 h4) h1 h2 h3 h4
theorem grown_frame {w w' : World} {base : Nat} {e : TypeId} {size : Nat} {v : Value} {n : Nat} {xs : List Value} (h : w.ownsRow base e size v n xs) (hg : w.grownBy w' v.ownBlock) {k : Nat} {cs : Array Value} {T : TypeId} (hk : w.heap[k]? = some (.cells cs T (0, 0))) (ht : T ≠ e) :
    w'.heap[k]? = some (.cells cs T (0, 0)) := (hg.block k (lt_of_block hk) (fun he => own_type h hk ht he.symm)).trans hk
theorem set_frame {w : World} {b : Nat} {u : Value} {ds : Array Value} {U : TypeId} (hb : w.heap[b]? = some (.cells ds U (0, 0))) {k : Nat} {cs : Array Value} {T : TypeId} (hk : w.heap[k]? = some (.cells cs T (0, 0))) (ht : T ≠ U) :
    (w.setCell ⟨b, 0, none⟩ u).heap[k]? = some (.cells cs T (0, 0)) := (heap_setCell_other (block_type_ne hk hb ht)).trans hk
def KeepPost (W0 : World) (ba br bo bsr : Nat) (src : List UInt8) (at_ : Nat) (rs : List Run) (out : List UInt8) (w : World) (e : Ending) (w' : World) : Prop :=
  e = .returned (.tuple #[]) ∧ Gr W0 w' ∧ Others w w' ∧ w.heap.size ≤ w'.heap.size ∧ ∃ vr' vo', EdSt W0 ba br bo bsr src w' at_ rs out vr' vo'
set_option maxRecDepth 100000 in
set_option maxHeartbeats 4000000 in
theorem keepP_any (W0 : World) (ba br bo bsr : Nat) (src : List UInt8) (w : World) (at_ : Nat) (rs : List Run) (out : List UInt8) (vr vo : Value) (en : Nat) (S : EdSt W0 ba br bo bsr src w at_ rs out vr vo)
    (hen : en ≤ src.length) (h1 : src.length ≤ 1048576) (h2 : out.length ≤ 2097152) (h3 : rs.length ≤ 1048576) :
    Calls Try.prog 33 #[.int .i64 en, .pointer (some ⟨ba, 0, none⟩), .pointer (some ⟨br, 0, none⟩), .pointer (some ⟨bo, 0, none⟩), .pointer (some ⟨bsr, 0, none⟩)] w
      (KeepPost W0 ba br bo bsr src at_ (rs ++ keepR at_ out.length en) (out ++ cut src at_ en) w) := by
  have ca := cell_of_one S.ha
  have cr := cell_of_one S.hr
  have co := cell_of_one S.ho
  have cs := cell_of_one S.hs
  have fa := free_of_one S.ha
  have fr := free_of_one S.hr
  have fo := free_of_one S.ho
  have la := lt_of_block S.ha
  have lr := lt_of_block S.hr
  have lo := lt_of_block S.ho
  have lw := Below.size S.gr
  have SS := Lib.hid S
  obtain ⟨i0, hi, hz0, hz1, hz2⟩ := info_parts infoRun
  obtain ⟨i1, hj, hy0, hy1, hy2⟩ := info_parts infoU8
  by_cases hgt : at_ < en
  · obtain ⟨A, c, rfl⟩ := own_form S.oo
    obtain ⟨A1, c1, rfl⟩ := own_form S.rr
    clear S
    have hcells : (Run.mk at_ out.length (en - at_)).cells = [.int .i64 at_, .int .i64 out.length, .int .i64 ((en : Int) - at_)] := by
      have : ((en - at_ : Nat) : Int) = (en : Int) - at_ := by omega
      simp only [Run.cells, this]
    go_enter Try.func33, Try.ntmps33
    go_wp2_with (at_builtin; go_must (refine wpList_append_own _ rfl (.tmp 9) (.tmp 17) 53 rfl W0.heap.size 57 i0 _ 3 24 Try.underlying53 hi hz0 hz1 hz2 rfl (by decide) _ rs.length (rs.flatMap Run.cells) rfl (SS.out.alloc _).rr ⟨w.heap.size, 0, none⟩ 1 1 [.int .i64 at_, .int .i64 out.length, .int .i64 ((en : Int) - at_)] rfl rfl (news_new (by simp)) (by rw [← hcells]; exact Run.one _) (by unfold maxLen; omega) (by omega) (by simp; omega) ?_); intro v' w2 hown2 hgrow2 _; rw [← hcells] at hown2; obtain ⟨A2, c2, rfl⟩ := own_form hown2; have S2 := Lib.hid ((SS.out.alloc _).appR hgrow2 hown2); have cr2 := cell_of_one S2.out.1; have fr2 := free_of_one S2.out.1)
    have S3 := S2.out.2
    have hsz3 : w.heap.size + 1 ≤ w2.heap.size := by have := hgrow2.size; simpa using this
    have hO3 : Others w (w2.setCell ⟨br, 0, none⟩ (.slice A2 (rs.length + 1) c2)) := fun k cs T hk h1 _ h3 _ => by
      have hk1 : (w.alloc (.cells #[.int .i64 at_, .int .i64 out.length, .int .i64 ((en : Int) - at_)] 57)).heap[k]? = some (.cells cs T (0, 0)) := (heap_alloc_old (lt_of_block hk)).trans hk
      exact set_frame S2.out.1 (grown_frame (SS.out.alloc _).rr hgrow2 hk1 h1) h3
    have HO3 := Lib.hid hO3
    clear hO3
    clear S2 hown2 hgrow2 cr2 fr2 ca cr co cs fa fr fo
    generalize hw3 : w2.setCell ⟨br, 0, none⟩ _ = w3 at S3 HO3 ⊢
    have hsz : w.heap.size ≤ w3.heap.size := by rw [← hw3]; simp; omega
    clear hw3
    have ca := cell_of_one S3.ha
    have co := cell_of_one S3.ho
    have cs := cell_of_one S3.hs
    have fo := free_of_one S3.ho
    have SS3 := Lib.hid S3
    clear S3
    have hen2 : en ≤ (bs src).size := hen
    have hen3 : at_ ≤ en := by omega
    go_still_tail 5, (by kernel_rfl)
    have SS4 := Lib.hid SS3.out.drew
    have HO4 : Hid (Others w w3.drew) := Lib.hid (fun k cs T hk h1 h2 h3 h4 => HO3.out k cs T hk h1 h2 h3 h4)
    have hsz4 : w.heap.size ≤ w3.drew.heap.size := hsz
    clear SS3 ca co cs fo
    change wpList _ _ _ _ _ w3.drew
    generalize w3.drew = w4 at SS4 hsz4 HO4 ⊢
    have hcl : (bs (cut src at_ en)).size = en - at_ := cut_length _ _ _ hen
    have hW4 := Below.size SS4.out.gr
    go_wp2_with (at_builtin; go_must (refine wpList_append_own_string _ rfl (.tmp 19) (.tmp 23) 62 9 rfl W0.heap.size 5 i1 Try.underlying62 Try.underlying9 hj hy0 hy1 hy2 _ out.length (strCells (bs out)) rfl SS4.out.oo (bs (cut src at_ en)) (by rw [← bs_extract]; rfl) (by unfold maxLen; omega) (by omega) hW4 ?_); intro v' w5 hown5 hgrow5 _; obtain ⟨A5, c5, rfl⟩ := own_form hown5; have S5 := Lib.hid (SS4.out.appO hgrow5 hown5); have co5 := cell_of_one S5.out.1; have fo5 := free_of_one S5.out.1)
    go_end0
    have hk : keepR at_ out.length en = [⟨at_, out.length, en - at_⟩] := by unfold keepR; rw [if_pos hgt]
    rw [hk]
    have S6 := S5.out.2
    have hO6 : Others w4 (w5.setCell ⟨bo, 0, none⟩ (.slice A5 (out.length + (bs (cut src at_ en)).size) c5)) := fun k cs T hk _ h2 _ h4 => set_frame S5.out.1 (grown_frame SS4.out.oo hgrow5 hk h2) h4
    rw [hcl] at S6 hO6
    exact ⟨rfl, S6.gr, HO4.out.trans hO6, by have := hgrow5.size; simp; omega, _, _, S6⟩
  · have hk : keepR at_ out.length en = [] := by unfold keepR; rw [if_neg hgt]
    have hc : cut src at_ en = [] := by
      have : en - at_ = 0 := by omega
      simp [cut, this]
    rw [hk, hc, List.append_nil, List.append_nil]
    clear S
    go_enter Try.func33, Try.ntmps33
    go_wp2_with fail
    go_end0
    exact ⟨rfl, SS.out.gr, fun _ _ _ hk _ _ _ _ => hk, Nat.le_refl _, _, _, SS.out⟩
end Go.Proofs.Ytapginodpikijaa
