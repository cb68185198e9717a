/- visit of the reference, walked: an anchor. -/
import Derived.Test.YtbfnmgiccbdglaaAnRReg
import Derived.Test.YtbfnmgiccbdglaaApp2
namespace Go.Proofs.Ytbfnmgiccbdglaa
open Go.ChangeShapes Go.WideShapes Go.ChangeAt Go.RowKit

theorem infoKnown : (Try.prog.info? 79).map (fun i => (i.zero, i.size, i.bytes)) = some (some (.agg #[.string ⟨#[]⟩, .int .i64 0, .string ⟨#[]⟩, .string ⟨#[]⟩, .slice none 0 0, .string ⟨#[]⟩, .int .i64 0]), 7, 104) := by kernel_rfl
theorem row_names {A : Option Addr} {P : Nat → Prop} {W : World} {l : List (List UInt8)} {nm : List UInt8} (h : RowP P W A ([] ++ l.map sV ++ [.string (bs nm)])) : RowP P W A ((l ++ [nm]).map sV) := by
  simpa [sV] using h
theorem row_known {A : Option Addr} {P : Nat → Prop} {W : World} {l : List (List UInt8 × ND × Int)} {nm : List UInt8} {v' : ND} {c : Int} (h : RowP P W A ([] ++ l.flatMap KE.cells ++ KE.cells (nm, v', c))) : RowP P W A ((l ++ [(nm, v', c)]).flatMap KE.cells) := by
  simpa using h
theorem SRep.addN {P : Nat → Prop} {W : World} {st : RSt} {a : SV} (h : SRep P W st a) {A : Option Addr} {n c : Nat} {nm : List UInt8} (hn : n = a.n1 + 1) (hc : n ≤ c ∧ c ≤ maxLen) (hr : RowP P W A ((st.names ++ [nm]).map sV)) : SRep P W (addN st nm) ⟨A, n, c, a.A2, a.n2, a.c2⟩ :=
  ⟨by simp [Go.Proofs.Ytbfnmgiccbdglaa.addN, hn, h.n1], hc, hr, h.n2, h.nc2, h.ds⟩
theorem SRep.addD {P : Nat → Prop} {W : World} {st : RSt} {a : SV} (h : SRep P W st a) {A : Option Addr} {n c : Nat} {nm : List UInt8} {t : NT} {v' : ND} {cost : Int} (hn : n = a.n2 + 1) (hc : n ≤ c ∧ c ≤ maxLen) {es : List (List UInt8 × ND × Int)} (hel : es.length = st.done.length) (hes : ∀ (i : Nat) (e : List UInt8 × ND × Int), es[i]? = some e → ∃ t, st.done[i]? = some (e.1, t, e.2.2) ∧ NR P W e.2.1 t)
    (hr : RowP P W A ((es ++ [(nm, v', cost)]).flatMap KE.cells)) (hv : NR P W v' t) : SRep P W (addD st nm t cost) ⟨a.A1, a.n1, a.c1, A, n, c⟩ := by
  refine ⟨h.n1, h.nc1, h.row1, by simp [Go.Proofs.Ytbfnmgiccbdglaa.addD, hn, h.n2], hc, es ++ [(nm, v', cost)], by simp [Go.Proofs.Ytbfnmgiccbdglaa.addD, hel], hr, fun i e he => ?_⟩
  rcases Nat.lt_trichotomy i es.length with hi | hi | hi
  · rw [List.getElem?_append_left hi] at he
    obtain ⟨t', h1, h2⟩ := hes i e he
    exact ⟨t', (List.getElem?_append_left (by rw [← hel]; exact hi)).trans h1, h2⟩
  · subst hi
    rw [List.getElem?_concat_length, Option.some.injEq] at he
    subst he
    exact ⟨t, by show (st.done ++ [(nm, t, cost)])[es.length]? = _; rw [hel, List.getElem?_concat_length], hv⟩
  · rw [List.getElem?_eq_none (by simp; omega)] at he
    cases he
set_option maxRecDepth 100000 in
set_option maxHeartbeats 4000000 in
theorem visitR_anchor {P : Nat → Prop} (g : Bool) (L : U5) (m : Nat) (t : NT) (v : ND) (st : RSt) (a : SV) (cnt : Nat) (w : World) (hP : ∀ b, w.heap.size ≤ b → P b) (hr : NR P w v t) (hs : SRep P w st a) (he : st.err = 0) (hk : t.k = 9) (h2 : 2 ≤ v.x.length) (hdup : v.x.drop 1 ∉ st.names)
    (kid : NT) (hkid : t.ks = [kid]) (hmk : markedB kid = true) (bk ok : Nat) (d : ND) (hA : v.A = some ⟨bk, ok, none⟩) (hn : v.n = 1) (hpk : P bk) (hbk : bk < w.heap.size) (hce : NCells w bk ok d) (hre : NRep P m w d kid) (hb1 : st.names.length ≤ cnt) (hb2 : st.done.length ≤ cnt) (hcc : cnt + 1 + countF kid ≤ 1000000) (HI : Hid (VisI g L m)) : Calls Try.prog 35 #[.agg #[.int .i64 L.d, .int .i64 L.n, .int .i64 L.b, .int .i64 L.a, .int .i64 L.x, .slice a.A1 a.n1 a.c1, .slice a.A2 a.n2 a.c2, .int .i64 st.u.d, .int .i64 st.u.n, .int .i64 st.u.b, .int .i64 st.u.a, .int .i64 st.u.x, .int .i64 st.err], .agg #[.int .i64 v.k, .string (bs v.l), .string (bs v.x), .slice v.A v.n v.c, .string (bs v.e)], .bool g] w (VRes P L (visR g L t st) w) := by
  generalize hq : visR g L t st = q
  have HS := Lib.hid hs
  have HR := Lib.hid hr
  have htx := hr.text
  obtain ⟨nm, hnm⟩ : ∃ nm, nm = v.x.drop 1 := ⟨_, rfl⟩
  obtain ⟨nx, hnx⟩ : ∃ nx, nx = v.x.length := ⟨_, rfl⟩
  have yn : (bs v.x).extract 1 nx = bs nm := by rw [hnx, hnm]; exact bs_drop1R v.x
  have ys : (bs v.x).size = nx := hnx.symm
  have hx1 : ((1 : Int) ≤ (nx : Int)) = True := by simp; omega
  rw [visR_eq, if_neg (by rw [he]; decide), if_neg (by rw [hk]; decide), if_pos hk, ← htx.2.2.1, ← hnm] at hq
  rw [← hnm] at hdup
  have HN1 := Lib.hid hs.n1
  have hn63 : a.n1 ≤ maxLen := Nat.le_trans hs.nc1.1 hs.nc1.2
  unfold maxLen at hn63
  have r1 : (st.err != 0) = false := by simp [he]
  have r2 : (v.k == 10) = false := by rw [htx.1]; simp [hk]
  have r3 : (v.k == 9) = true := by rw [htx.1]; simp [hk]
  rw [if_neg hdup, hkid] at hq
  have HQ := Lib.hid hq
  have HDUP := Lib.hid hdup
  have HB1 : Hid (st.names.length ≤ 1000000) := Lib.hid (by omega)
  have HCN : Hid ((addN st nm).names.length ≤ cnt + 1 ∧ (addN st nm).done.length ≤ cnt + 1 ∧ cnt + 1 + countF kid ≤ 1000000) := Lib.hid ⟨by simp [addN]; omega, by simp [addN]; omega, hcc⟩
  have HMK := Lib.hid hmk
  have HPK := Lib.hid (And.intro hpk hbk)
  have HPP := Lib.hid hP
  have HCE := Lib.hid hce
  have HRE := Lib.hid hre
  have HA := Lib.hid hA
  have HVN := Lib.hid hn
  clear hA hn hb1 hb2 hcc hmk hpk hbk hP
  clear hq hr htx he hk hnm hdup hnx hce hre hkid
  go_enter Try.func35, Try.ntmps35
  go_wp2_with fail
  obtain ⟨p, hp⟩ : ∃ p, p = w.heap.size := ⟨_, rfl⟩
  obtain ⟨W1, hW1⟩ : ∃ W1, W1 = ((((w.alloc (.cells #[.int .i64 L.d, .int .i64 L.n, .int .i64 L.b, .int .i64 L.a, .int .i64 L.x, .slice a.A1 a.n1 a.c1, .slice a.A2 a.n2 a.c2, .int .i64 st.u.d, .int .i64 st.u.n, .int .i64 st.u.b, .int .i64 st.u.a, .int .i64 st.u.x, .int .i64 st.err] 68)).alloc (.cells #[.int .i64 v.k, .string (bs v.l), .string (bs v.x), .slice v.A v.n v.c, .string (bs v.e)] 24)).alloc (.cells #[.int .i64 0, .int .i64 0, .int .i64 0, .int .i64 0, .int .i64 0, .slice none 0 0, .slice none 0 0, .int .i64 0, .int .i64 0, .int .i64 0, .int .i64 0, .int .i64 0, .int .i64 0] 68)).alloc (.cells #[.int .i64 0, .string ⟨#[]⟩, .string ⟨#[]⟩, .slice none 0 0, .string ⟨#[]⟩] 24)) := ⟨_, rfl⟩
  rw [← hp, ← hW1]
  have hg1 : Gr w W1 := by rw [hW1]; exact ((((Gr.refl w).alloc _).alloc _).alloc _).alloc _
  have hb2 : W1.heap[p]? = some (.cells #[.int .i64 L.d, .int .i64 L.n, .int .i64 L.b, .int .i64 L.a, .int .i64 L.x, .slice a.A1 a.n1 a.c1, .slice a.A2 a.n2 a.c2, .int .i64 st.u.d, .int .i64 st.u.n, .int .i64 st.u.b, .int .i64 st.u.a, .int .i64 st.u.x, .int .i64 st.err] 68 (0, 0)) := by
    rw [hW1, hp, heapOldR (by simp; omega), heapOldR (by simp; omega), heapOldR (by simp)]
    exact heap_alloc_new w _
  have hb3 : W1.heap[p + 1]? = some (.cells #[.int .i64 v.k, .string (bs v.l), .string (bs v.x), .slice v.A v.n v.c, .string (bs v.e)] 24 (0, 0)) := by
    have h := heap_alloc_new (w.alloc (.cells #[.int .i64 L.d, .int .i64 L.n, .int .i64 L.b, .int .i64 L.a, .int .i64 L.x, .slice a.A1 a.n1 a.c1, .slice a.A2 a.n2 a.c2, .int .i64 st.u.d, .int .i64 st.u.n, .int .i64 st.u.b, .int .i64 st.u.a, .int .i64 st.u.x, .int .i64 st.err] 68)) (.cells #[.int .i64 v.k, .string (bs v.l), .string (bs v.x), .slice v.A v.n v.c, .string (bs v.e)] 24)
    rw [show (w.alloc (.cells #[.int .i64 L.d, .int .i64 L.n, .int .i64 L.b, .int .i64 L.a, .int .i64 L.x, .slice a.A1 a.n1 a.c1, .slice a.A2 a.n2 a.c2, .int .i64 st.u.d, .int .i64 st.u.n, .int .i64 st.u.b, .int .i64 st.u.a, .int .i64 st.u.x, .int .i64 st.err] 68)).heap.size = p + 1 by simp [hp]] at h
    rw [hW1, heapOldR (by simp [hp]), heapOldR (by simp [hp])]
    exact h
  have hb4 : W1.heap[p + 1 + 1]? = some (.cells #[.int .i64 0, .int .i64 0, .int .i64 0, .int .i64 0, .int .i64 0, .slice none 0 0, .slice none 0 0, .int .i64 0, .int .i64 0, .int .i64 0, .int .i64 0, .int .i64 0, .int .i64 0] 68 (0, 0)) := by
    have h := heap_alloc_new ((w.alloc (.cells #[.int .i64 L.d, .int .i64 L.n, .int .i64 L.b, .int .i64 L.a, .int .i64 L.x, .slice a.A1 a.n1 a.c1, .slice a.A2 a.n2 a.c2, .int .i64 st.u.d, .int .i64 st.u.n, .int .i64 st.u.b, .int .i64 st.u.a, .int .i64 st.u.x, .int .i64 st.err] 68)).alloc (.cells #[.int .i64 v.k, .string (bs v.l), .string (bs v.x), .slice v.A v.n v.c, .string (bs v.e)] 24)) (.cells #[.int .i64 0, .int .i64 0, .int .i64 0, .int .i64 0, .int .i64 0, .slice none 0 0, .slice none 0 0, .int .i64 0, .int .i64 0, .int .i64 0, .int .i64 0, .int .i64 0, .int .i64 0] 68)
    rw [show ((w.alloc (.cells #[.int .i64 L.d, .int .i64 L.n, .int .i64 L.b, .int .i64 L.a, .int .i64 L.x, .slice a.A1 a.n1 a.c1, .slice a.A2 a.n2 a.c2, .int .i64 st.u.d, .int .i64 st.u.n, .int .i64 st.u.b, .int .i64 st.u.a, .int .i64 st.u.x, .int .i64 st.err] 68)).alloc (.cells #[.int .i64 v.k, .string (bs v.l), .string (bs v.x), .slice v.A v.n v.c, .string (bs v.e)] 24)).heap.size = p + 1 + 1 by simp [hp]] at h
    rw [hW1, heapOldR (by simp [hp])]
    exact h
  have hb5 : W1.heap[p + 1 + 1 + 1]? = some (.cells #[.int .i64 0, .string ⟨#[]⟩, .string ⟨#[]⟩, .slice none 0 0, .string ⟨#[]⟩] 24 (0, 0)) := by
    have h := heap_alloc_new (((w.alloc (.cells #[.int .i64 L.d, .int .i64 L.n, .int .i64 L.b, .int .i64 L.a, .int .i64 L.x, .slice a.A1 a.n1 a.c1, .slice a.A2 a.n2 a.c2, .int .i64 st.u.d, .int .i64 st.u.n, .int .i64 st.u.b, .int .i64 st.u.a, .int .i64 st.u.x, .int .i64 st.err] 68)).alloc (.cells #[.int .i64 v.k, .string (bs v.l), .string (bs v.x), .slice v.A v.n v.c, .string (bs v.e)] 24)).alloc (.cells #[.int .i64 0, .int .i64 0, .int .i64 0, .int .i64 0, .int .i64 0, .slice none 0 0, .slice none 0 0, .int .i64 0, .int .i64 0, .int .i64 0, .int .i64 0, .int .i64 0, .int .i64 0] 68)) (.cells #[.int .i64 0, .string ⟨#[]⟩, .string ⟨#[]⟩, .slice none 0 0, .string ⟨#[]⟩] 24)
    rw [show (((w.alloc (.cells #[.int .i64 L.d, .int .i64 L.n, .int .i64 L.b, .int .i64 L.a, .int .i64 L.x, .slice a.A1 a.n1 a.c1, .slice a.A2 a.n2 a.c2, .int .i64 st.u.d, .int .i64 st.u.n, .int .i64 st.u.b, .int .i64 st.u.a, .int .i64 st.u.x, .int .i64 st.err] 68)).alloc (.cells #[.int .i64 v.k, .string (bs v.l), .string (bs v.x), .slice v.A v.n v.c, .string (bs v.e)] 24)).alloc (.cells #[.int .i64 0, .int .i64 0, .int .i64 0, .int .i64 0, .int .i64 0, .slice none 0 0, .slice none 0 0, .int .i64 0, .int .i64 0, .int .i64 0, .int .i64 0, .int .i64 0, .int .i64 0] 68)).heap.size = p + 1 + 1 + 1 by simp [hp]] at h
    rw [hW1]
    exact h
  have HG1 := Lib.hid hg1
  have HB2 := Lib.hid hb2
  have HB3 := Lib.hid hb3
  have HB4 := Lib.hid hb4
  have HB5 := Lib.hid hb5
  have HP := Lib.hid hp
  clear hW1 hg1 hb2 hb3 hb4 hb5 hp
  have hb2 := HB2.out
  have hb3 := HB3.out
  have k0 := cell_of_cells hb2 0
  have k1 := cell_of_cells hb2 1
  have k2 := cell_of_cells hb2 2
  have k3 := cell_of_cells hb2 3
  have k4 := cell_of_cells hb2 4
  have k5 := cell_of_cells hb2 5
  have k6 := cell_of_cells hb2 6
  have k7 := cell_of_cells hb2 7
  have k8 := cell_of_cells hb2 8
  have k9 := cell_of_cells hb2 9
  have k10 := cell_of_cells hb2 10
  have k11 := cell_of_cells hb2 11
  have k12 := cell_of_cells hb2 12
  have kl := lt_of_block hb2
  have j0 := cell_of_cells hb3 0
  have j1 := cell_of_cells hb3 1
  have j2 := cell_of_cells hb3 2
  have j3 := cell_of_cells hb3 3
  have j4 := cell_of_cells hb3 4
  have jl := lt_of_block hb3
  have HROW := Lib.hid (hs.row1.on (HG1.out.on P))
  clear hb2 hb3 hs yn ys hx1
  go_loopw [10] (fun iv wr => ∃ j : Nat, j ≤ a.n1 ∧ iv = .int .i64 j ∧ nm ∉ st.names.take j ∧ wr = W1) (fun iv _ => a.n1 - (intOf iv).toNat)
  case atStart => exact ⟨0, Nat.zero_le _, rfl, by simp, rfl⟩
  case round =>
    obtain ⟨j, hj, rfl, hnx, rfl⟩ := hrel
    have HNX := Lib.hid hnx
    clear hnx
    by_cases hlt : j < a.n1
    · obtain ⟨x, hx⟩ : ∃ x, st.names[j]? = some x := ⟨st.names[j]'(by rw [← HN1.out]; omega), List.getElem?_eq_getElem _⟩
      obtain ⟨gn, hA1, _, hgl, hgc⟩ := HROW.out (fun h0 => by rw [List.map_eq_nil_iff] at h0; rw [h0] at hx; simp at hx)
      have c1 := hgc j (.string (bs x)) (by rw [List.getElem?_map, hx]; rfl)
      rw [hA1] at k5
      have hlt1 : (j : Int) < (a.n1 : Int) := by omega
      have HX := Lib.hid hx
      clear hgc hx hA1
      by_cases hxn : x = nm
      · have qe : ((bs x).toList == (bs nm).toList) = true := by rw [hxn]; simp
        have HXN := Lib.hid hxn
        clear hxn
        exact absurd (HXN.out ▸ List.mem_of_getElem? HX.out) HDUP.out
      · have qe : ((bs x).toList == (bs nm).toList) = false := by simpa [bs_listR] using hxn
        have hnx2 : nm ∉ st.names.take (j + 1) := by
          rw [List.take_add_one, HX.out, List.mem_append]
          rintro (h | h)
          · exact HNX.out h
          · simp at h
            exact hxn h.symm
        have HNX2 := Lib.hid hnx2
        clear hxn hnx2
        go_wp2_with fail
        exact ⟨⟨j + 1, by omega, by go_num, HNX2.out, trivial⟩, by simp [intOf] <;> omega⟩
    · have hnn : nm ∉ st.names := by
        have h := HNX.out
        rwa [List.take_of_length_le (by rw [← HN1.out]; omega)] at h
      have HNN := Lib.hid hnn
      clear hnn
      obtain ⟨i1, hy, hy0, hy1, hy2⟩ := info_parts infoStrR
      have hgn : a.n1 ≤ 1000000 := by rw [HN1.out]; exact HB1.out
      have HO0 : Hid ((wr.alloc (.cells #[] 9)).ownsRow wr.heap.size 9 1 (.slice (some ⟨wr.heap.size, 0, none⟩) 0 0) 0 []) := Lib.hid (own_fresh (n := 0) (cap := 0) (size := 1) (cs := []) (heap_alloc_new wr _) (Nat.le_refl _) rfl (Nat.le_refl _) rfl (by decide))
      have HSR : Hid (SrcAt (wr.alloc (.cells #[] 9)) a.A1 a.n1 1 (st.names.map sV)) := Lib.hid ((HROW.out.on (((Gr.refl wr).alloc _).on P)).src (by simp [HN1.out]) (by decide) (fun u hu => by obtain ⟨s, _, rfl⟩ := List.mem_map.1 hu; rfl))
      go_wp2_with (first | (at_builtin; refine wpList_app rfl (.tmp 56) (.tmp 58) 27 rfl wr.heap.size 9 i1 _ 1 16 Try.underlying27 hy hy0 hy1 hy2 rfl (by decide) _ 0 [] rfl HO0.out a.A1 a.n1 a.c1 _ rfl HSR.out (by unfold maxLen; omega) (by omega) (by simp) ?_; intro v5 w5 hown5 hgrow5; (have HO5 : Hid ((w5.alloc (.cells #[.string (bs nm)] 9)).ownsRow wr.heap.size 9 1 v5 (0 + a.n1) ([] ++ st.names.map sV)) := Lib.hid (own_same hown5 (fun k hk => heapOldR (hown5.lt k hk).2))); (have HF5 : Hid (SrcAt (w5.alloc (.cells #[.string (bs nm)] 9)) (some ⟨w5.heap.size, 0, none⟩) 1 1 [.string (bs nm)]) := Lib.hid (src_fresh (cs := [.string (bs nm)]) (heap_alloc_new w5 _) rfl (by simp [Value.oneCell']))); (have HG5 : Hid (Gr wr w5) := Lib.hid (Gr.grownOwnR ((Gr.refl wr).alloc _) hgrow5 (fun k hk => (HO0.out.lt k hk).1))); (have HE5 := Lib.hid hown5); clear hown5 hgrow5) | (at_builtin; refine wpList_app rfl (.tmp 59) (.tmp 61) 27 rfl wr.heap.size 9 i1 _ 1 16 Try.underlying27 hy hy0 hy1 hy2 rfl (by decide) v5 (0 + a.n1) ([] ++ st.names.map sV) rfl HO5.out (some ⟨w5.heap.size, 0, none⟩) 1 1 [.string (bs nm)] rfl HF5.out (by unfold maxLen; omega) (by omega) (by simp; have := Below.size HG5.out; omega) ?_; intro v7 w7 hown7 hgrow7; (have hg7 : Gr wr w7 := Gr.grownOwnR (HG5.out.alloc _) hgrow7 (fun k hk => (HO5.out.lt k hk).1)); (have hb7 := (hg7.block _ (lt_of_block HB2.out)).trans HB2.out); (have kc5 := cell_of_cells hb7 5); (have kf5 := free_of_cells hb7 5); (have kl7 := lt_of_block hb7); (obtain ⟨A7, c7, rfl, hac7, hcm7, hrow7, _⟩ := RowP.own (P := fun b => wr.heap.size ≤ b) hown7 (fun b hb => hb)); (have HG7 := Lib.hid hg7); (have HX7 := Lib.hid hb7); (have HR7 := Lib.hid hrow7); clear hown7 hgrow7 hg7 hb7 hrow7))
      have hp := HP.out
      have hsz5 := lt_of_block HB5.out
      have hgw := HG7.out
      have hgw1 := Below.size HG1.out
      have hgw7 := Below.size HG7.out
      obtain ⟨W0, hW0⟩ : ∃ W0, W0 = (w7.setCell ⟨p, 5, none⟩ (.slice A7 (a.n1 + 1) c7)) := ⟨_, rfl⟩
      try rw [← hW0]
      have HX2 : Hid (W0.heap[p]? = some (.cells #[.int .i64 L.d, .int .i64 L.n, .int .i64 L.b, .int .i64 L.a, .int .i64 L.x, .slice A7 (a.n1 + 1) c7, .slice a.A2 a.n2 a.c2, .int .i64 st.u.d, .int .i64 st.u.n, .int .i64 st.u.b, .int .i64 st.u.a, .int .i64 st.u.x, .int .i64 st.err] 68 (0, 0))) := Lib.hid (by rw [hW0]; exact cells_set HX7.out _)
      have HX3 : Hid (W0.heap[p + 1]? = some (.cells #[.int .i64 v.k, .string (bs v.l), .string (bs v.x), .slice v.A v.n v.c, .string (bs v.e)] 24 (0, 0))) := Lib.hid (by rw [hW0]; (repeat (rw [heap_set_other (by simp)])); exact ((hgw.block (p + 1) (lt_of_block HB3.out)).trans HB3.out))
      have HZ6 : Hid (W0.heap[p + 1 + 1]? = some (.cells #[.int .i64 0, .int .i64 0, .int .i64 0, .int .i64 0, .int .i64 0, .slice none 0 0, .slice none 0 0, .int .i64 0, .int .i64 0, .int .i64 0, .int .i64 0, .int .i64 0, .int .i64 0] 68 (0, 0))) := Lib.hid (by rw [hW0]; (repeat (rw [heap_set_other (by simp; omega)])); exact ((hgw.block (p + 1 + 1) (lt_of_block HB4.out)).trans HB4.out))
      have HZ7 : Hid (W0.heap[p + 1 + 1 + 1]? = some (.cells #[.int .i64 0, .string ⟨#[]⟩, .string ⟨#[]⟩, .slice none 0 0, .string ⟨#[]⟩] 24 (0, 0))) := Lib.hid (by rw [hW0]; (repeat (rw [heap_set_other (by simp; omega)])); exact ((hgw.block (p + 1 + 1 + 1) (lt_of_block HB5.out)).trans HB5.out))
      have HGR0 : Hid (Gr w W0) := Lib.hid (by rw [hW0]; exact (HG1.out.trans HG7.out).setCell (by simp; omega) _)
      have hs7 : SRep (Pn P p) W0 (addN st nm) ⟨A7, a.n1 + 1, c7, a.A2, a.n2, a.c2⟩ := by
        refine ((HS.out.fence (fun b hb hl => Pn.of hb (by omega))).on (HGR0.out.on _)).addN rfl ⟨by show a.n1 + 1 ≤ c7; omega, hcm7⟩ (((row_names HR7.out).fence (fun b hb _ => ⟨HPP.out b (by omega), by simp; omega⟩)).on ?_)
        rw [hW0]
        exact ((Off.refl [p] w7).set (by simp) _).on (fun b hb => by
          have h := hb.2
          simp at h ⊢
          omega)
      have hr7 : NRep (Pn P p) m W0 d kid := NRep.keep (HGR0.out.on _) m d kid (NRep.fence (fun b hb hl => Pn.of hb (by omega)) HRE.out)
      have hc7 := HCE.out.keep (P := P) (HGR0.out.on P) HPK.out.1 HPK.out.2
      obtain ⟨q1, hq1⟩ : ∃ q1, q1 = visR g L kid (addN st nm) := ⟨_, rfl⟩
      have hW7 := Below.size HGR0.out
      have hlp0 := lt_of_block HX2.out
      have HS7 := Lib.hid hs7
      have HRK7 := Lib.hid hr7
      have HC7 := Lib.hid hc7
      have HQ1 := Lib.hid hq1
      have HL0 : Hid (w.heap.size ≤ W0.heap.size ∧ p + 1 + 1 + 1 < W0.heap.size) := Lib.hid ⟨hW7, lt_of_block HZ7.out⟩
      clear hW0 hs7 hr7 hc7 hq1 hW7 hlp0 hgw hgw1 hgw7 hsz5 hp kc5 kf5 kl7 hac7 hcm7 k0 k1 k2 k3 k4 k5 k6 k7 k8 k9 k10 k11 k12 kl j0 j1 j2 j3 j4 jl
      obtain ⟨VS, hVS⟩ : ∃ VS : List (Nat × Nat × Value), VS = [(0, 65, .agg #[.int .i64 L.d, .int .i64 L.n, .int .i64 L.b, .int .i64 L.a, .int .i64 L.x, .slice A7 (a.n1 + 1) c7, .slice a.A2 a.n2 a.c2, .int .i64 st.u.d, .int .i64 st.u.n, .int .i64 st.u.b, .int .i64 st.u.a, .int .i64 st.u.x, .int .i64 st.err]), (1, 66, .pointer (some ⟨p + 1, 3, none⟩)), (2, 67, .slice v.A v.n v.c), (3, 68, .pointer (some ⟨bk, ok, none⟩)), (4, 69, .agg #[.int .i64 d.k, .string (bs d.l), .string (bs d.x), .slice d.A d.n d.c, .string (bs d.e)]), (5, 70, .bool g), (10, 74, .int .i64 q1.2.2), (15, 13, .int .i64 q1.2.2)] := ⟨_, rfl⟩
      obtain ⟨US, hUS⟩ : ∃ US : List (Nat × Value), US = [(2, .bool g), (3, .pointer (some ⟨p, 0, none⟩)), (4, .pointer (some ⟨p + 1, 0, none⟩)), (6, .pointer (some ⟨p + 1 + 1, 0, none⟩)), (7, .pointer (some ⟨p + 1 + 1 + 1, 0, none⟩)), (9, .string (bs nm))] := ⟨_, rfl⟩
      refine wp_region_frame (by kernel_rfl) (by kernel_rfl) [65, 66, 67, 68, 69, 70, 71, 64, 72, 73, 74, 11, 12, 13] (by simp) (Det VS US (fun B u w' => W15 (Pn P p) W0 L q1 B u w')) ?_ ?_ ?_
      · exact Det.start (by rw [hUS]; simp [slot]) (W15.start ((Gr.refl _).drew))
      · intro B a' w' i o hfr hF ho hBi hdp
        have hi8 := (Array.getElem?_eq_some_iff.1 ho).1
        simp only [List.size_toArray, List.length_cons, List.length_nil] at hi8
        have hor : i = 0 ∨ i = 1 ∨ i = 2 ∨ i = 3 ∨ i = 4 ∨ i = 5 ∨ i = 6 ∨ i = 7 ∨ i = 8 ∨ i = 9 ∨ i = 10 ∨ i = 11 ∨ i = 12 ∨ i = 13 ∨ i = 14 ∨ i = 15 := by omega
        clear hi8
        rcases hor with rfl | rfl | rfl | rfl | rfl | rfl | rfl | rfl | rfl | rfl | rfl | rfl | rfl | rfl | rfl | rfl
        all_goals (
          simp only [List.getElem?_toArray, List.getElem?_cons_zero, List.getElem?_cons_succ, Option.some.injEq] at ho
          subst ho
          rw [if_pos (show Region.wanted _ _ = true from rfl)]
          refine wp_hideK ?_
          intro K hK)
        · have hFW := hF.wd
          have o3 := slot_spell (hF.had (d := 3) (v := .pointer (some ⟨p, 0, none⟩)) (by rw [hUS]; simp))
          have hb := (hFW.gr0.block _ (lt_of_block HX2.out)).trans HX2.out
          have k0 := cell_of_cells hb 0
          have k1 := cell_of_cells hb 1
          have k2 := cell_of_cells hb 2
          have k3 := cell_of_cells hb 3
          have k4 := cell_of_cells hb 4
          have k5 := cell_of_cells hb 5
          have k6 := cell_of_cells hb 6
          have k7 := cell_of_cells hb 7
          have k8 := cell_of_cells hb 8
          have k9 := cell_of_cells hb 9
          have k10 := cell_of_cells hb 10
          have k11 := cell_of_cells hb 11
          have k12 := cell_of_cells hb 12
          have kl := lt_of_block hb
          go_simp
          exact hK.out _ _ (close_put hfr (d := 65) (by decide) (by simp) _ (F := fun u => Det VS US (fun B u w' => W15 (Pn P p) W0 L q1 B u w') (upB B 0) u _) (hF.step (by rw [hVS]; simp) (by rw [hUS]; simp) (hFW.other (Gr.refl _) (by decide) (by decide) (by decide) (by decide))))
        · have hFW := hF.wd
          have o4 := slot_spell (hF.had (d := 4) (v := .pointer (some ⟨p + 1, 0, none⟩)) (by rw [hUS]; simp))
          have hb := (hFW.gr0.block _ (lt_of_block HX3.out)).trans HX3.out
          have k0 := cell_of_cells hb 0
          have k1 := cell_of_cells hb 1
          have k2 := cell_of_cells hb 2
          have k3 := cell_of_cells hb 3
          have k4 := cell_of_cells hb 4
          have kl := lt_of_block hb
          go_simp
          exact hK.out _ _ (close_put hfr (d := 66) (by decide) (by simp) _ (F := fun u => Det VS US (fun B u w' => W15 (Pn P p) W0 L q1 B u w') (upB B 1) u _) (hF.step (by rw [hVS]; simp) (by rw [hUS]; simp) (hFW.other (Gr.refl _) (by decide) (by decide) (by decide) (by decide))))
        · have hFW := hF.wd
          have hB1 : B 1 = true := hdp ⟨1, .data⟩ (by simp) (by rfl)
          have e1 := slot_spell (hF.get (i := 1) (d := 66) (v := .pointer (some ⟨p + 1, 3, none⟩)) (by rw [hVS]; simp) hB1)
          have hb := (hFW.gr0.block _ (lt_of_block HX3.out)).trans HX3.out
          have k0 := cell_of_cells hb 0
          have k1 := cell_of_cells hb 1
          have k2 := cell_of_cells hb 2
          have k3 := cell_of_cells hb 3
          have k4 := cell_of_cells hb 4
          have kl := lt_of_block hb
          go_simp
          exact hK.out _ _ (close_put hfr (d := 67) (by decide) (by simp) _ (F := fun u => Det VS US (fun B u w' => W15 (Pn P p) W0 L q1 B u w') (upB B 2) u _) (hF.step (by rw [hVS]; simp) (by rw [hUS]; simp) (hFW.other (Gr.refl _) (by decide) (by decide) (by decide) (by decide))))
        · have hFW := hF.wd
          have hB2 : B 2 = true := hdp ⟨2, .data⟩ (by simp) (by rfl)
          have e2 := slot_spell (hF.get (i := 2) (d := 67) (v := .slice v.A v.n v.c) (by rw [hVS]; simp) hB2)
          rw [HA.out, HVN.out] at e2
          go_simp
          exact hK.out _ _ (close_put hfr (d := 68) (by decide) (by simp) _ (F := fun u => Det VS US (fun B u w' => W15 (Pn P p) W0 L q1 B u w') (upB B 3) u _) (hF.step (by rw [hVS]; simp) (by rw [hUS]; simp) (hFW.other (Gr.refl _) (by decide) (by decide) (by decide) (by decide))))
        · have hFW := hF.wd
          have hB3 : B 3 = true := hdp ⟨3, .data⟩ (by simp) (by rfl)
          have e3 := slot_spell (hF.get (i := 3) (d := 68) (v := .pointer (some ⟨bk, ok, none⟩)) (by rw [hVS]; simp) hB3)
          obtain ⟨x0, x1, x2, x3, x4⟩ := HC7.out.keep (P := P) (hFW.gr0.on P) HPK.out.1 (Gr.lt HGR0.out HPK.out.2)
          have xl := Gr.lt hFW.gr0 (Gr.lt HGR0.out HPK.out.2)
          go_simp
          exact hK.out _ _ (close_put hfr (d := 69) (by decide) (by simp) _ (F := fun u => Det VS US (fun B u w' => W15 (Pn P p) W0 L q1 B u w') (upB B 4) u _) (hF.step (by rw [hVS]; simp) (by rw [hUS]; simp) (hFW.other (Gr.refl _) (by decide) (by decide) (by decide) (by decide))))
        · have hFW := hF.wd
          have o2 := slot_spell (hF.had (d := 2) (v := .bool g) (by rw [hUS]; simp))
          go_simp
          exact hK.out _ _ (close_put hfr (d := 70) (by decide) (by simp) _ (F := fun u => Det VS US (fun B u w' => W15 (Pn P p) W0 L q1 B u w') (upB B 5) u _) (hF.step (by rw [hVS]; simp) (by rw [hUS]; simp) (hFW.other (Gr.refl _) (by decide) (by decide) (by decide) (by decide))))
        · have hFW := hF.wd
          have hB0 : B 0 = true := hdp ⟨0, .data⟩ (by simp) (by rfl)
          have e0 := slot_spell (hF.get (i := 0) (d := 65) (v := .agg #[.int .i64 L.d, .int .i64 L.n, .int .i64 L.b, .int .i64 L.a, .int .i64 L.x, .slice A7 (a.n1 + 1) c7, .slice a.A2 a.n2 a.c2, .int .i64 st.u.d, .int .i64 st.u.n, .int .i64 st.u.b, .int .i64 st.u.a, .int .i64 st.u.x, .int .i64 st.err]) (by rw [hVS]; simp) hB0)
          have hB4 : B 4 = true := hdp ⟨4, .data⟩ (by simp) (by rfl)
          have e4 := slot_spell (hF.get (i := 4) (d := 69) (v := .agg #[.int .i64 d.k, .string (bs d.l), .string (bs d.x), .slice d.A d.n d.c, .string (bs d.e)]) (by rw [hVS]; simp) hB4)
          have hB5 : B 5 = true := hdp ⟨5, .data⟩ (by simp) (by rfl)
          have e5 := slot_spell (hF.get (i := 5) (d := 70) (v := .bool g) (by rw [hVS]; simp) hB5)
          have hcl : Calls Try.prog 35 #[.agg #[.int .i64 L.d, .int .i64 L.n, .int .i64 L.b, .int .i64 L.a, .int .i64 L.x, .slice A7 (a.n1 + 1) c7, .slice a.A2 a.n2 a.c2, .int .i64 st.u.d, .int .i64 st.u.n, .int .i64 st.u.b, .int .i64 st.u.a, .int .i64 st.u.x, .int .i64 st.err], .agg #[.int .i64 d.k, .string (bs d.l), .string (bs d.x), .slice d.A d.n d.c, .string (bs d.e)], .bool g] w' (fun e w'' => ∃ x' y', e = .returned (.tuple #[.agg #[.int .i64 L.d, .int .i64 L.n, .int .i64 L.b, .int .i64 L.a, .int .i64 L.x, .slice x'.A1 x'.n1 x'.c1, .slice x'.A2 x'.n2 x'.c2, .int .i64 q1.1.u.d, .int .i64 q1.1.u.n, .int .i64 q1.1.u.b, .int .i64 q1.1.u.a, .int .i64 q1.1.u.x, .int .i64 q1.1.err], .agg #[.int .i64 y'.k, .string (bs y'.l), .string (bs y'.x), .slice y'.A y'.n y'.c, .string (bs y'.e)], .int .i64 q1.2.2]) ∧ SRep (PPof (Pn P p) (B 11) (slot a' 11) (B 12) (slot a' 12)) w'' q1.1 x' ∧ NR (PPof (Pn P p) (B 11) (slot a' 11) (B 12) (slot a' 12)) w'' y' q1.2.1 ∧ Gr w' w'') := by
            have hl0 := HL0.out
            have hgl := Below.size hFW.gr0
            have h := HI.out d kid (addN st nm) ⟨A7, a.n1 + 1, c7, a.A2, a.n2, a.c2⟩ (cnt + 1) w' (PPof (Pn P p) (B 11) (slot a' 11) (B 12) (slot a' 12)) (fun b hb => hFW.ppn hb ⟨HPP.out b (by omega), by simp; omega⟩)
              (NRep.keep (hFW.gr0.on _) m d kid (NRep.fence (fun b hb hl => hFW.ppo hl hb) HRK7.out))
              ((HS7.out.fence (fun b hb hl => hFW.ppo hl hb)).on (hFW.gr0.on _)) HMK.out HCN.out.1 HCN.out.2.1 HCN.out.2.2
            rw [← HQ1.out] at h
            exact h
          have HCL := Lib.hid hcl
          clear hcl
          have HFF := Lib.hid hF
          have HFR := Lib.hid hfr
          have HFG := Lib.hid hFW
          have HBI := Lib.hid hBi
          clear hF hfr hFW hdp hBi
          go_simp
          refine HCL.out.mono ?_
          rintro e w2 ⟨x', y', rfl, qs, qn, hb2⟩
          have hF := HFF.out
          have hfr := HFR.out
          have hFW := HFG.out
          have hBi := HBI.out
          exact hK.out _ _ (close_put hfr (d := 71) (by decide) (by simp) _ (F := fun u => Det VS US (fun B u w' => W15 (Pn P p) W0 L q1 B u w') (upB B 6) u _) (hF.step (by rw [hVS]; simp) (by rw [hUS]; simp) (hFW.step hb2 (by decide) (by decide) (.inl ⟨rfl, rfl, x', y', rfl, qs, qn⟩) (.inr (by decide)) (.inr (by decide)) (.inr (by decide)))))
        · have hFW := hF.wd
          have hB6 : B 6 = true := hdp ⟨6, .data⟩ (by simp) (by rfl)
          obtain ⟨x', y', t1e, qs, qn⟩ := hFW.c6 hB6
          have t1 := slot_spell t1e
          go_simp
          exact hK.out _ _ (close_put hfr (d := 64) (by decide) (by simp) _ (F := fun u => Det VS US (fun B u w' => W15 (Pn P p) W0 L q1 B u w') (upB B 7) u _) (hF.step (by rw [hVS]; simp) (by rw [hUS]; simp) (hFW.step (Gr.refl _) (by decide) (by decide) (.inr (by decide)) (.inl ⟨rfl, rfl, x', y', rfl, qs, qn⟩) (.inr (by decide)) (.inr (by decide)))))
        · have hFW := hF.wd
          have hB7 : B 7 = true := hdp ⟨7, .data⟩ (by simp) (by rfl)
          obtain ⟨x', y', t1e, qs, qn⟩ := hFW.c7 hB7
          have t1 := slot_spell t1e
          go_simp
          exact hK.out _ _ (close_put hfr (d := 72) (by decide) (by simp) _ (F := fun u => Det VS US (fun B u w' => W15 (Pn P p) W0 L q1 B u w') (upB B 8) u _) (hF.step (by rw [hVS]; simp) (by rw [hUS]; simp) (hFW.step (Gr.refl _) (by decide) (by decide) (.inr (by decide)) (.inr (by decide)) (.inl ⟨rfl, rfl, x', rfl, qs⟩) (.inr (by decide)))))
        · have hFW := hF.wd
          have hB7 : B 7 = true := hdp ⟨7, .data⟩ (by simp) (by rfl)
          obtain ⟨x', y', t1e, qs, qn⟩ := hFW.c7 hB7
          have t1 := slot_spell t1e
          go_simp
          exact hK.out _ _ (close_put hfr (d := 73) (by decide) (by simp) _ (F := fun u => Det VS US (fun B u w' => W15 (Pn P p) W0 L q1 B u w') (upB B 9) u _) (hF.step (by rw [hVS]; simp) (by rw [hUS]; simp) (hFW.step (Gr.refl _) (by decide) (by decide) (.inr (by decide)) (.inr (by decide)) (.inr (by decide)) (.inl ⟨rfl, rfl, y', rfl, qn⟩))))
        · have hFW := hF.wd
          have hB7 : B 7 = true := hdp ⟨7, .data⟩ (by simp) (by rfl)
          obtain ⟨x', y', t1e, qs, qn⟩ := hFW.c7 hB7
          have t1 := slot_spell t1e
          go_simp
          exact hK.out _ _ (close_put hfr (d := 74) (by decide) (by simp) _ (F := fun u => Det VS US (fun B u w' => W15 (Pn P p) W0 L q1 B u w') (upB B 10) u _) (hF.step (by rw [hVS]; simp) (by rw [hUS]; simp) (hFW.other (Gr.refl _) (by decide) (by decide) (by decide) (by decide))))
        · have hFW := hF.wd
          go_simp
          exact hK.out _ _ (close_put hfr (d := 11) (by decide) (by simp) _ (F := fun u => Det VS US (fun B u w' => W15 (Pn P p) W0 L q1 B u w') (upB B 11) u _) (hF.step (by rw [hVS]; simp) (by rw [hUS]; simp) (hFW.al11 hBi)))
        · have hFW := hF.wd
          go_simp
          exact hK.out _ _ (close_put hfr (d := 12) (by decide) (by simp) _ (F := fun u => Det VS US (fun B u w' => W15 (Pn P p) W0 L q1 B u w') (upB B 12) u _) (hF.step (by rw [hVS]; simp) (by rw [hUS]; simp) (hFW.al12 hBi)))
        · have hFW := hF.wd
          have hB11 : B 11 = true := hdp ⟨11, .data⟩ (by simp) (by rfl)
          have hB8 : B 8 = true := hdp ⟨8, .data⟩ (by simp) (by rfl)
          obtain ⟨k, r1, r2, r3, r4, _⟩ := hFW.c11 hB11
          have hz := r4 hBi
          obtain ⟨x', t1e, qs⟩ := hFW.c8 hB8
          have t1 := slot_spell t1e
          have t2 := slot_spell r2
          have y0 := cell_of_cells hz 0
          have yf0 := free_of_cells hz 0
          have y1 := cell_of_cells hz 1
          have yf1 := free_of_cells hz 1
          have y2 := cell_of_cells hz 2
          have yf2 := free_of_cells hz 2
          have y3 := cell_of_cells hz 3
          have yf3 := free_of_cells hz 3
          have y4 := cell_of_cells hz 4
          have yf4 := free_of_cells hz 4
          have y5 := cell_of_cells hz 5
          have yf5 := free_of_cells hz 5
          have y6 := cell_of_cells hz 6
          have yf6 := free_of_cells hz 6
          have y7 := cell_of_cells hz 7
          have yf7 := free_of_cells hz 7
          have y8 := cell_of_cells hz 8
          have yf8 := free_of_cells hz 8
          have y9 := cell_of_cells hz 9
          have yf9 := free_of_cells hz 9
          have y10 := cell_of_cells hz 10
          have yf10 := free_of_cells hz 10
          have y11 := cell_of_cells hz 11
          have yf11 := free_of_cells hz 11
          have y12 := cell_of_cells hz 12
          have yf12 := free_of_cells hz 12
          have yl := lt_of_block hz
          go_simp
          exact hK.out _ _ (close_none hfr undef (F := fun u => Det VS US (fun B u w' => W15 (Pn P p) W0 L q1 B u w') (upB B 13) u _) (hF.none (by rw [hVS]; simp) (hFW.st13 hBi hB11 r1 r2 hz qs)))
        · have hFW := hF.wd
          have hB12 : B 12 = true := hdp ⟨12, .data⟩ (by simp) (by rfl)
          have hB9 : B 9 = true := hdp ⟨9, .data⟩ (by simp) (by rfl)
          obtain ⟨k, r1, r2, r3, r4, _⟩ := hFW.c12 hB12
          have hz := r4 hBi
          obtain ⟨y', t1e, qn⟩ := hFW.c9 hB9
          have t1 := slot_spell t1e
          have t2 := slot_spell r2
          have y0 := cell_of_cells hz 0
          have yf0 := free_of_cells hz 0
          have y1 := cell_of_cells hz 1
          have yf1 := free_of_cells hz 1
          have y2 := cell_of_cells hz 2
          have yf2 := free_of_cells hz 2
          have y3 := cell_of_cells hz 3
          have yf3 := free_of_cells hz 3
          have y4 := cell_of_cells hz 4
          have yf4 := free_of_cells hz 4
          have yl := lt_of_block hz
          go_simp
          exact hK.out _ _ (close_none hfr undef (F := fun u => Det VS US (fun B u w' => W15 (Pn P p) W0 L q1 B u w') (upB B 14) u _) (hF.none (by rw [hVS]; simp) (hFW.st14 hBi hB12 r1 r2 hz qn)))
        · have hFW := hF.wd
          have hB10 : B 10 = true := hdp ⟨10, .data⟩ (by simp) (by rfl)
          have e10 := slot_spell (hF.get (i := 10) (d := 74) (v := .int .i64 q1.2.2) (by rw [hVS]; simp) hB10)
          go_simp
          exact hK.out _ _ (close_put hfr (d := 13) (by decide) (by simp) _ (F := fun u => Det VS US (fun B u w' => W15 (Pn P p) W0 L q1 B u w') (upB B 15) u _) (hF.step (by rw [hVS]; simp) (by rw [hUS]; simp) (hFW.other (Gr.refl _) (by decide) (by decide) (by decide) (by decide))))
      · intro B u w' hall hF
        have z0 := hF.get (i := 0) (d := 65) (v := .agg #[.int .i64 L.d, .int .i64 L.n, .int .i64 L.b, .int .i64 L.a, .int .i64 L.x, .slice A7 (a.n1 + 1) c7, .slice a.A2 a.n2 a.c2, .int .i64 st.u.d, .int .i64 st.u.n, .int .i64 st.u.b, .int .i64 st.u.a, .int .i64 st.u.x, .int .i64 st.err]) (by rw [hVS]; simp) (hall 0 (by simp))
        have z1 := hF.get (i := 1) (d := 66) (v := .pointer (some ⟨p + 1, 3, none⟩)) (by rw [hVS]; simp) (hall 1 (by simp))
        have z2 := hF.get (i := 2) (d := 67) (v := .slice v.A v.n v.c) (by rw [hVS]; simp) (hall 2 (by simp))
        have z3 := hF.get (i := 3) (d := 68) (v := .pointer (some ⟨bk, ok, none⟩)) (by rw [hVS]; simp) (hall 3 (by simp))
        have z4 := hF.get (i := 4) (d := 69) (v := .agg #[.int .i64 d.k, .string (bs d.l), .string (bs d.x), .slice d.A d.n d.c, .string (bs d.e)]) (by rw [hVS]; simp) (hall 4 (by simp))
        have z5 := hF.get (i := 5) (d := 70) (v := .bool g) (by rw [hVS]; simp) (hall 5 (by simp))
        have z10 := hF.get (i := 10) (d := 74) (v := .int .i64 q1.2.2) (by rw [hVS]; simp) (hall 10 (by simp))
        have z15 := hF.get (i := 15) (d := 13) (v := .int .i64 q1.2.2) (by rw [hVS]; simp) (hall 15 (by simp))
        have hFW := hF.wd
        clear hF hVS hUS
        simp only [List.foldl_cons, List.foldl_nil, Act.put, List.setIfInBounds_toArray, List.set_cons_zero, List.set_cons_succ, z0, z1, z2, z3, z4, z5, z10, z15]
        clear z0 z1 z2 z3 z4 z5 z10 z15
        have hg15 := hFW.gr0
        obtain ⟨kA, hk1, hu1, hl1, _, hx1⟩ := hFW.c11 (hall 11 (by simp))
        obtain ⟨ae, hc1, hs1⟩ := hx1 (hall 13 (by simp))
        obtain ⟨kB, hk2, hu2, hl2, _, hx2⟩ := hFW.c12 (hall 12 (by simp))
        obtain ⟨ve, hc2, hn1⟩ := hx2 (hall 14 (by simp))
        have hkk : kB ≠ kA := fun e => by
          subst e
          rw [hc1] at hc2
          simp only [Option.some.injEq, Obj.cells.injEq] at hc2
          exact absurd hc2.2.1 (by decide)
        have hpp : ∀ b, PPof (Pn P p) (B 11) (u 11) (B 12) (u 12) b → b < w'.heap.size → Pn P p b ∧ b ≠ kA := fun b hb _ => ⟨hb.1, fun e => hb.2.1 (hall 11 (by simp)) (by rw [hu1, e])⟩
        have hs2 := hs1.fence (Q := fun b => Pn P p b ∧ b ≠ kA) hpp
        have hn2 := hn1.fence (Q := fun b => Pn P p b ∧ b ≠ kA) hpp
        rw [hu1, hu2]
        clear hFW hall hx1 hx2 hs1 hn1 hpp hu1 hu2
        obtain ⟨WB, hWB⟩ : ∃ WB, WB = w' := ⟨_, rfl⟩
        subst hWB
        obtain ⟨es, hel, hrow, hes⟩ := hs2.ds
        have hndone : ae.n2 = es.length := hs2.n2.trans hel.symm
        have hnlen : ae.n2 ≤ 1000000 := by
          have h1 := visR_done g L kid (addN st nm)
          have h2 := HCN.out
          rw [hs2.n2]
          rw [← HQ1.out] at h1
          have h3 : (addN st nm).done.length = st.done.length := rfl
          omega
        have hkz := HL0.out
        have HKZ : Hid (w.heap.size ≤ kA ∧ p + 1 + 1 + 1 < kA ∧ kA < WB.heap.size ∧ kB < WB.heap.size ∧ p + 1 + 1 + 1 < kB) := Lib.hid ⟨by omega, by omega, hl1, hl2, by omega⟩
        have HSB := Lib.hid hs2
        have HNB := Lib.hid hn2
        have HK1 := Lib.hid hc1
        have HK2 := Lib.hid hc2
        have HKK := Lib.hid hkk
        have HG15 := Lib.hid hg15
        have HEL := Lib.hid hel
        have HROWD := Lib.hid hrow
        have HES := Lib.hid hes
        have HND := Lib.hid hndone
        clear hs2 hn2 hc1 hc2 hkk hg15 hel hrow hes hndone hk1 hk2 hl1 hl2 hkz
        go_wp2_with fail
        obtain ⟨VS, hVS⟩ : ∃ VS : List (Nat × Nat × Value), VS = [(1, 76, .pointer (some ⟨kA, 6, none⟩)), (2, 77, .slice ae.A2 ae.n2 ae.c2), (4, 79, .string (bs nm)), (5, 80, .agg #[.int .i64 ve.k, .string (bs ve.l), .string (bs ve.x), .slice ve.A ve.n ve.c, .string (bs ve.e)]), (6, 81, .int .i64 q1.2.2), (7, 82, .agg #[.string (bs nm), .int .i64 ve.k, .string (bs ve.l), .string (bs ve.x), .slice ve.A ve.n ve.c, .string (bs ve.e), .int .i64 q1.2.2]), (10, 85, .pointer (some ⟨kA, 6, none⟩))] := ⟨_, rfl⟩
        obtain ⟨US, hUS⟩ : ∃ US : List (Nat × Value), US = [(6, .pointer (some ⟨p + 1 + 1, 0, none⟩)), (7, .pointer (some ⟨p + 1 + 1 + 1, 0, none⟩)), (9, .string (bs nm)), (11, .pointer (some ⟨kA, 0, none⟩)), (12, .pointer (some ⟨kB, 0, none⟩)), (13, .int .i64 q1.2.2)] := ⟨_, rfl⟩
        refine wp_region_frame (by kernel_rfl) (by kernel_rfl) [75, 76, 77, 78, 79, 80, 81, 82, 83, 84, 85] (by simp) (Det VS US (fun B u w' => W16 w WB kA #[.int .i64 L.d, .int .i64 L.n, .int .i64 L.b, .int .i64 L.a, .int .i64 L.x, .slice ae.A1 ae.n1 ae.c1, .slice ae.A2 ae.n2 ae.c2, .int .i64 q1.1.u.d, .int .i64 q1.1.u.n, .int .i64 q1.1.u.b, .int .i64 q1.1.u.a, .int .i64 q1.1.u.x, .int .i64 q1.1.err] ae.n2 (es.flatMap KE.cells) (KE.cells (nm, ve, q1.2.2)) B u w')) ?_ ?_ ?_
        · exact Det.start (by rw [hUS]; simp [slot]) (W16.start (HGR0.out.trans (HG15.out.drew)) (Off.gr ((Gr.refl _).drew)) HK1.out)
        · intro B a' w' i o hfr hF ho hBi hdp
          have hi8 := (Array.getElem?_eq_some_iff.1 ho).1
          simp only [List.size_toArray, List.length_cons, List.length_nil] at hi8
          have hor : i = 0 ∨ i = 1 ∨ i = 2 ∨ i = 3 ∨ i = 4 ∨ i = 5 ∨ i = 6 ∨ i = 7 ∨ i = 8 ∨ i = 9 ∨ i = 10 ∨ i = 11 := by omega
          clear hi8
          rcases hor with rfl | rfl | rfl | rfl | rfl | rfl | rfl | rfl | rfl | rfl | rfl | rfl
          all_goals (
            simp only [List.getElem?_toArray, List.getElem?_cons_zero, List.getElem?_cons_succ, Option.some.injEq] at ho
            subst ho
            rw [if_pos (show Region.wanted _ _ = true from rfl)]
            refine wp_hideK ?_
            intro K hK)
          · have hFW := hF.wd
            go_simp
            exact hK.out _ _ (close_put hfr (d := 75) (by decide) (by simp) _ (F := fun u => Det VS US (fun B u w' => W16 w WB kA #[.int .i64 L.d, .int .i64 L.n, .int .i64 L.b, .int .i64 L.a, .int .i64 L.x, .slice ae.A1 ae.n1 ae.c1, .slice ae.A2 ae.n2 ae.c2, .int .i64 q1.1.u.d, .int .i64 q1.1.u.n, .int .i64 q1.1.u.b, .int .i64 q1.1.u.a, .int .i64 q1.1.u.x, .int .i64 q1.1.err] ae.n2 (es.flatMap KE.cells) (KE.cells (nm, ve, q1.2.2)) B u w') (upB B 0) u _) (hF.step (by rw [hVS]; simp) (by rw [hUS]; simp) (hFW.s0 HKZ.out.2.2.1 hBi)))
          · have hFW := hF.wd
            have o11 := slot_spell (hF.had (d := 11) (v := .pointer (some ⟨kA, 0, none⟩)) (by rw [hUS]; simp))
            have hl1 : kA < w'.heap.size := Nat.lt_of_lt_of_le HKZ.out.2.2.1 hFW.off.1
            go_simp
            exact hK.out _ _ (close_put hfr (d := 76) (by decide) (by simp) _ (F := fun u => Det VS US (fun B u w' => W16 w WB kA #[.int .i64 L.d, .int .i64 L.n, .int .i64 L.b, .int .i64 L.a, .int .i64 L.x, .slice ae.A1 ae.n1 ae.c1, .slice ae.A2 ae.n2 ae.c2, .int .i64 q1.1.u.d, .int .i64 q1.1.u.n, .int .i64 q1.1.u.b, .int .i64 q1.1.u.a, .int .i64 q1.1.u.x, .int .i64 q1.1.err] ae.n2 (es.flatMap KE.cells) (KE.cells (nm, ve, q1.2.2)) B u w') (upB B 1) u _) (hF.step (by rw [hVS]; simp) (by rw [hUS]; simp) (hFW.other (by decide) (by decide))))
          · have hFW := hF.wd
            have hB1 : B 1 = true := hdp ⟨1, .data⟩ (by simp) (by rfl)
            have e1 := slot_spell (hF.get (i := 1) (d := 76) (v := .pointer (some ⟨kA, 6, none⟩)) (by rw [hVS]; simp) hB1)
            have hn11 : B 11 = false := by
              cases hx : B 11 with
              | false => rfl
              | true =>
                have h9 := hFW.o11 hx
                have h3 := (hFW.o9 h9).1
                have h2 := (hFW.o0 h3).2
                first | (rw [hBi] at h2; cases h2) | (rw [hBi] at h3; cases h3) | (rw [hBi] at h9; cases h9) | (rw [hBi] at hx; cases hx)
            have hb := hFW.box
            rw [if_neg (by rw [hn11]; decide)] at hb
            have k0 := cell_of_cells hb 0
            have k1 := cell_of_cells hb 1
            have k2 := cell_of_cells hb 2
            have k3 := cell_of_cells hb 3
            have k4 := cell_of_cells hb 4
            have k5 := cell_of_cells hb 5
            have k6 := cell_of_cells hb 6
            have k7 := cell_of_cells hb 7
            have k8 := cell_of_cells hb 8
            have k9 := cell_of_cells hb 9
            have k10 := cell_of_cells hb 10
            have k11 := cell_of_cells hb 11
            have k12 := cell_of_cells hb 12
            have kl := lt_of_block hb
            go_simp
            exact hK.out _ _ (close_put hfr (d := 77) (by decide) (by simp) _ (F := fun u => Det VS US (fun B u w' => W16 w WB kA #[.int .i64 L.d, .int .i64 L.n, .int .i64 L.b, .int .i64 L.a, .int .i64 L.x, .slice ae.A1 ae.n1 ae.c1, .slice ae.A2 ae.n2 ae.c2, .int .i64 q1.1.u.d, .int .i64 q1.1.u.n, .int .i64 q1.1.u.b, .int .i64 q1.1.u.a, .int .i64 q1.1.u.x, .int .i64 q1.1.err] ae.n2 (es.flatMap KE.cells) (KE.cells (nm, ve, q1.2.2)) B u w') (upB B 2) u _) (hF.step (by rw [hVS]; simp) (by rw [hUS]; simp) (hFW.other (by decide) (by decide))))
          · have hFW := hF.wd
            have hB0 : B 0 = true := hdp ⟨0, .data⟩ (by simp) (by rfl)
            have hB2 : B 2 = true := hdp ⟨2, .data⟩ (by simp) (by rfl)
            have e2 := slot_spell (hF.get (i := 2) (d := 77) (v := .slice ae.A2 ae.n2 ae.c2) (by rw [hVS]; simp) hB2)
            have hsr := (HROWD.out.on (hFW.off.on (fun b hb => by simpa using hb.2))).src (m := ae.n2) (size := 7) ((ke_len es).trans (by rw [HND.out])) (by decide) (ke_one es)
            have hkz := HKZ.out
            have hsz := Below.size hFW.gr
            have hsz2 := hFW.off.1
            obtain ⟨i1, hy, hy0, hy1, hy2⟩ := info_parts infoKnown
            refine wp_app2 (.tmp 75) (.tmp 77) 66 rfl WB.heap.size 79 i1 _ 7 104 Try.underlying66 hy hy0 hy1 hy2 rfl (by decide) _ 0 [] rfl (hFW.f0 hB0 hBi) ae.A2 ae.n2 ae.c2 _ (hF.get (i := 2) (d := 77) (v := .slice ae.A2 ae.n2 ae.c2) (by rw [hVS]; simp) hB2) hsr (by unfold maxLen; omega) (by omega) (by omega) ?_
            intro v8 w8 hown8 hgrow8 hat8
            exact hK.out _ _ (close_put hfr (d := 78) (by decide) (by simp) _ (F := fun u => Det VS US (fun B u w' => W16 w WB kA #[.int .i64 L.d, .int .i64 L.n, .int .i64 L.b, .int .i64 L.a, .int .i64 L.x, .slice ae.A1 ae.n1 ae.c1, .slice ae.A2 ae.n2 ae.c2, .int .i64 q1.1.u.d, .int .i64 q1.1.u.n, .int .i64 q1.1.u.b, .int .i64 q1.1.u.a, .int .i64 q1.1.u.x, .int .i64 q1.1.err] ae.n2 (es.flatMap KE.cells) (KE.cells (nm, ve, q1.2.2)) B u w') (upB B 3) u _) (hF.step (by rw [hVS]; simp) (by rw [hUS]; simp) (hFW.s3 HKZ.out.2.2.1 HKZ.out.1 hown8 hgrow8 hat8 hB0 hB2 hBi)))
          · have hFW := hF.wd
            have o9 := slot_spell (hF.had (d := 9) (v := .string (bs nm)) (by rw [hUS]; simp))
            go_simp
            exact hK.out _ _ (close_put hfr (d := 79) (by decide) (by simp) _ (F := fun u => Det VS US (fun B u w' => W16 w WB kA #[.int .i64 L.d, .int .i64 L.n, .int .i64 L.b, .int .i64 L.a, .int .i64 L.x, .slice ae.A1 ae.n1 ae.c1, .slice ae.A2 ae.n2 ae.c2, .int .i64 q1.1.u.d, .int .i64 q1.1.u.n, .int .i64 q1.1.u.b, .int .i64 q1.1.u.a, .int .i64 q1.1.u.x, .int .i64 q1.1.err] ae.n2 (es.flatMap KE.cells) (KE.cells (nm, ve, q1.2.2)) B u w') (upB B 4) u _) (hF.step (by rw [hVS]; simp) (by rw [hUS]; simp) (hFW.other (by decide) (by decide))))
          · have hFW := hF.wd
            have o12 := slot_spell (hF.had (d := 12) (v := .pointer (some ⟨kB, 0, none⟩)) (by rw [hUS]; simp))
            have hb2 := (hFW.off.2 kB HKZ.out.2.2.2.1 (by simpa using HKK.out)).trans HK2.out
            have y0 := cell_of_cells hb2 0
            have y1 := cell_of_cells hb2 1
            have y2 := cell_of_cells hb2 2
            have y3 := cell_of_cells hb2 3
            have y4 := cell_of_cells hb2 4
            have yl := lt_of_block hb2
            go_simp
            exact hK.out _ _ (close_put hfr (d := 80) (by decide) (by simp) _ (F := fun u => Det VS US (fun B u w' => W16 w WB kA #[.int .i64 L.d, .int .i64 L.n, .int .i64 L.b, .int .i64 L.a, .int .i64 L.x, .slice ae.A1 ae.n1 ae.c1, .slice ae.A2 ae.n2 ae.c2, .int .i64 q1.1.u.d, .int .i64 q1.1.u.n, .int .i64 q1.1.u.b, .int .i64 q1.1.u.a, .int .i64 q1.1.u.x, .int .i64 q1.1.err] ae.n2 (es.flatMap KE.cells) (KE.cells (nm, ve, q1.2.2)) B u w') (upB B 5) u _) (hF.step (by rw [hVS]; simp) (by rw [hUS]; simp) (hFW.other (by decide) (by decide))))
          · have hFW := hF.wd
            have o13 := slot_spell (hF.had (d := 13) (v := .int .i64 q1.2.2) (by rw [hUS]; simp))
            go_simp
            exact hK.out _ _ (close_put hfr (d := 81) (by decide) (by simp) _ (F := fun u => Det VS US (fun B u w' => W16 w WB kA #[.int .i64 L.d, .int .i64 L.n, .int .i64 L.b, .int .i64 L.a, .int .i64 L.x, .slice ae.A1 ae.n1 ae.c1, .slice ae.A2 ae.n2 ae.c2, .int .i64 q1.1.u.d, .int .i64 q1.1.u.n, .int .i64 q1.1.u.b, .int .i64 q1.1.u.a, .int .i64 q1.1.u.x, .int .i64 q1.1.err] ae.n2 (es.flatMap KE.cells) (KE.cells (nm, ve, q1.2.2)) B u w') (upB B 6) u _) (hF.step (by rw [hVS]; simp) (by rw [hUS]; simp) (hFW.other (by decide) (by decide))))
          · have hFW := hF.wd
            have hB4 : B 4 = true := hdp ⟨4, .data⟩ (by simp) (by rfl)
            have e4 := slot_spell (hF.get (i := 4) (d := 79) (v := .string (bs nm)) (by rw [hVS]; simp) hB4)
            have hB5 : B 5 = true := hdp ⟨5, .data⟩ (by simp) (by rfl)
            have e5 := slot_spell (hF.get (i := 5) (d := 80) (v := .agg #[.int .i64 ve.k, .string (bs ve.l), .string (bs ve.x), .slice ve.A ve.n ve.c, .string (bs ve.e)]) (by rw [hVS]; simp) hB5)
            have hB6 : B 6 = true := hdp ⟨6, .data⟩ (by simp) (by rfl)
            have e6 := slot_spell (hF.get (i := 6) (d := 81) (v := .int .i64 q1.2.2) (by rw [hVS]; simp) hB6)
            go_simp
            exact hK.out _ _ (close_put hfr (d := 82) (by decide) (by simp) _ (F := fun u => Det VS US (fun B u w' => W16 w WB kA #[.int .i64 L.d, .int .i64 L.n, .int .i64 L.b, .int .i64 L.a, .int .i64 L.x, .slice ae.A1 ae.n1 ae.c1, .slice ae.A2 ae.n2 ae.c2, .int .i64 q1.1.u.d, .int .i64 q1.1.u.n, .int .i64 q1.1.u.b, .int .i64 q1.1.u.a, .int .i64 q1.1.u.x, .int .i64 q1.1.err] ae.n2 (es.flatMap KE.cells) (KE.cells (nm, ve, q1.2.2)) B u w') (upB B 7) u _) (hF.step (by rw [hVS]; simp) (by rw [hUS]; simp) (hFW.other (by decide) (by decide))))
          · have hFW := hF.wd
            have hB7 : B 7 = true := hdp ⟨7, .data⟩ (by simp) (by rfl)
            have e7 := slot_spell (hF.get (i := 7) (d := 82) (v := .agg #[.string (bs nm), .int .i64 ve.k, .string (bs ve.l), .string (bs ve.x), .slice ve.A ve.n ve.c, .string (bs ve.e), .int .i64 q1.2.2]) (by rw [hVS]; simp) hB7)
            go_simp
            exact hK.out _ _ (close_put hfr (d := 83) (by decide) (by simp) _ (F := fun u => Det VS US (fun B u w' => W16 w WB kA #[.int .i64 L.d, .int .i64 L.n, .int .i64 L.b, .int .i64 L.a, .int .i64 L.x, .slice ae.A1 ae.n1 ae.c1, .slice ae.A2 ae.n2 ae.c2, .int .i64 q1.1.u.d, .int .i64 q1.1.u.n, .int .i64 q1.1.u.b, .int .i64 q1.1.u.a, .int .i64 q1.1.u.x, .int .i64 q1.1.err] ae.n2 (es.flatMap KE.cells) (KE.cells (nm, ve, q1.2.2)) B u w') (upB B 8) u _) (hF.step (by rw [hVS]; simp) (by rw [hUS]; simp) (hFW.s8 hBi)))
          · have hFW := hF.wd
            have hB3 : B 3 = true := hdp ⟨3, .data⟩ (by simp) (by rfl)
            have hB8 : B 8 = true := hdp ⟨8, .data⟩ (by simp) (by rfl)
            obtain ⟨kk, q1e, q2e, q3e, _, _⟩ := hFW.f8 hB8 hBi
            have hkz := HKZ.out
            have hsz := Below.size hFW.gr
            have hsz2 := hFW.off.1
            obtain ⟨i1, hy, hy0, hy1, hy2⟩ := info_parts infoKnown
            refine wp_app2 (.tmp 78) (.tmp 83) 66 rfl WB.heap.size 79 i1 _ 7 104 Try.underlying66 hy hy0 hy1 hy2 rfl (by decide) _ (0 + ae.n2) _ rfl (hFW.f3 hB3 hBi) (some ⟨kk, 0, none⟩) 1 1 _ q1e (src_fresh (cs := (KE.cells (nm, ve, q1.2.2))) q3e rfl (by simp [KE.cells, Value.oneCell'])) (by unfold maxLen; omega) (by omega) (by omega) ?_
            intro v8 w8 hown8 hgrow8 hat8
            exact hK.out _ _ (close_put hfr (d := 84) (by decide) (by simp) _ (F := fun u => Det VS US (fun B u w' => W16 w WB kA #[.int .i64 L.d, .int .i64 L.n, .int .i64 L.b, .int .i64 L.a, .int .i64 L.x, .slice ae.A1 ae.n1 ae.c1, .slice ae.A2 ae.n2 ae.c2, .int .i64 q1.1.u.d, .int .i64 q1.1.u.n, .int .i64 q1.1.u.b, .int .i64 q1.1.u.a, .int .i64 q1.1.u.x, .int .i64 q1.1.err] ae.n2 (es.flatMap KE.cells) (KE.cells (nm, ve, q1.2.2)) B u w') (upB B 9) u _) (hF.step (by rw [hVS]; simp) (by rw [hUS]; simp) (hFW.s9 HKZ.out.2.2.1 HKZ.out.1 hown8 hgrow8 hB3 hB8 hBi)))
          · have hFW := hF.wd
            have o11 := slot_spell (hF.had (d := 11) (v := .pointer (some ⟨kA, 0, none⟩)) (by rw [hUS]; simp))
            have hl1 : kA < w'.heap.size := Nat.lt_of_lt_of_le HKZ.out.2.2.1 hFW.off.1
            go_simp
            exact hK.out _ _ (close_put hfr (d := 85) (by decide) (by simp) _ (F := fun u => Det VS US (fun B u w' => W16 w WB kA #[.int .i64 L.d, .int .i64 L.n, .int .i64 L.b, .int .i64 L.a, .int .i64 L.x, .slice ae.A1 ae.n1 ae.c1, .slice ae.A2 ae.n2 ae.c2, .int .i64 q1.1.u.d, .int .i64 q1.1.u.n, .int .i64 q1.1.u.b, .int .i64 q1.1.u.a, .int .i64 q1.1.u.x, .int .i64 q1.1.err] ae.n2 (es.flatMap KE.cells) (KE.cells (nm, ve, q1.2.2)) B u w') (upB B 10) u _) (hF.step (by rw [hVS]; simp) (by rw [hUS]; simp) (hFW.other (by decide) (by decide))))
          · have hFW := hF.wd
            have hB10 : B 10 = true := hdp ⟨10, .data⟩ (by simp) (by rfl)
            have e10 := slot_spell (hF.get (i := 10) (d := 85) (v := .pointer (some ⟨kA, 6, none⟩)) (by rw [hVS]; simp) hB10)
            have hB9 : B 9 = true := hdp ⟨9, .data⟩ (by simp) (by rfl)
            have hb := hFW.box
            rw [if_neg (by rw [hBi]; decide)] at hb
            have yc6 := cell_of_cells hb 6
            have yf6 := free_of_cells hb 6
            have yl := lt_of_block hb
            obtain ⟨A9, c9, hV, _⟩ := RowP.own (P := fun _ => True) (hFW.f9 hB9) (fun _ _ => trivial)
            have t1 := slot_spell hV
            go_simp
            exact hK.out _ _ (close_none hfr undef (F := fun u => Det VS US (fun B u w' => W16 w WB kA #[.int .i64 L.d, .int .i64 L.n, .int .i64 L.b, .int .i64 L.a, .int .i64 L.x, .slice ae.A1 ae.n1 ae.c1, .slice ae.A2 ae.n2 ae.c2, .int .i64 q1.1.u.d, .int .i64 q1.1.u.n, .int .i64 q1.1.u.b, .int .i64 q1.1.u.a, .int .i64 q1.1.u.x, .int .i64 q1.1.err] ae.n2 (es.flatMap KE.cells) (KE.cells (nm, ve, q1.2.2)) B u w') (upB B 11) u _) (hF.none (by rw [hVS]; simp) (by have h := hFW.s11 HKZ.out.2.2.1 HKZ.out.1 hB9 hBi; rw [hV] at h; simp only [Nat.zero_add] at h; exact h)))
        · intro B u w' hall hF
          have z1 := hF.get (i := 1) (d := 76) (v := .pointer (some ⟨kA, 6, none⟩)) (by rw [hVS]; simp) (hall 1 (by simp))
          have z2 := hF.get (i := 2) (d := 77) (v := .slice ae.A2 ae.n2 ae.c2) (by rw [hVS]; simp) (hall 2 (by simp))
          have z4 := hF.get (i := 4) (d := 79) (v := .string (bs nm)) (by rw [hVS]; simp) (hall 4 (by simp))
          have z5 := hF.get (i := 5) (d := 80) (v := .agg #[.int .i64 ve.k, .string (bs ve.l), .string (bs ve.x), .slice ve.A ve.n ve.c, .string (bs ve.e)]) (by rw [hVS]; simp) (hall 5 (by simp))
          have z6 := hF.get (i := 6) (d := 81) (v := .int .i64 q1.2.2) (by rw [hVS]; simp) (hall 6 (by simp))
          have z7 := hF.get (i := 7) (d := 82) (v := .agg #[.string (bs nm), .int .i64 ve.k, .string (bs ve.l), .string (bs ve.x), .slice ve.A ve.n ve.c, .string (bs ve.e), .int .i64 q1.2.2]) (by rw [hVS]; simp) (hall 7 (by simp))
          have z10 := hF.get (i := 10) (d := 85) (v := .pointer (some ⟨kA, 6, none⟩)) (by rw [hVS]; simp) (hall 10 (by simp))
          have hFW := hF.wd
          clear hF hVS hUS
          simp only [List.foldl_cons, List.foldl_nil, Act.put, List.setIfInBounds_toArray, List.set_cons_zero, List.set_cons_succ, z1, z2, z4, z5, z6, z7, z10]
          clear z1 z2 z4 z5 z6 z7 z10
          obtain ⟨A9, c9, hu84, hac9, hcm9, hrow9, _⟩ := RowP.own (P := fun b => WB.heap.size ≤ b) (hFW.f9 (hall 9 (by simp))) (fun b hb => hb)
          simp only [Nat.zero_add] at hu84
          have hbx := hFW.box
          rw [if_pos (hall 11 (by simp)), hu84] at hbx
          simp only [List.setIfInBounds_toArray, List.set_cons_succ, List.set_cons_zero] at hbx
          have hoff := hFW.off
          have hgr := hFW.gr
          clear hFW hall hu84
          obtain ⟨WC, hWC⟩ : ∃ WC, WC = w' := ⟨_, rfl⟩
          subst hWC
          have hkz := HKZ.out
          have HGR0 : Hid (Gr w WC) := Lib.hid hgr
          have HZ6 : Hid (WC.heap[p + 1 + 1]? = some (.cells #[.int .i64 0, .int .i64 0, .int .i64 0, .int .i64 0, .int .i64 0, .slice none 0 0, .slice none 0 0, .int .i64 0, .int .i64 0, .int .i64 0, .int .i64 0, .int .i64 0, .int .i64 0] 68 (0, 0))) := Lib.hid ((hoff.2 _ (Gr.lt HG15.out (lt_of_block HZ6.out)) (by simp; omega)).trans ((HG15.out.block _ (lt_of_block HZ6.out)).trans HZ6.out))
          have HZ7 : Hid (WC.heap[p + 1 + 1 + 1]? = some (.cells #[.int .i64 0, .string ⟨#[]⟩, .string ⟨#[]⟩, .slice none 0 0, .string ⟨#[]⟩] 24 (0, 0))) := Lib.hid ((hoff.2 _ (Gr.lt HG15.out (lt_of_block HZ7.out)) (by simp; omega)).trans ((HG15.out.block _ (lt_of_block HZ7.out)).trans HZ7.out))
          have HK1 := Lib.hid hbx
          have HK2 : Hid (WC.heap[kB]? = _) := Lib.hid ((hoff.2 kB hkz.2.2.2.1 (by simpa using HKK.out)).trans HK2.out)
          have HQ : Hid ((addD q1.1 nm q1.2.1 q1.2.2, q1.2.1, q1.2.2) = q) := Lib.hid (by
            have h := HQ.out
            rw [visRA, ← HQ1.out] at h
            exact h)
          have hson : SameOn (fun b => Pn P p b ∧ b ≠ kA) WB WC := hoff.on (fun b hb => by simpa using hb.2)
          have hsD : SRep (Pn P p) WC (addD q1.1 nm q1.2.1 q1.2.2) ⟨ae.A1, ae.n1, ae.c1, A9, ae.n2 + 1, c9⟩ := by
            refine ((HSB.out.on hson).fence (fun b hb _ => hb.1)).addD rfl ⟨by show ae.n2 + 1 ≤ c9; omega, hcm9⟩ HEL.out (fun i e he => ?_) ((row_known hrow9).fence (fun b hb _ => ⟨HPP.out b (by omega), by simp; omega⟩)) ((HNB.out.on hson).fence (fun b hb _ => hb.1))
            obtain ⟨t', h1, h2⟩ := HES.out i e he
            exact ⟨t', h1, (h2.on hson).fence (fun b hb _ => hb.1)⟩
          have hnD : NR (Pn P p) WC ve q1.2.1 := (HNB.out.on hson).fence (fun b hb _ => hb.1)
          have HSD := Lib.hid hsD
          have HND2 := Lib.hid hnD
          clear hbx hoff hgr hkz hson hsD hnD hrow9 hac9 hcm9
          go_wp2_with fail
          obtain ⟨VS, hVS⟩ : ∃ VS : List (Nat × Nat × Value), VS = [(0, 86, .agg #[.int .i64 L.d, .int .i64 L.n, .int .i64 L.b, .int .i64 L.a, .int .i64 L.x, .slice ae.A1 ae.n1 ae.c1, .slice A9 (ae.n2 + 1) c9, .int .i64 q1.1.u.d, .int .i64 q1.1.u.n, .int .i64 q1.1.u.b, .int .i64 q1.1.u.a, .int .i64 q1.1.u.x, .int .i64 q1.1.err]), (1, 87, .agg #[.int .i64 ve.k, .string (bs ve.l), .string (bs ve.x), .slice ve.A ve.n ve.c, .string (bs ve.e)]), (2, 88, .int .i64 q1.2.2), (5, 8, .int .i64 q1.2.2)] := ⟨_, rfl⟩
          obtain ⟨US, hUS⟩ : ∃ US : List (Nat × Value), US = [(6, .pointer (some ⟨p + 1 + 1, 0, none⟩)), (7, .pointer (some ⟨p + 1 + 1 + 1, 0, none⟩)), (11, .pointer (some ⟨kA, 0, none⟩)), (12, .pointer (some ⟨kB, 0, none⟩)), (13, .int .i64 q1.2.2)] := ⟨_, rfl⟩
          refine wp_region_frame (by kernel_rfl) (by kernel_rfl) [86, 87, 88, 8] (by simp) (Det VS US (fun B _ w' => CP w WC (p + 1 + 1) (p + 1 + 1 + 1) #[.int .i64 L.d, .int .i64 L.n, .int .i64 L.b, .int .i64 L.a, .int .i64 L.x, .slice ae.A1 ae.n1 ae.c1, .slice A9 (ae.n2 + 1) c9, .int .i64 q1.1.u.d, .int .i64 q1.1.u.n, .int .i64 q1.1.u.b, .int .i64 q1.1.u.a, .int .i64 q1.1.u.x, .int .i64 q1.1.err] #[.int .i64 0, .int .i64 0, .int .i64 0, .int .i64 0, .int .i64 0, .slice none 0 0, .slice none 0 0, .int .i64 0, .int .i64 0, .int .i64 0, .int .i64 0, .int .i64 0, .int .i64 0] #[.int .i64 ve.k, .string (bs ve.l), .string (bs ve.x), .slice ve.A ve.n ve.c, .string (bs ve.e)] #[.int .i64 0, .string ⟨#[]⟩, .string ⟨#[]⟩, .slice none 0 0, .string ⟨#[]⟩] 3 4 B w')) ?_ ?_ ?_
          · exact Det.start (by rw [hUS]; simp [slot]) (CP.start HGR0.out.drew (Off.gr ((Gr.refl _).drew)) HZ6.out HZ7.out)
          · intro B a' w' i o hfr hF ho hBi hdp
            have hi8 := (Array.getElem?_eq_some_iff.1 ho).1
            simp only [List.size_toArray, List.length_cons, List.length_nil] at hi8
            have hor : i = 0 ∨ i = 1 ∨ i = 2 ∨ i = 3 ∨ i = 4 ∨ i = 5 := by omega
            clear hi8
            rcases hor with rfl | rfl | rfl | rfl | rfl | rfl
            all_goals (
              simp only [List.getElem?_toArray, List.getElem?_cons_zero, List.getElem?_cons_succ, Option.some.injEq] at ho
              subst ho
              rw [if_pos (show Region.wanted _ _ = true from rfl)]
              refine wp_hideK ?_
              intro K hK)
            · have hFW := hF.wd
              have o11 := slot_spell (hF.had (d := 11) (v := .pointer (some ⟨kA, 0, none⟩)) (by rw [hUS]; simp))
              have hb := hFW.off.block HK1.out (by have := HKZ.out; simp; omega)
              have k0 := cell_of_cells hb 0
              have k1 := cell_of_cells hb 1
              have k2 := cell_of_cells hb 2
              have k3 := cell_of_cells hb 3
              have k4 := cell_of_cells hb 4
              have k5 := cell_of_cells hb 5
              have k6 := cell_of_cells hb 6
              have k7 := cell_of_cells hb 7
              have k8 := cell_of_cells hb 8
              have k9 := cell_of_cells hb 9
              have k10 := cell_of_cells hb 10
              have k11 := cell_of_cells hb 11
              have k12 := cell_of_cells hb 12
              have kl := lt_of_block hb
              go_simp
              exact hK.out _ _ (close_put hfr (d := 86) (by decide) (by simp) _ (F := fun u => Det VS US (fun B _ w' => CP w WC (p + 1 + 1) (p + 1 + 1 + 1) #[.int .i64 L.d, .int .i64 L.n, .int .i64 L.b, .int .i64 L.a, .int .i64 L.x, .slice ae.A1 ae.n1 ae.c1, .slice A9 (ae.n2 + 1) c9, .int .i64 q1.1.u.d, .int .i64 q1.1.u.n, .int .i64 q1.1.u.b, .int .i64 q1.1.u.a, .int .i64 q1.1.u.x, .int .i64 q1.1.err] #[.int .i64 0, .int .i64 0, .int .i64 0, .int .i64 0, .int .i64 0, .slice none 0 0, .slice none 0 0, .int .i64 0, .int .i64 0, .int .i64 0, .int .i64 0, .int .i64 0, .int .i64 0] #[.int .i64 ve.k, .string (bs ve.l), .string (bs ve.x), .slice ve.A ve.n ve.c, .string (bs ve.e)] #[.int .i64 0, .string ⟨#[]⟩, .string ⟨#[]⟩, .slice none 0 0, .string ⟨#[]⟩] 3 4 B w') (upB B 0) u _) (hF.step (by rw [hVS]; simp) (by rw [hUS]; simp) (hFW.skip (by decide) (by decide))))
            · have hFW := hF.wd
              have o12 := slot_spell (hF.had (d := 12) (v := .pointer (some ⟨kB, 0, none⟩)) (by rw [hUS]; simp))
              have hb := hFW.off.block HK2.out (by have := HKZ.out; simp; omega)
              have k0 := cell_of_cells hb 0
              have k1 := cell_of_cells hb 1
              have k2 := cell_of_cells hb 2
              have k3 := cell_of_cells hb 3
              have k4 := cell_of_cells hb 4
              have kl := lt_of_block hb
              go_simp
              exact hK.out _ _ (close_put hfr (d := 87) (by decide) (by simp) _ (F := fun u => Det VS US (fun B _ w' => CP w WC (p + 1 + 1) (p + 1 + 1 + 1) #[.int .i64 L.d, .int .i64 L.n, .int .i64 L.b, .int .i64 L.a, .int .i64 L.x, .slice ae.A1 ae.n1 ae.c1, .slice A9 (ae.n2 + 1) c9, .int .i64 q1.1.u.d, .int .i64 q1.1.u.n, .int .i64 q1.1.u.b, .int .i64 q1.1.u.a, .int .i64 q1.1.u.x, .int .i64 q1.1.err] #[.int .i64 0, .int .i64 0, .int .i64 0, .int .i64 0, .int .i64 0, .slice none 0 0, .slice none 0 0, .int .i64 0, .int .i64 0, .int .i64 0, .int .i64 0, .int .i64 0, .int .i64 0] #[.int .i64 ve.k, .string (bs ve.l), .string (bs ve.x), .slice ve.A ve.n ve.c, .string (bs ve.e)] #[.int .i64 0, .string ⟨#[]⟩, .string ⟨#[]⟩, .slice none 0 0, .string ⟨#[]⟩] 3 4 B w') (upB B 1) u _) (hF.step (by rw [hVS]; simp) (by rw [hUS]; simp) (hFW.skip (by decide) (by decide))))
            · have hFW := hF.wd
              have o13 := slot_spell (hF.had (d := 13) (v := .int .i64 q1.2.2) (by rw [hUS]; simp))
              go_simp
              exact hK.out _ _ (close_put hfr (d := 88) (by decide) (by simp) _ (F := fun u => Det VS US (fun B _ w' => CP w WC (p + 1 + 1) (p + 1 + 1 + 1) #[.int .i64 L.d, .int .i64 L.n, .int .i64 L.b, .int .i64 L.a, .int .i64 L.x, .slice ae.A1 ae.n1 ae.c1, .slice A9 (ae.n2 + 1) c9, .int .i64 q1.1.u.d, .int .i64 q1.1.u.n, .int .i64 q1.1.u.b, .int .i64 q1.1.u.a, .int .i64 q1.1.u.x, .int .i64 q1.1.err] #[.int .i64 0, .int .i64 0, .int .i64 0, .int .i64 0, .int .i64 0, .slice none 0 0, .slice none 0 0, .int .i64 0, .int .i64 0, .int .i64 0, .int .i64 0, .int .i64 0, .int .i64 0] #[.int .i64 ve.k, .string (bs ve.l), .string (bs ve.x), .slice ve.A ve.n ve.c, .string (bs ve.e)] #[.int .i64 0, .string ⟨#[]⟩, .string ⟨#[]⟩, .slice none 0 0, .string ⟨#[]⟩] 3 4 B w') (upB B 2) u _) (hF.step (by rw [hVS]; simp) (by rw [hUS]; simp) (hFW.skip (by decide) (by decide))))
            · have hFW := hF.wd
              have hB0 : B 0 = true := hdp ⟨0, .data⟩ (by simp) (by rfl)
              have e0 := slot_spell (hF.get (i := 0) (d := 86) (v := .agg #[.int .i64 L.d, .int .i64 L.n, .int .i64 L.b, .int .i64 L.a, .int .i64 L.x, .slice ae.A1 ae.n1 ae.c1, .slice A9 (ae.n2 + 1) c9, .int .i64 q1.1.u.d, .int .i64 q1.1.u.n, .int .i64 q1.1.u.b, .int .i64 q1.1.u.a, .int .i64 q1.1.u.x, .int .i64 q1.1.err]) (by rw [hVS]; simp) hB0)
              have o6 := slot_spell (hF.had (d := 6) (v := .pointer (some ⟨p + 1 + 1, 0, none⟩)) (by rw [hUS]; simp))
              have q6 := hFW.b6
              rw [if_neg (by rw [hBi]; decide)] at q6
              have y0 := cell_of_cells q6 0
              have yf0 := free_of_cells q6 0
              have y1 := cell_of_cells q6 1
              have yf1 := free_of_cells q6 1
              have y2 := cell_of_cells q6 2
              have yf2 := free_of_cells q6 2
              have y3 := cell_of_cells q6 3
              have yf3 := free_of_cells q6 3
              have y4 := cell_of_cells q6 4
              have yf4 := free_of_cells q6 4
              have y5 := cell_of_cells q6 5
              have yf5 := free_of_cells q6 5
              have y6 := cell_of_cells q6 6
              have yf6 := free_of_cells q6 6
              have y7 := cell_of_cells q6 7
              have yf7 := free_of_cells q6 7
              have y8 := cell_of_cells q6 8
              have yf8 := free_of_cells q6 8
              have y9 := cell_of_cells q6 9
              have yf9 := free_of_cells q6 9
              have y10 := cell_of_cells q6 10
              have yf10 := free_of_cells q6 10
              have y11 := cell_of_cells q6 11
              have yf11 := free_of_cells q6 11
              have y12 := cell_of_cells q6 12
              have yf12 := free_of_cells q6 12
              have yl := lt_of_block q6
              go_simp
              exact hK.out _ _ (close_none hfr undef (F := fun u => Det VS US (fun B _ w' => CP w WC (p + 1 + 1) (p + 1 + 1 + 1) #[.int .i64 L.d, .int .i64 L.n, .int .i64 L.b, .int .i64 L.a, .int .i64 L.x, .slice ae.A1 ae.n1 ae.c1, .slice A9 (ae.n2 + 1) c9, .int .i64 q1.1.u.d, .int .i64 q1.1.u.n, .int .i64 q1.1.u.b, .int .i64 q1.1.u.a, .int .i64 q1.1.u.x, .int .i64 q1.1.err] #[.int .i64 0, .int .i64 0, .int .i64 0, .int .i64 0, .int .i64 0, .slice none 0 0, .slice none 0 0, .int .i64 0, .int .i64 0, .int .i64 0, .int .i64 0, .int .i64 0, .int .i64 0] #[.int .i64 ve.k, .string (bs ve.l), .string (bs ve.x), .slice ve.A ve.n ve.c, .string (bs ve.e)] #[.int .i64 0, .string ⟨#[]⟩, .string ⟨#[]⟩, .slice none 0 0, .string ⟨#[]⟩] 3 4 B w') (upB B 3) u _) (hF.none (by rw [hVS]; simp) (hFW.s6 hBi (by decide) (by omega) (by have hp := HP.out; omega) rfl rfl)))
            · have hFW := hF.wd
              have hB1 : B 1 = true := hdp ⟨1, .data⟩ (by simp) (by rfl)
              have e1 := slot_spell (hF.get (i := 1) (d := 87) (v := .agg #[.int .i64 ve.k, .string (bs ve.l), .string (bs ve.x), .slice ve.A ve.n ve.c, .string (bs ve.e)]) (by rw [hVS]; simp) hB1)
              have o7 := slot_spell (hF.had (d := 7) (v := .pointer (some ⟨p + 1 + 1 + 1, 0, none⟩)) (by rw [hUS]; simp))
              have q7 := hFW.b7
              rw [if_neg (by rw [hBi]; decide)] at q7
              have y0 := cell_of_cells q7 0
              have yf0 := free_of_cells q7 0
              have y1 := cell_of_cells q7 1
              have yf1 := free_of_cells q7 1
              have y2 := cell_of_cells q7 2
              have yf2 := free_of_cells q7 2
              have y3 := cell_of_cells q7 3
              have yf3 := free_of_cells q7 3
              have y4 := cell_of_cells q7 4
              have yf4 := free_of_cells q7 4
              have yl := lt_of_block q7
              go_simp
              exact hK.out _ _ (close_none hfr undef (F := fun u => Det VS US (fun B _ w' => CP w WC (p + 1 + 1) (p + 1 + 1 + 1) #[.int .i64 L.d, .int .i64 L.n, .int .i64 L.b, .int .i64 L.a, .int .i64 L.x, .slice ae.A1 ae.n1 ae.c1, .slice A9 (ae.n2 + 1) c9, .int .i64 q1.1.u.d, .int .i64 q1.1.u.n, .int .i64 q1.1.u.b, .int .i64 q1.1.u.a, .int .i64 q1.1.u.x, .int .i64 q1.1.err] #[.int .i64 0, .int .i64 0, .int .i64 0, .int .i64 0, .int .i64 0, .slice none 0 0, .slice none 0 0, .int .i64 0, .int .i64 0, .int .i64 0, .int .i64 0, .int .i64 0, .int .i64 0] #[.int .i64 ve.k, .string (bs ve.l), .string (bs ve.x), .slice ve.A ve.n ve.c, .string (bs ve.e)] #[.int .i64 0, .string ⟨#[]⟩, .string ⟨#[]⟩, .slice none 0 0, .string ⟨#[]⟩] 3 4 B w') (upB B 4) u _) (hF.none (by rw [hVS]; simp) (hFW.s7 hBi (by decide) (by omega) (by have hp := HP.out; omega) rfl rfl)))
            · have hFW := hF.wd
              have hB2 : B 2 = true := hdp ⟨2, .data⟩ (by simp) (by rfl)
              have e2 := slot_spell (hF.get (i := 2) (d := 88) (v := .int .i64 q1.2.2) (by rw [hVS]; simp) hB2)
              go_simp
              exact hK.out _ _ (close_put hfr (d := 8) (by decide) (by simp) _ (F := fun u => Det VS US (fun B _ w' => CP w WC (p + 1 + 1) (p + 1 + 1 + 1) #[.int .i64 L.d, .int .i64 L.n, .int .i64 L.b, .int .i64 L.a, .int .i64 L.x, .slice ae.A1 ae.n1 ae.c1, .slice A9 (ae.n2 + 1) c9, .int .i64 q1.1.u.d, .int .i64 q1.1.u.n, .int .i64 q1.1.u.b, .int .i64 q1.1.u.a, .int .i64 q1.1.u.x, .int .i64 q1.1.err] #[.int .i64 0, .int .i64 0, .int .i64 0, .int .i64 0, .int .i64 0, .slice none 0 0, .slice none 0 0, .int .i64 0, .int .i64 0, .int .i64 0, .int .i64 0, .int .i64 0, .int .i64 0] #[.int .i64 ve.k, .string (bs ve.l), .string (bs ve.x), .slice ve.A ve.n ve.c, .string (bs ve.e)] #[.int .i64 0, .string ⟨#[]⟩, .string ⟨#[]⟩, .slice none 0 0, .string ⟨#[]⟩] 3 4 B w') (upB B 5) u _) (hF.step (by rw [hVS]; simp) (by rw [hUS]; simp) (hFW.skip (by decide) (by decide))))
          · intro B u w' hall hF
            have z0 := hF.get (i := 0) (d := 86) (v := .agg #[.int .i64 L.d, .int .i64 L.n, .int .i64 L.b, .int .i64 L.a, .int .i64 L.x, .slice ae.A1 ae.n1 ae.c1, .slice A9 (ae.n2 + 1) c9, .int .i64 q1.1.u.d, .int .i64 q1.1.u.n, .int .i64 q1.1.u.b, .int .i64 q1.1.u.a, .int .i64 q1.1.u.x, .int .i64 q1.1.err]) (by rw [hVS]; simp) (hall 0 (by simp))
            have z1 := hF.get (i := 1) (d := 87) (v := .agg #[.int .i64 ve.k, .string (bs ve.l), .string (bs ve.x), .slice ve.A ve.n ve.c, .string (bs ve.e)]) (by rw [hVS]; simp) (hall 1 (by simp))
            have z2 := hF.get (i := 2) (d := 88) (v := .int .i64 q1.2.2) (by rw [hVS]; simp) (hall 2 (by simp))
            have z5 := hF.get (i := 5) (d := 8) (v := .int .i64 q1.2.2) (by rw [hVS]; simp) (hall 5 (by simp))
            have hFW := hF.wd
            clear hF hVS hUS
            simp only [List.foldl_cons, List.foldl_nil, Act.put, List.setIfInBounds_toArray, List.set_cons_zero, List.set_cons_succ, z0, z1, z2, z5]
            clear z0 z1 z2 z5
            have hp := HP.out
            have q6 := hFW.b6
            have q7 := hFW.b7
            have hgf := hFW.gr
            have hof := hFW.off
            rw [if_pos (hall 3 (by simp))] at q6
            rw [if_pos (hall 4 (by simp))] at q7
            clear hall hFW
            go_wp2_with fail
            refine bodyPost_ret (results_state rfl _ _ _ _ _ _ rfl rfl rfl q6 rfl q7) rfl ⟨⟨ae.A1, ae.n1, ae.c1, A9, ae.n2 + 1, c9⟩, ve, by rw [← HQ.out]; rfl, ?_, ?_, hgf⟩
            · rw [← HQ.out]
              exact (HSD.out.on (hof.on (fun b hb => by have h := hb.2; simp at h ⊢; omega))).fence (fun b hb _ => hb.1)
            · rw [← HQ.out]
              exact (HND2.out.on (hof.on (fun b hb => by have h := hb.2; simp at h ⊢; omega))).fence (fun b hb _ => hb.1)
end Go.Proofs.Ytbfnmgiccbdglaa
