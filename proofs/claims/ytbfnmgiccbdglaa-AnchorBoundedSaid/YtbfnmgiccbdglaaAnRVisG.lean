/- visit of the reference, walked: a node that is neither an alias nor an anchor, kids kept. -/
import Derived.Test.YtbfnmgiccbdglaaAnRVisN
import Derived.Test.YtbfnmgiccbdglaaApp2
namespace Go.Proofs.Ytbfnmgiccbdglaa
open Go.ChangeShapes Go.WideShapes Go.ChangeAt Go.RowKit

section
variable {P : Program} {w : World}
theorem wpList_app2 {ops : Array Oper} {rest : List Oper} {o : Oper} {a : Act} {Q : Exit → Act → World → Prop} (hgd : o.guard = none) (s x : Operand) (t : TypeId)
    (ho : o.op = .call { callee := .builtin .append, args := #[s, x], argTypes := #[t, t] })
    (base : Nat) (e : TypeId) (i : TypeInfo) (z : Value) (size bytes : Nat) (ht : P.underlying t = some (.slice e)) (hi : P.info? e = some i) (hz : i.zero = some z)
    (hsize : i.size = size) (hby : i.bytes = bytes) (hzs : z.cells.size = size) (hsz : 0 < size)
    (v : Value) (n : Nat) (xs : List Value) (hsv : a.eval s = v) (hown : w.ownsRow base e size v n xs)
    (A : Option Addr) (m c : Nat) (news : List Value) (hx : a.eval x = .slice A m c) (hs : SrcAt w A m size news) (h63 : n + m ≤ maxLen) (hbytes : (n + m) * bytes ≤ 140737488355328) (hbase : base ≤ w.heap.size)
    (h : ∀ v' w', w'.ownsRow base e size v' (n + m) (xs ++ news) → w.grownBy w' v.ownBlock → (v'.ownBlock = v.ownBlock ∨ v'.ownBlock = some w.heap.size) → wpList P ops Q rest (a.put o.dst v') w') : wpList P ops Q (o :: rest) a w :=
  wpList_plain hgd fun _ hK => wp_app2 s x t ho base e i z size bytes ht hi hz hsize hby hzs hsz v n xs hsv hown A m c news hx hs h63 hbytes hbase fun v' w' h2 h3 h4 => hK _ _ (h v' w' h2 h3 h4)
end
theorem infoNodeR : (Try.prog.info? 24).map (fun i => (i.zero, i.size, i.bytes)) = some (some (.agg #[.int .i64 0, .string ⟨#[]⟩, .string ⟨#[]⟩, .slice none 0 0, .string ⟨#[]⟩]), 5, 80) := by kernel_rfl
/-- Pn P p but for the block of a row that is being made. -/
def PK (P : Nat → Prop) (p : Nat) (kv : Value) : Nat → Prop := fun b => Pn P p b ∧ kv.ownBlock ≠ some b
theorem visRL_consG (L : U5) {l : List NT} {j : Nat} {y : NT} (h : l[j]? = some y) (st : RSt) (acc : Int) : visRL true L (l.drop j) st acc = ((visRL true L (l.drop (j + 1)) (visR true L y st).1 (wrap64 (acc + (visR true L y st).2.2))).1, [(visR true L y st).2.1] ++ (visRL true L (l.drop (j + 1)) (visR true L y st).1 (wrap64 (acc + (visR true L y st).2.2))).2.1, (visRL true L (l.drop (j + 1)) (visR true L y st).1 (wrap64 (acc + (visR true L y st).2.2))).2.2) := by
  rw [drop_at h, visRL]
  rfl
/-- Ahead of a round. -/
structure VLG (P : Nat → Prop) (L : U5) (w W1 : World) (p n : Nat) (ks : List NT) (R : RSt × List NT × Int) (j cj : Nat) (sj : RSt) (b : SV) (acc : Int) (kv : Value) (kd : List NT) (ds : List ND) (wr : World) : Prop where
  gr : Gr w wr
  off : Off [p] W1 wr
  box : wr.heap[p]? = some (.cells #[.int .i64 L.d, .int .i64 L.n, .int .i64 L.b, .int .i64 L.a, .int .i64 L.x, .slice b.A1 b.n1 b.c1, .slice b.A2 b.n2 b.c2, .int .i64 sj.u.d, .int .i64 sj.u.n, .int .i64 sj.u.b, .int .i64 sj.u.a, .int .i64 sj.u.x, .int .i64 sj.err] 68 (0, 0))
  rep : SRep (PK P p kv) wr sj b
  cn : sj.names.length ≤ cj
  cd : sj.done.length ≤ cj
  cc : cj + countL (ks.drop j) ≤ 1000000
  kid : KidR (PK P p kv) W1.heap.size wr kv kd ds
  ln : kd.length ≤ j
  res : ((visRL true L (ks.drop j) sj acc).1, kd ++ (visRL true L (ks.drop j) sj acc).2.1, (visRL true L (ks.drop j) sj acc).2.2) = R
set_option maxRecDepth 100000 in
set_option maxHeartbeats 4000000 in
theorem visitR_grow {P : Nat → Prop} (L : U5) (m : Nat) (t : NT) (v : ND) (st : RSt) (a : SV) (cnt : Nat) (w : World) (hP : ∀ b, w.heap.size ≤ b → P b) (hr : NRep P (m + 1) w v t) (hs : SRep P w st a) (he : st.err = 0) (hk10 : t.k ≠ 10) (hk9 : t.k ≠ 9) (hmk : markedL t.ks = true) (hb1 : st.names.length ≤ cnt) (hb2 : st.done.length ≤ cnt) (hcc : cnt + countL t.ks ≤ 1000000) (HI : Hid (VisI true L m)) : Calls Try.prog 35 #[.agg #[.int .i64 L.d, .int .i64 L.n, .int .i64 L.b, .int .i64 L.a, .int .i64 L.x, .slice a.A1 a.n1 a.c1, .slice a.A2 a.n2 a.c2, .int .i64 st.u.d, .int .i64 st.u.n, .int .i64 st.u.b, .int .i64 st.u.a, .int .i64 st.u.x, .int .i64 st.err], .agg #[.int .i64 v.k, .string (bs v.l), .string (bs v.x), .slice v.A v.n v.c, .string (bs v.e)], .bool true] w (VRes P L (visR true L t st) w) := by
  have hq0 := visR_eq true L t st
  rw [if_neg (by rw [he]; decide), if_neg hk10, if_neg hk9] at hq0
  obtain ⟨R, hR⟩ : ∃ R, R = visRL true L t.ks st (cost0 t.k) := ⟨_, rfl⟩
  rw [← hR] at hq0
  generalize hq : visR true L t st = q
  rw [hq] at hq0
  have HQ0 := Lib.hid hq0
  have HS := Lib.hid hs
  have hrr : NR P w v t := ⟨m + 1, hr⟩
  have htx := hrr.text
  obtain ⟨m', hm', -, -, -, -, hnk, -, -, -, -, -, -, -, hks⟩ := hr.parts
  have hm'' : m = m' := by omega
  subst hm''
  have HRR0 := Lib.hid hrr
  have HNK := Lib.hid hnk
  have HKS := Lib.hid hks
  have HPP := Lib.hid hP
  have HMK := Lib.hid hmk
  have HBB := Lib.hid (And.intro hb1 (And.intro hb2 hcc))
  have HR0 := Lib.hid hR
  have r1 : (st.err != 0) = false := by simp [he]
  have r2 : (v.k == 10) = false := by rw [htx.1]; simp [hk10]
  have r3 : (v.k == 9) = false := by rw [htx.1]; simp [hk9]
  have hvk := htx.1
  have HVK := Lib.hid hvk
  have hn63 : v.n ≤ 1000000 := by
    rw [hnk]
    have := ks_count t.ks
    omega
  obtain ⟨tb, htb⟩ : ∃ tb : Bool, tb = (v.k == 2 || v.k == 3 || v.k == 4) := ⟨_, rfl⟩
  have HTB := Lib.hid htb
  clear hq hq0 hR hs hr hrr htx hnk hks hP hmk hb1 hb2 hcc he hk10 hk9 hvk htb hm'
  go_enter Try.func35, Try.ntmps35
  go_upto_region 19 with fail
  obtain ⟨p, hp⟩ : ∃ p, p = w.heap.size := ⟨_, rfl⟩
  obtain ⟨W1, hW1⟩ : ∃ W1, W1 = ((((w.alloc (.cells #[.int .i64 L.d, .int .i64 L.n, .int .i64 L.b, .int .i64 L.a, .int .i64 L.x, .slice a.A1 a.n1 a.c1, .slice a.A2 a.n2 a.c2, .int .i64 st.u.d, .int .i64 st.u.n, .int .i64 st.u.b, .int .i64 st.u.a, .int .i64 st.u.x, .int .i64 st.err] 68)).alloc (.cells #[.int .i64 v.k, .string (bs v.l), .string (bs v.x), .slice v.A v.n v.c, .string (bs v.e)] 24)).alloc (.cells #[.int .i64 0, .int .i64 0, .int .i64 0, .int .i64 0, .int .i64 0, .slice none 0 0, .slice none 0 0, .int .i64 0, .int .i64 0, .int .i64 0, .int .i64 0, .int .i64 0, .int .i64 0] 68)).alloc (.cells #[.int .i64 0, .string ⟨#[]⟩, .string ⟨#[]⟩, .slice none 0 0, .string ⟨#[]⟩] 24)) := ⟨_, rfl⟩
  rw [← hp, ← hW1]
  have hg1 : Gr w W1 := by rw [hW1]; exact ((((Gr.refl w).alloc _).alloc _).alloc _).alloc _
  have hb2 : W1.heap[p]? = some (.cells #[.int .i64 L.d, .int .i64 L.n, .int .i64 L.b, .int .i64 L.a, .int .i64 L.x, .slice a.A1 a.n1 a.c1, .slice a.A2 a.n2 a.c2, .int .i64 st.u.d, .int .i64 st.u.n, .int .i64 st.u.b, .int .i64 st.u.a, .int .i64 st.u.x, .int .i64 st.err] 68 (0, 0)) := by
    rw [hW1, hp, heapOldR (by simp; omega), heapOldR (by simp; omega), heapOldR (by simp)]
    exact heap_alloc_new w _
  have hb3 : W1.heap[p + 1]? = some (.cells #[.int .i64 v.k, .string (bs v.l), .string (bs v.x), .slice v.A v.n v.c, .string (bs v.e)] 24 (0, 0)) := by
    have h := heap_alloc_new (w.alloc (.cells #[.int .i64 L.d, .int .i64 L.n, .int .i64 L.b, .int .i64 L.a, .int .i64 L.x, .slice a.A1 a.n1 a.c1, .slice a.A2 a.n2 a.c2, .int .i64 st.u.d, .int .i64 st.u.n, .int .i64 st.u.b, .int .i64 st.u.a, .int .i64 st.u.x, .int .i64 st.err] 68)) (.cells #[.int .i64 v.k, .string (bs v.l), .string (bs v.x), .slice v.A v.n v.c, .string (bs v.e)] 24)
    rw [show (w.alloc (.cells #[.int .i64 L.d, .int .i64 L.n, .int .i64 L.b, .int .i64 L.a, .int .i64 L.x, .slice a.A1 a.n1 a.c1, .slice a.A2 a.n2 a.c2, .int .i64 st.u.d, .int .i64 st.u.n, .int .i64 st.u.b, .int .i64 st.u.a, .int .i64 st.u.x, .int .i64 st.err] 68)).heap.size = p + 1 by simp [hp]] at h
    rw [hW1, heapOldR (by simp [hp]), heapOldR (by simp [hp])]
    exact h
  have hb4 : W1.heap[p + 1 + 1]? = some (.cells #[.int .i64 0, .int .i64 0, .int .i64 0, .int .i64 0, .int .i64 0, .slice none 0 0, .slice none 0 0, .int .i64 0, .int .i64 0, .int .i64 0, .int .i64 0, .int .i64 0, .int .i64 0] 68 (0, 0)) := by
    have h := heap_alloc_new ((w.alloc (.cells #[.int .i64 L.d, .int .i64 L.n, .int .i64 L.b, .int .i64 L.a, .int .i64 L.x, .slice a.A1 a.n1 a.c1, .slice a.A2 a.n2 a.c2, .int .i64 st.u.d, .int .i64 st.u.n, .int .i64 st.u.b, .int .i64 st.u.a, .int .i64 st.u.x, .int .i64 st.err] 68)).alloc (.cells #[.int .i64 v.k, .string (bs v.l), .string (bs v.x), .slice v.A v.n v.c, .string (bs v.e)] 24)) (.cells #[.int .i64 0, .int .i64 0, .int .i64 0, .int .i64 0, .int .i64 0, .slice none 0 0, .slice none 0 0, .int .i64 0, .int .i64 0, .int .i64 0, .int .i64 0, .int .i64 0, .int .i64 0] 68)
    rw [show ((w.alloc (.cells #[.int .i64 L.d, .int .i64 L.n, .int .i64 L.b, .int .i64 L.a, .int .i64 L.x, .slice a.A1 a.n1 a.c1, .slice a.A2 a.n2 a.c2, .int .i64 st.u.d, .int .i64 st.u.n, .int .i64 st.u.b, .int .i64 st.u.a, .int .i64 st.u.x, .int .i64 st.err] 68)).alloc (.cells #[.int .i64 v.k, .string (bs v.l), .string (bs v.x), .slice v.A v.n v.c, .string (bs v.e)] 24)).heap.size = p + 1 + 1 by simp [hp]] at h
    rw [hW1, heapOldR (by simp [hp])]
    exact h
  have hb5 : W1.heap[p + 1 + 1 + 1]? = some (.cells #[.int .i64 0, .string ⟨#[]⟩, .string ⟨#[]⟩, .slice none 0 0, .string ⟨#[]⟩] 24 (0, 0)) := by
    have h := heap_alloc_new (((w.alloc (.cells #[.int .i64 L.d, .int .i64 L.n, .int .i64 L.b, .int .i64 L.a, .int .i64 L.x, .slice a.A1 a.n1 a.c1, .slice a.A2 a.n2 a.c2, .int .i64 st.u.d, .int .i64 st.u.n, .int .i64 st.u.b, .int .i64 st.u.a, .int .i64 st.u.x, .int .i64 st.err] 68)).alloc (.cells #[.int .i64 v.k, .string (bs v.l), .string (bs v.x), .slice v.A v.n v.c, .string (bs v.e)] 24)).alloc (.cells #[.int .i64 0, .int .i64 0, .int .i64 0, .int .i64 0, .int .i64 0, .slice none 0 0, .slice none 0 0, .int .i64 0, .int .i64 0, .int .i64 0, .int .i64 0, .int .i64 0, .int .i64 0] 68)) (.cells #[.int .i64 0, .string ⟨#[]⟩, .string ⟨#[]⟩, .slice none 0 0, .string ⟨#[]⟩] 24)
    rw [show (((w.alloc (.cells #[.int .i64 L.d, .int .i64 L.n, .int .i64 L.b, .int .i64 L.a, .int .i64 L.x, .slice a.A1 a.n1 a.c1, .slice a.A2 a.n2 a.c2, .int .i64 st.u.d, .int .i64 st.u.n, .int .i64 st.u.b, .int .i64 st.u.a, .int .i64 st.u.x, .int .i64 st.err] 68)).alloc (.cells #[.int .i64 v.k, .string (bs v.l), .string (bs v.x), .slice v.A v.n v.c, .string (bs v.e)] 24)).alloc (.cells #[.int .i64 0, .int .i64 0, .int .i64 0, .int .i64 0, .int .i64 0, .slice none 0 0, .slice none 0 0, .int .i64 0, .int .i64 0, .int .i64 0, .int .i64 0, .int .i64 0, .int .i64 0] 68)).heap.size = p + 1 + 1 + 1 by simp [hp]] at h
    rw [hW1]
    exact h
  have HG1 := Lib.hid hg1
  have HB2 := Lib.hid hb2
  have HB3 := Lib.hid hb3
  have HB4 := Lib.hid hb4
  have HB5 := Lib.hid hb5
  have HP := Lib.hid hp
  clear hW1 hg1 hb2 hb3 hb4 hb5 hp
  have hb2 := HB2.out
  have hb3 := HB3.out
  have k0 := cell_of_cells hb2 0
  have k1 := cell_of_cells hb2 1
  have k2 := cell_of_cells hb2 2
  have k3 := cell_of_cells hb2 3
  have k4 := cell_of_cells hb2 4
  have k5 := cell_of_cells hb2 5
  have k6 := cell_of_cells hb2 6
  have k7 := cell_of_cells hb2 7
  have k8 := cell_of_cells hb2 8
  have k9 := cell_of_cells hb2 9
  have k10 := cell_of_cells hb2 10
  have k11 := cell_of_cells hb2 11
  have k12 := cell_of_cells hb2 12
  have kl := lt_of_block hb2
  have j0 := cell_of_cells hb3 0
  have j1 := cell_of_cells hb3 1
  have j2 := cell_of_cells hb3 2
  have j3 := cell_of_cells hb3 3
  have j4 := cell_of_cells hb3 4
  have jl := lt_of_block hb3
  go_cut [101] from 89 to 101 (fun c wx => c = .bool tb ∧ W1 = wx)
  case first =>
    by_cases h2 : v.k = 2
    · have f2 : (v.k == 2) = true := by simp [h2]
      have ft : tb = true := by rw [HTB.out, f2]; rfl
      clear h2
      go_wp2_with fail
      go_meet
      exact ⟨by rw [ft], rfl⟩
    · have f2 : (v.k == 2) = false := by simp [h2]
      by_cases h3 : v.k = 3
      · have f3 : (v.k == 3) = true := by simp [h3]
        have ft : tb = true := by rw [HTB.out, f2, f3]; rfl
        clear h2 h3
        go_wp2_with fail
        go_meet
        exact ⟨by rw [ft], rfl⟩
      · have f3 : (v.k == 3) = false := by simp [h3]
        by_cases h4 : v.k = 4
        · have f4 : (v.k == 4) = true := by simp [h4]
          have ft : tb = true := by rw [HTB.out, f2, f3, f4]; rfl
          clear h2 h3 h4
          go_wp2_with fail
          go_meet
          exact ⟨by rw [ft], rfl⟩
        · have f4 : (v.k == 4) = false := by simp [h4]
          have ft : tb = false := by rw [HTB.out, f2, f3, f4]; rfl
          clear h2 h3 h4
          go_wp2_with fail
          go_meet
          exact ⟨by rw [ft], rfl⟩
  case rest =>
  obtain ⟨rfl, rfl⟩ := hcut
  have hct : cost0 t.k = if tb = true then 1 else 0 := by
    rw [HTB.out, HVK.out]
    unfold cost0
    by_cases h2 : t.k = 2
    · simp [h2]
    · by_cases h3 : t.k = 3
      · simp [h3]
      · by_cases h4 : t.k = 4
        · simp [h4]
        · simp [h2, h3, h4]
  have HCT := Lib.hid hct
  clear hct
  go_upto_if 101 with fail
  go_cut [14] from 89 to 101 (fun c wx => c = .int .i64 (cost0 t.k) ∧ W1 = wx)
  case first =>
    cases tb
    · go_wp2_with fail
      go_meet
      exact ⟨by rw [HCT.out]; rfl, rfl⟩
    · go_wp2_with fail
      go_meet
      exact ⟨by rw [HCT.out]; rfl, rfl⟩
  case rest =>
  obtain ⟨rfl, rfl⟩ := hcut
  go_wp2_with fail
  go_loopw [14, 15, 16] (fun cv kv iv wr => ∃ (j cj : Nat) (sj : RSt) (b : SV) (acc : Int) (kd : List NT) (ds : List ND) (kx : Value), j ≤ v.n ∧ iv = .int .i64 j ∧ cv = .int .i64 acc ∧ kx = kv ∧ VLG P L w W1 p v.n t.ks R j cj sj b acc kx kd ds wr) (fun _ _ iv _ => v.n - (intOf iv).toNat)
  case atStart =>
    have hbb := HBB.out
    refine ⟨0, cnt, st, a, _, [], [], _, Nat.zero_le _, rfl, rfl, rfl, HG1.out, Off.refl _ _, HB2.out, (HS.out.fence (fun b hb hl => ⟨Pn.of hb (by have := HP.out; omega), fun he => by cases he⟩)).on (HG1.out.on _), hbb.1, hbb.2.1, hbb.2.2, KidR.nil, Nat.zero_le _, ?_⟩
    rw [HR0.out]
    rfl
  case round =>
    obtain ⟨j, cj, sj, b, acc, kd, ds, kv, hj, rfl, rfl, rfl, hv⟩ := hrel
    have HV := Lib.hid hv
    clear hv
    by_cases hlt : j < v.n
    · obtain ⟨y, hy⟩ : ∃ y, t.ks[j]? = some y := ⟨t.ks[j]'(by rw [← HNK.out]; omega), List.getElem?_eq_getElem _⟩
      obtain ⟨bk, ok, d, hA, hpk, hbk, hce, hre⟩ := HKS.out j y hy
      have hlt1 : (j : Int) < (v.n : Int) := by omega
      have hb3 := HV.out.off.block HB3.out (by simp)
      have j0 := cell_of_cells hb3 0
      have j1 := cell_of_cells hb3 1
      have j2 := cell_of_cells hb3 2
      have j3 := cell_of_cells hb3 3
      have j4 := cell_of_cells hb3 4
      have jl := lt_of_block hb3
      have HA := Lib.hid hA
      have HPK := Lib.hid hbk
      have HY := Lib.hid hy
      have HCE0 := Lib.hid hce
      have HRE0 := Lib.hid hre
      have HPB := Lib.hid hpk
      clear hA hpk hbk hce hre hy hb3
      go_wp2_with fail
      obtain ⟨r, hr⟩ : ∃ r, r = wr.heap.size := ⟨_, rfl⟩
      obtain ⟨WA, hWA⟩ : ∃ W, W = wr.alloc (.cells #[.int .i64 0, .string ⟨#[]⟩, .string ⟨#[]⟩, .slice none 0 0, .string ⟨#[]⟩] 24) := ⟨_, rfl⟩
      try rw [← hr]
      try rw [← hWA]
      have hp := HP.out
      have hp1 := lt_of_block HB5.out
      have hv := HV.out
      have hszr := hv.off.1
      have hga : Gr wr WA := by rw [hWA]; exact (Gr.refl wr).alloc _
      have hsza : r < WA.heap.size := by rw [hWA, hr]; simp
      have HGR := Lib.hid hv.gr
      have HGA : Hid (Gr w WA) := Lib.hid (hv.gr.trans hga)
      have HRZ : Hid (w.heap.size ≤ p ∧ p + 1 + 1 + 1 < r ∧ r < WA.heap.size ∧ w.heap.size ≤ r) := Lib.hid ⟨by omega, by omega, hsza, by omega⟩
      have HX2 : Hid (WA.heap[p]? = some (.cells #[.int .i64 L.d, .int .i64 L.n, .int .i64 L.b, .int .i64 L.a, .int .i64 L.x, .slice b.A1 b.n1 b.c1, .slice b.A2 b.n2 b.c2, .int .i64 sj.u.d, .int .i64 sj.u.n, .int .i64 sj.u.b, .int .i64 sj.u.a, .int .i64 sj.u.x, .int .i64 sj.err] 68 (0, 0))) := Lib.hid ((hga.block _ (lt_of_block hv.box)).trans hv.box)
      have HX3 : Hid (WA.heap[p + 1]? = some (.cells #[.int .i64 v.k, .string (bs v.l), .string (bs v.x), .slice v.A v.n v.c, .string (bs v.e)] 24 (0, 0))) := Lib.hid ((hga.block _ (lt_of_block (hv.off.block HB3.out (by simp)))).trans (hv.off.block HB3.out (by simp)))
      have HXR : Hid (WA.heap[r]? = some (.cells #[.int .i64 0, .string ⟨#[]⟩, .string ⟨#[]⟩, .slice none 0 0, .string ⟨#[]⟩] 24 (0, 0))) := Lib.hid (by rw [hWA, hr]; exact heap_alloc_new _ _)
      have HSA : Hid (SRep (fun b => PK P p kv b ∧ b ≠ r) WA sj b) := Lib.hid ((hv.rep.fence (fun b hb hl => ⟨hb, by omega⟩)).on (hga.on _))
      have HOWN : Hid (∀ k, kv.ownBlock = some k → W1.heap.size ≤ k ∧ k < r) := Lib.hid (fun k hk => by rw [hr]; exact hv.kid.own.lt k hk)
      have HNA : Hid (NRep (fun b => PK P p kv b ∧ b ≠ r) m WA d y) := Lib.hid (NRep.keep (HGA.out.on _) m d y (NRep.fence (fun b hb hl => ⟨⟨Pn.of hb (by omega), fun he => by have h1 := (hv.kid.own.lt b he).1; omega⟩, by omega⟩) HRE0.out))
      have HCA : Hid (NCells WA bk (ok + j * 5) d) := Lib.hid (HCE0.out.keep (P := P) (HGA.out.on _) HPB.out HPK.out)
      obtain ⟨q1, hq1⟩ : ∃ q1, q1 = visR true L y sj := ⟨_, rfl⟩
      have HQ1 := Lib.hid hq1
      have HMY : Hid (markedB y = true) := Lib.hid (markedL_get _ j y HMK.out HY.out)
      have hdr : t.ks.drop j = y :: t.ks.drop (j + 1) := drop_at HY.out
      have hcc := hv.cc
      rw [hdr, countL] at hcc
      have HCN : Hid (sj.names.length ≤ cj ∧ sj.done.length ≤ cj ∧ cj + countF y ≤ 1000000) := Lib.hid ⟨hv.cn, hv.cd, by omega⟩
      have HCC2 : Hid (cj + countF y + countL (t.ks.drop (j + 1)) ≤ 1000000) := Lib.hid (by omega)
      have HWA := Lib.hid hWA
      have HRR := Lib.hid hr
      clear hr hWA hp hp1 hv hszr hga hsza hq1 hdr hcc jl j0 j1 j2 j3 j4
      obtain ⟨VS, hVS⟩ : ∃ VS : List (Nat × Nat × Value), VS = [(0, 110, .agg #[.int .i64 L.d, .int .i64 L.n, .int .i64 L.b, .int .i64 L.a, .int .i64 L.x, .slice b.A1 b.n1 b.c1, .slice b.A2 b.n2 b.c2, .int .i64 sj.u.d, .int .i64 sj.u.n, .int .i64 sj.u.b, .int .i64 sj.u.a, .int .i64 sj.u.x, .int .i64 sj.err]), (1, 111, .pointer (some ⟨p + 1, 3, none⟩)), (2, 112, .slice v.A v.n v.c), (3, 113, .int .i64 (j : Int)), (4, 114, .pointer (some ⟨bk, ok + j * 5, none⟩)), (5, 115, .agg #[.int .i64 d.k, .string (bs d.l), .string (bs d.x), .slice d.A d.n d.c, .string (bs d.e)]), (6, 116, .bool true), (11, 120, .int .i64 q1.2.2), (14, 18, .int .i64 q1.2.2)] := ⟨_, rfl⟩
      obtain ⟨US, hUS⟩ : ∃ US : List (Nat × Value), US = [(2, .bool true), (3, .pointer (some ⟨p, 0, none⟩)), (4, .pointer (some ⟨p + 1, 0, none⟩)), (6, .pointer (some ⟨p + 1 + 1, 0, none⟩)), (7, .pointer (some ⟨p + 1 + 1 + 1, 0, none⟩)), (16, .int .i64 (j : Int)), (17, .pointer (some ⟨r, 0, none⟩))] := ⟨_, rfl⟩
      refine wp_region_frame (by kernel_rfl) (by kernel_rfl) [110, 111, 112, 113, 114, 115, 116, 117, 109, 118, 119, 120, 18] (by simp) (Det VS US (fun B u w' => W27 (fun b => PK P p kv b ∧ b ≠ r) w WA p r L #[.int .i64 L.d, .int .i64 L.n, .int .i64 L.b, .int .i64 L.a, .int .i64 L.x, .slice b.A1 b.n1 b.c1, .slice b.A2 b.n2 b.c2, .int .i64 sj.u.d, .int .i64 sj.u.n, .int .i64 sj.u.b, .int .i64 sj.u.a, .int .i64 sj.u.x, .int .i64 sj.err] q1 B u w')) ?_ ?_ ?_
      · exact Det.start (by rw [hUS]; simp [slot]) (W27.start (HGA.out.drew) (Off.gr ((Gr.refl _).drew)) HX2.out HXR.out)
      · intro B a' w' i o hfr hF ho hBi hdp
        have hi8 := (Array.getElem?_eq_some_iff.1 ho).1
        simp only [List.size_toArray, List.length_cons, List.length_nil] at hi8
        have hor : i = 0 ∨ i = 1 ∨ i = 2 ∨ i = 3 ∨ i = 4 ∨ i = 5 ∨ i = 6 ∨ i = 7 ∨ i = 8 ∨ i = 9 ∨ i = 10 ∨ i = 11 ∨ i = 12 ∨ i = 13 ∨ i = 14 := by omega
        clear hi8
        rcases hor with rfl | rfl | rfl | rfl | rfl | rfl | rfl | rfl | rfl | rfl | rfl | rfl | rfl | rfl | rfl
        all_goals (
          simp only [List.getElem?_toArray, List.getElem?_cons_zero, List.getElem?_cons_succ, Option.some.injEq] at ho
          subst ho
          rw [if_pos (show Region.wanted _ _ = true from rfl)]
          refine wp_hideK ?_
          intro K hK)
        · have hFW := hF.wd
          have o3 := slot_spell (hF.had (d := 3) (v := .pointer (some ⟨p, 0, none⟩)) (by rw [hUS]; simp))
          have h12 : B 12 = false := by
            cases hx : B 12 with
            | false => rfl
            | true => exact absurd (hFW.dep 12 (by simp) hx) (by rw [hBi]; decide)
          have hb := hFW.z12 h12
          have k0 := cell_of_cells hb 0
          have k1 := cell_of_cells hb 1
          have k2 := cell_of_cells hb 2
          have k3 := cell_of_cells hb 3
          have k4 := cell_of_cells hb 4
          have k5 := cell_of_cells hb 5
          have k6 := cell_of_cells hb 6
          have k7 := cell_of_cells hb 7
          have k8 := cell_of_cells hb 8
          have k9 := cell_of_cells hb 9
          have k10 := cell_of_cells hb 10
          have k11 := cell_of_cells hb 11
          have k12 := cell_of_cells hb 12
          have kl := lt_of_block hb
          go_simp
          exact hK.out _ _ (close_put hfr (d := 110) (by decide) (by simp) _ (F := fun u => Det VS US (fun B u w' => W27 (fun b => PK P p kv b ∧ b ≠ r) w WA p r L #[.int .i64 L.d, .int .i64 L.n, .int .i64 L.b, .int .i64 L.a, .int .i64 L.x, .slice b.A1 b.n1 b.c1, .slice b.A2 b.n2 b.c2, .int .i64 sj.u.d, .int .i64 sj.u.n, .int .i64 sj.u.b, .int .i64 sj.u.a, .int .i64 sj.u.x, .int .i64 sj.err] q1 B u w') (upB B 0) u _) (hF.step (by rw [hVS]; simp) (by rw [hUS]; simp) (hFW.other (by decide) (by decide))))
        · have hFW := hF.wd
          have o4 := slot_spell (hF.had (d := 4) (v := .pointer (some ⟨p + 1, 0, none⟩)) (by rw [hUS]; simp))
          have hb := hFW.off.block HX3.out (by have := HRZ.out; simp; omega)
          have k0 := cell_of_cells hb 0
          have k1 := cell_of_cells hb 1
          have k2 := cell_of_cells hb 2
          have k3 := cell_of_cells hb 3
          have k4 := cell_of_cells hb 4
          have kl := lt_of_block hb
          go_simp
          exact hK.out _ _ (close_put hfr (d := 111) (by decide) (by simp) _ (F := fun u => Det VS US (fun B u w' => W27 (fun b => PK P p kv b ∧ b ≠ r) w WA p r L #[.int .i64 L.d, .int .i64 L.n, .int .i64 L.b, .int .i64 L.a, .int .i64 L.x, .slice b.A1 b.n1 b.c1, .slice b.A2 b.n2 b.c2, .int .i64 sj.u.d, .int .i64 sj.u.n, .int .i64 sj.u.b, .int .i64 sj.u.a, .int .i64 sj.u.x, .int .i64 sj.err] q1 B u w') (upB B 1) u _) (hF.step (by rw [hVS]; simp) (by rw [hUS]; simp) (hFW.other (by decide) (by decide))))
        · have hFW := hF.wd
          have hB1 : B 1 = true := hdp ⟨1, .data⟩ (by simp) (by rfl)
          have e1 := slot_spell (hF.get (i := 1) (d := 111) (v := .pointer (some ⟨p + 1, 3, none⟩)) (by rw [hVS]; simp) hB1)
          have hb := hFW.off.block HX3.out (by have := HRZ.out; simp; omega)
          have k0 := cell_of_cells hb 0
          have k1 := cell_of_cells hb 1
          have k2 := cell_of_cells hb 2
          have k3 := cell_of_cells hb 3
          have k4 := cell_of_cells hb 4
          have kl := lt_of_block hb
          go_simp
          exact hK.out _ _ (close_put hfr (d := 112) (by decide) (by simp) _ (F := fun u => Det VS US (fun B u w' => W27 (fun b => PK P p kv b ∧ b ≠ r) w WA p r L #[.int .i64 L.d, .int .i64 L.n, .int .i64 L.b, .int .i64 L.a, .int .i64 L.x, .slice b.A1 b.n1 b.c1, .slice b.A2 b.n2 b.c2, .int .i64 sj.u.d, .int .i64 sj.u.n, .int .i64 sj.u.b, .int .i64 sj.u.a, .int .i64 sj.u.x, .int .i64 sj.err] q1 B u w') (upB B 2) u _) (hF.step (by rw [hVS]; simp) (by rw [hUS]; simp) (hFW.other (by decide) (by decide))))
        · have hFW := hF.wd
          have o16 := slot_spell (hF.had (d := 16) (v := .int .i64 (j : Int)) (by rw [hUS]; simp))
          go_simp
          exact hK.out _ _ (close_put hfr (d := 113) (by decide) (by simp) _ (F := fun u => Det VS US (fun B u w' => W27 (fun b => PK P p kv b ∧ b ≠ r) w WA p r L #[.int .i64 L.d, .int .i64 L.n, .int .i64 L.b, .int .i64 L.a, .int .i64 L.x, .slice b.A1 b.n1 b.c1, .slice b.A2 b.n2 b.c2, .int .i64 sj.u.d, .int .i64 sj.u.n, .int .i64 sj.u.b, .int .i64 sj.u.a, .int .i64 sj.u.x, .int .i64 sj.err] q1 B u w') (upB B 3) u _) (hF.step (by rw [hVS]; simp) (by rw [hUS]; simp) (hFW.other (by decide) (by decide))))
        · have hFW := hF.wd
          have hB2 : B 2 = true := hdp ⟨2, .data⟩ (by simp) (by rfl)
          have e2 := slot_spell (hF.get (i := 2) (d := 112) (v := .slice v.A v.n v.c) (by rw [hVS]; simp) hB2)
          have hB3 : B 3 = true := hdp ⟨3, .data⟩ (by simp) (by rfl)
          have e3 := slot_spell (hF.get (i := 3) (d := 113) (v := .int .i64 (j : Int)) (by rw [hVS]; simp) hB3)
          rw [HA.out] at e2
          go_simp
          exact hK.out _ _ (close_put hfr (d := 114) (by decide) (by simp) _ (F := fun u => Det VS US (fun B u w' => W27 (fun b => PK P p kv b ∧ b ≠ r) w WA p r L #[.int .i64 L.d, .int .i64 L.n, .int .i64 L.b, .int .i64 L.a, .int .i64 L.x, .slice b.A1 b.n1 b.c1, .slice b.A2 b.n2 b.c2, .int .i64 sj.u.d, .int .i64 sj.u.n, .int .i64 sj.u.b, .int .i64 sj.u.a, .int .i64 sj.u.x, .int .i64 sj.err] q1 B u w') (upB B 4) u _) (hF.step (by rw [hVS]; simp) (by rw [hUS]; simp) (hFW.other (by decide) (by decide))))
        · have hFW := hF.wd
          have hB4 : B 4 = true := hdp ⟨4, .data⟩ (by simp) (by rfl)
          have e4 := slot_spell (hF.get (i := 4) (d := 114) (v := .pointer (some ⟨bk, ok + j * 5, none⟩)) (by rw [hVS]; simp) hB4)
          obtain ⟨x0, x1, x2, x3, x4⟩ := HCA.out.keep (P := fun b => b = bk) (hFW.off.on (fun b hb => by have h1 := HPK.out; have h2 := HRZ.out; have h3 := HP.out; have h4 := Below.size HGR.out; rw [show b = bk from hb]; simp; omega)) rfl (by have h1 := HPK.out; have h2 := HRZ.out; have h4 := Below.size HGR.out; omega)
          have xl : bk < w'.heap.size := by have h1 := HPK.out; have h3 := Below.size hFW.gr; omega
          go_simp
          exact hK.out _ _ (close_put hfr (d := 115) (by decide) (by simp) _ (F := fun u => Det VS US (fun B u w' => W27 (fun b => PK P p kv b ∧ b ≠ r) w WA p r L #[.int .i64 L.d, .int .i64 L.n, .int .i64 L.b, .int .i64 L.a, .int .i64 L.x, .slice b.A1 b.n1 b.c1, .slice b.A2 b.n2 b.c2, .int .i64 sj.u.d, .int .i64 sj.u.n, .int .i64 sj.u.b, .int .i64 sj.u.a, .int .i64 sj.u.x, .int .i64 sj.err] q1 B u w') (upB B 5) u _) (hF.step (by rw [hVS]; simp) (by rw [hUS]; simp) (hFW.other (by decide) (by decide))))
        · have hFW := hF.wd
          have o2 := slot_spell (hF.had (d := 2) (v := .bool true) (by rw [hUS]; simp))
          go_simp
          exact hK.out _ _ (close_put hfr (d := 116) (by decide) (by simp) _ (F := fun u => Det VS US (fun B u w' => W27 (fun b => PK P p kv b ∧ b ≠ r) w WA p r L #[.int .i64 L.d, .int .i64 L.n, .int .i64 L.b, .int .i64 L.a, .int .i64 L.x, .slice b.A1 b.n1 b.c1, .slice b.A2 b.n2 b.c2, .int .i64 sj.u.d, .int .i64 sj.u.n, .int .i64 sj.u.b, .int .i64 sj.u.a, .int .i64 sj.u.x, .int .i64 sj.err] q1 B u w') (upB B 6) u _) (hF.step (by rw [hVS]; simp) (by rw [hUS]; simp) (hFW.other (by decide) (by decide))))
        · have hFW := hF.wd
          have hB0 : B 0 = true := hdp ⟨0, .data⟩ (by simp) (by rfl)
          have e0 := slot_spell (hF.get (i := 0) (d := 110) (v := .agg #[.int .i64 L.d, .int .i64 L.n, .int .i64 L.b, .int .i64 L.a, .int .i64 L.x, .slice b.A1 b.n1 b.c1, .slice b.A2 b.n2 b.c2, .int .i64 sj.u.d, .int .i64 sj.u.n, .int .i64 sj.u.b, .int .i64 sj.u.a, .int .i64 sj.u.x, .int .i64 sj.err]) (by rw [hVS]; simp) hB0)
          have hB5 : B 5 = true := hdp ⟨5, .data⟩ (by simp) (by rfl)
          have e5 := slot_spell (hF.get (i := 5) (d := 115) (v := .agg #[.int .i64 d.k, .string (bs d.l), .string (bs d.x), .slice d.A d.n d.c, .string (bs d.e)]) (by rw [hVS]; simp) hB5)
          have hB6 : B 6 = true := hdp ⟨6, .data⟩ (by simp) (by rfl)
          have e6 := slot_spell (hF.get (i := 6) (d := 116) (v := .bool true) (by rw [hVS]; simp) hB6)
          have hcl : Calls Try.prog 35 #[.agg #[.int .i64 L.d, .int .i64 L.n, .int .i64 L.b, .int .i64 L.a, .int .i64 L.x, .slice b.A1 b.n1 b.c1, .slice b.A2 b.n2 b.c2, .int .i64 sj.u.d, .int .i64 sj.u.n, .int .i64 sj.u.b, .int .i64 sj.u.a, .int .i64 sj.u.x, .int .i64 sj.err], .agg #[.int .i64 d.k, .string (bs d.l), .string (bs d.x), .slice d.A d.n d.c, .string (bs d.e)], .bool true] w' (fun e w'' => ∃ x' y', e = .returned (.tuple #[.agg #[.int .i64 L.d, .int .i64 L.n, .int .i64 L.b, .int .i64 L.a, .int .i64 L.x, .slice x'.A1 x'.n1 x'.c1, .slice x'.A2 x'.n2 x'.c2, .int .i64 q1.1.u.d, .int .i64 q1.1.u.n, .int .i64 q1.1.u.b, .int .i64 q1.1.u.a, .int .i64 q1.1.u.x, .int .i64 q1.1.err], .agg #[.int .i64 y'.k, .string (bs y'.l), .string (bs y'.x), .slice y'.A y'.n y'.c, .string (bs y'.e)], .int .i64 q1.2.2]) ∧ SRep (fun b => PK P p kv b ∧ b ≠ r) w'' q1.1 x' ∧ NR (fun b => PK P p kv b ∧ b ≠ r) w'' y' q1.2.1 ∧ Gr w' w'') := by
            have hrz := HRZ.out
            have hgl := Below.size hFW.gr
            have hal := hFW.off.1
            have h := HI.out d y sj b cj w' (fun b => PK P p kv b ∧ b ≠ r) (fun b hb => ⟨⟨⟨HPP.out b (by omega), by simp; omega⟩, fun he => by have h1 := (HOWN.out b he).2; omega⟩, by omega⟩)
              (NRep.keep (hFW.off.on (fun b hb => by have h1 := hb.1.1.2; have h2 := hb.2; simp at h1 ⊢; omega)) m d y HNA.out)
              (HSA.out.on (hFW.off.on (fun b hb => by have h1 := hb.1.1.2; have h2 := hb.2; simp at h1 ⊢; omega))) HMY.out HCN.out.1 HCN.out.2.1 HCN.out.2.2
            rw [← HQ1.out] at h
            exact h
          have HCL := Lib.hid hcl
          clear hcl
          have HB0 := Lib.hid hB0
          have HFF := Lib.hid hF
          have HFR := Lib.hid hfr
          have HFG := Lib.hid hFW
          have HBI := Lib.hid hBi
          clear hF hfr hFW hdp hBi
          go_simp
          refine HCL.out.mono ?_
          rintro e w2 ⟨x', y', rfl, qs, qn, hb2⟩
          have hF := HFF.out
          have hfr := HFR.out
          have hFW := HFG.out
          have hBi := HBI.out
          exact hK.out _ _ (close_put hfr (d := 117) (by decide) (by simp) _ (F := fun u => Det VS US (fun B u w' => W27 (fun b => PK P p kv b ∧ b ≠ r) w WA p r L #[.int .i64 L.d, .int .i64 L.n, .int .i64 L.b, .int .i64 L.a, .int .i64 L.x, .slice b.A1 b.n1 b.c1, .slice b.A2 b.n2 b.c2, .int .i64 sj.u.d, .int .i64 sj.u.n, .int .i64 sj.u.b, .int .i64 sj.u.a, .int .i64 sj.u.x, .int .i64 sj.err] q1 B u w') (upB B 7) u _) (hF.step (by rw [hVS]; simp) (by rw [hUS]; simp) (hFW.step hb2 (by decide) (fun _ => HB0.out) hFW.lt.1 hFW.lt.2 (.inl ⟨rfl, rfl, x', y', rfl, qs, qn⟩) (.inr (by decide)) (.inr (by decide)) (.inr (by decide)))))
        · have hFW := hF.wd
          have hB7 : B 7 = true := hdp ⟨7, .data⟩ (by simp) (by rfl)
          obtain ⟨x', y', t1e, qs, qn⟩ := hFW.c7 hB7
          have t1 := slot_spell t1e
          go_simp
          exact hK.out _ _ (close_put hfr (d := 109) (by decide) (by simp) _ (F := fun u => Det VS US (fun B u w' => W27 (fun b => PK P p kv b ∧ b ≠ r) w WA p r L #[.int .i64 L.d, .int .i64 L.n, .int .i64 L.b, .int .i64 L.a, .int .i64 L.x, .slice b.A1 b.n1 b.c1, .slice b.A2 b.n2 b.c2, .int .i64 sj.u.d, .int .i64 sj.u.n, .int .i64 sj.u.b, .int .i64 sj.u.a, .int .i64 sj.u.x, .int .i64 sj.err] q1 B u w') (upB B 8) u _) (hF.step (by rw [hVS]; simp) (by rw [hUS]; simp) (hFW.step (Gr.refl _) (by decide) (fun _ => hFW.dep 7 (by simp) hB7) hFW.lt.1 hFW.lt.2 (.inr (by decide)) (.inl ⟨rfl, rfl, x', y', rfl, qs, qn⟩) (.inr (by decide)) (.inr (by decide)))))
        · have hFW := hF.wd
          have hB8 : B 8 = true := hdp ⟨8, .data⟩ (by simp) (by rfl)
          obtain ⟨x', y', t1e, qs, qn⟩ := hFW.c8 hB8
          have t1 := slot_spell t1e
          go_simp
          exact hK.out _ _ (close_put hfr (d := 118) (by decide) (by simp) _ (F := fun u => Det VS US (fun B u w' => W27 (fun b => PK P p kv b ∧ b ≠ r) w WA p r L #[.int .i64 L.d, .int .i64 L.n, .int .i64 L.b, .int .i64 L.a, .int .i64 L.x, .slice b.A1 b.n1 b.c1, .slice b.A2 b.n2 b.c2, .int .i64 sj.u.d, .int .i64 sj.u.n, .int .i64 sj.u.b, .int .i64 sj.u.a, .int .i64 sj.u.x, .int .i64 sj.err] q1 B u w') (upB B 9) u _) (hF.step (by rw [hVS]; simp) (by rw [hUS]; simp) (hFW.step (Gr.refl _) (by decide) (fun _ => hFW.dep 8 (by simp) hB8) hFW.lt.1 hFW.lt.2 (.inr (by decide)) (.inr (by decide)) (.inl ⟨rfl, rfl, x', rfl, qs⟩) (.inr (by decide)))))
        · have hFW := hF.wd
          have hB8 : B 8 = true := hdp ⟨8, .data⟩ (by simp) (by rfl)
          obtain ⟨x', y', t1e, qs, qn⟩ := hFW.c8 hB8
          have t1 := slot_spell t1e
          go_simp
          exact hK.out _ _ (close_put hfr (d := 119) (by decide) (by simp) _ (F := fun u => Det VS US (fun B u w' => W27 (fun b => PK P p kv b ∧ b ≠ r) w WA p r L #[.int .i64 L.d, .int .i64 L.n, .int .i64 L.b, .int .i64 L.a, .int .i64 L.x, .slice b.A1 b.n1 b.c1, .slice b.A2 b.n2 b.c2, .int .i64 sj.u.d, .int .i64 sj.u.n, .int .i64 sj.u.b, .int .i64 sj.u.a, .int .i64 sj.u.x, .int .i64 sj.err] q1 B u w') (upB B 10) u _) (hF.step (by rw [hVS]; simp) (by rw [hUS]; simp) (hFW.step (Gr.refl _) (by decide) (fun h => absurd h (by decide)) hFW.lt.1 hFW.lt.2 (.inr (by decide)) (.inr (by decide)) (.inr (by decide)) (.inl ⟨rfl, rfl, y', rfl, qn⟩))))
        · have hFW := hF.wd
          have hB8 : B 8 = true := hdp ⟨8, .data⟩ (by simp) (by rfl)
          obtain ⟨x', y', t1e, qs, qn⟩ := hFW.c8 hB8
          have t1 := slot_spell t1e
          go_simp
          exact hK.out _ _ (close_put hfr (d := 120) (by decide) (by simp) _ (F := fun u => Det VS US (fun B u w' => W27 (fun b => PK P p kv b ∧ b ≠ r) w WA p r L #[.int .i64 L.d, .int .i64 L.n, .int .i64 L.b, .int .i64 L.a, .int .i64 L.x, .slice b.A1 b.n1 b.c1, .slice b.A2 b.n2 b.c2, .int .i64 sj.u.d, .int .i64 sj.u.n, .int .i64 sj.u.b, .int .i64 sj.u.a, .int .i64 sj.u.x, .int .i64 sj.err] q1 B u w') (upB B 11) u _) (hF.step (by rw [hVS]; simp) (by rw [hUS]; simp) (hFW.other (by decide) (by decide))))
        · have hFW := hF.wd
          have hB9 : B 9 = true := hdp ⟨9, .data⟩ (by simp) (by rfl)
          have o3 := slot_spell (hF.had (d := 3) (v := .pointer (some ⟨p, 0, none⟩)) (by rw [hUS]; simp))
          have hz := hFW.z12 hBi
          obtain ⟨x', t1e, qs⟩ := hFW.c9 hB9
          have t1 := slot_spell t1e
          have hrz := HRZ.out
          have y0 := cell_of_cells hz 0
          have yf0 := free_of_cells hz 0
          have y1 := cell_of_cells hz 1
          have yf1 := free_of_cells hz 1
          have y2 := cell_of_cells hz 2
          have yf2 := free_of_cells hz 2
          have y3 := cell_of_cells hz 3
          have yf3 := free_of_cells hz 3
          have y4 := cell_of_cells hz 4
          have yf4 := free_of_cells hz 4
          have y5 := cell_of_cells hz 5
          have yf5 := free_of_cells hz 5
          have y6 := cell_of_cells hz 6
          have yf6 := free_of_cells hz 6
          have y7 := cell_of_cells hz 7
          have yf7 := free_of_cells hz 7
          have y8 := cell_of_cells hz 8
          have yf8 := free_of_cells hz 8
          have y9 := cell_of_cells hz 9
          have yf9 := free_of_cells hz 9
          have y10 := cell_of_cells hz 10
          have yf10 := free_of_cells hz 10
          have y11 := cell_of_cells hz 11
          have yf11 := free_of_cells hz 11
          have y12 := cell_of_cells hz 12
          have yf12 := free_of_cells hz 12
          have yl := lt_of_block hz
          go_simp
          exact hK.out _ _ (close_none hfr undef (F := fun u => Det VS US (fun B u w' => W27 (fun b => PK P p kv b ∧ b ≠ r) w WA p r L #[.int .i64 L.d, .int .i64 L.n, .int .i64 L.b, .int .i64 L.a, .int .i64 L.x, .slice b.A1 b.n1 b.c1, .slice b.A2 b.n2 b.c2, .int .i64 sj.u.d, .int .i64 sj.u.n, .int .i64 sj.u.b, .int .i64 sj.u.a, .int .i64 sj.u.x, .int .i64 sj.err] q1 B u w') (upB B 12) u _) (hF.none (by rw [hVS]; simp) (hFW.st12 hBi (by omega) (by omega) (fun k hk => by have h1 := hk.1.1.2; simp at h1; omega) rfl (hFW.dep 9 (by simp) hB9) qs)))
        · have hFW := hF.wd
          have hB10 : B 10 = true := hdp ⟨10, .data⟩ (by simp) (by rfl)
          have o17 := slot_spell (hF.had (d := 17) (v := .pointer (some ⟨r, 0, none⟩)) (by rw [hUS]; simp))
          have hz := hFW.z13 hBi
          obtain ⟨y', t1e, qn⟩ := hFW.c10 hB10
          have t1 := slot_spell t1e
          have hrz := HRZ.out
          have y0 := cell_of_cells hz 0
          have yf0 := free_of_cells hz 0
          have y1 := cell_of_cells hz 1
          have yf1 := free_of_cells hz 1
          have y2 := cell_of_cells hz 2
          have yf2 := free_of_cells hz 2
          have y3 := cell_of_cells hz 3
          have yf3 := free_of_cells hz 3
          have y4 := cell_of_cells hz 4
          have yf4 := free_of_cells hz 4
          have yl := lt_of_block hz
          go_simp
          exact hK.out _ _ (close_none hfr undef (F := fun u => Det VS US (fun B u w' => W27 (fun b => PK P p kv b ∧ b ≠ r) w WA p r L #[.int .i64 L.d, .int .i64 L.n, .int .i64 L.b, .int .i64 L.a, .int .i64 L.x, .slice b.A1 b.n1 b.c1, .slice b.A2 b.n2 b.c2, .int .i64 sj.u.d, .int .i64 sj.u.n, .int .i64 sj.u.b, .int .i64 sj.u.a, .int .i64 sj.u.x, .int .i64 sj.err] q1 B u w') (upB B 13) u _) (hF.none (by rw [hVS]; simp) (hFW.st13 hBi (by omega) (by omega) (fun k hk => hk.2) qn)))
        · have hFW := hF.wd
          have hB11 : B 11 = true := hdp ⟨11, .data⟩ (by simp) (by rfl)
          have e11 := slot_spell (hF.get (i := 11) (d := 120) (v := .int .i64 q1.2.2) (by rw [hVS]; simp) hB11)
          go_simp
          exact hK.out _ _ (close_put hfr (d := 18) (by decide) (by simp) _ (F := fun u => Det VS US (fun B u w' => W27 (fun b => PK P p kv b ∧ b ≠ r) w WA p r L #[.int .i64 L.d, .int .i64 L.n, .int .i64 L.b, .int .i64 L.a, .int .i64 L.x, .slice b.A1 b.n1 b.c1, .slice b.A2 b.n2 b.c2, .int .i64 sj.u.d, .int .i64 sj.u.n, .int .i64 sj.u.b, .int .i64 sj.u.a, .int .i64 sj.u.x, .int .i64 sj.err] q1 B u w') (upB B 14) u _) (hF.step (by rw [hVS]; simp) (by rw [hUS]; simp) (hFW.other (by decide) (by decide))))
      · intro B u w' hall hF
        have z0 := hF.get (i := 0) (d := 110) (v := .agg #[.int .i64 L.d, .int .i64 L.n, .int .i64 L.b, .int .i64 L.a, .int .i64 L.x, .slice b.A1 b.n1 b.c1, .slice b.A2 b.n2 b.c2, .int .i64 sj.u.d, .int .i64 sj.u.n, .int .i64 sj.u.b, .int .i64 sj.u.a, .int .i64 sj.u.x, .int .i64 sj.err]) (by rw [hVS]; simp) (hall 0 (by simp))
        have z1 := hF.get (i := 1) (d := 111) (v := .pointer (some ⟨p + 1, 3, none⟩)) (by rw [hVS]; simp) (hall 1 (by simp))
        have z2 := hF.get (i := 2) (d := 112) (v := .slice v.A v.n v.c) (by rw [hVS]; simp) (hall 2 (by simp))
        have z3 := hF.get (i := 3) (d := 113) (v := .int .i64 (j : Int)) (by rw [hVS]; simp) (hall 3 (by simp))
        have z4 := hF.get (i := 4) (d := 114) (v := .pointer (some ⟨bk, ok + j * 5, none⟩)) (by rw [hVS]; simp) (hall 4 (by simp))
        have z5 := hF.get (i := 5) (d := 115) (v := .agg #[.int .i64 d.k, .string (bs d.l), .string (bs d.x), .slice d.A d.n d.c, .string (bs d.e)]) (by rw [hVS]; simp) (hall 5 (by simp))
        have z6 := hF.get (i := 6) (d := 116) (v := .bool true) (by rw [hVS]; simp) (hall 6 (by simp))
        have z11 := hF.get (i := 11) (d := 120) (v := .int .i64 q1.2.2) (by rw [hVS]; simp) (hall 11 (by simp))
        have z14 := hF.get (i := 14) (d := 18) (v := .int .i64 q1.2.2) (by rw [hVS]; simp) (hall 14 (by simp))
        have hFW := hF.wd
        clear hF hVS hUS
        simp only [List.foldl_cons, List.foldl_nil, Act.put, List.setIfInBounds_toArray, List.set_cons_zero, List.set_cons_succ, z0, z1, z2, z3, z4, z5, z6, z11, z14]
        clear z0 z1 z2 z3 z4 z5 z6 z11 z14
        obtain ⟨a', hc1, hs1⟩ := hFW.c12 (hall 12 (by simp))
        obtain ⟨v', hc2, hn1⟩ := hFW.c13 (hall 13 (by simp))
        have hofw := hFW.off
        have hgrw := hFW.gr
        clear hFW hall
        obtain ⟨WB, hWB⟩ : ∃ WB, WB = w' := ⟨_, rfl⟩
        subst hWB
        have hof2 : Off [p] wr WB := off_new (S := [p]) (by rw [← HWA.out, ← HRR.out]; exact hofw)
        have hlen := visR_len true L y sj
        rw [← HQ1.out] at hlen
        have hres := HV.out.res
        rw [visRL_consG L HY.out, ← HQ1.out] at hres
        have hkp : ∀ b ∈ [p], b < W1.heap.size := fun b hb => by
          rw [List.mem_singleton] at hb
          have := lt_of_block HB5.out
          omega
        have hk1 := HV.out.kid.off hof2 hkp (fun b hb hm => by
          rw [List.mem_singleton] at hm
          exact hb.1.2 (by simp [hm]))
        have hlt2 : kd.length ≤ 1000000 := by
          have h1 := HV.out.ln
          omega
        have hszB : W1.heap.size ≤ WB.heap.size := Nat.le_trans HV.out.off.1 hof2.1
        have HKB := Lib.hid hk1
        have HOB : Hid ((WB.alloc (.cells #[.int .i64 v'.k, .string (bs v'.l), .string (bs v'.x), .slice v'.A v'.n v'.c, .string (bs v'.e)] 24)).ownsRow W1.heap.size 24 5 kv (0 + kd.length) (ds.flatMap ND.cells)) := Lib.hid (own_same hk1.own (fun k hk => heapOldR (hk1.own.lt k hk).2))
        have HSN : Hid (SrcAt (WB.alloc (.cells #[.int .i64 v'.k, .string (bs v'.l), .string (bs v'.x), .slice v'.A v'.n v'.c, .string (bs v'.e)] 24)) (some ⟨WB.heap.size, 0, none⟩) 1 5 v'.cells) := Lib.hid (src_fresh (cs := v'.cells) (heap_alloc_new WB _) rfl (by simp [ND.cells, Value.oneCell']))
        have HSB := Lib.hid hs1
        have HNB := Lib.hid hn1
        have HC1 := Lib.hid hc1
        have HOF := Lib.hid hof2
        have HGB := Lib.hid hgrw
        have HLEN := Lib.hid hlen
        have HRES1 := Lib.hid hres
        have x0 := cell_of_cells hc2 0
        have x1 := cell_of_cells hc2 1
        have x2 := cell_of_cells hc2 2
        have x3 := cell_of_cells hc2 3
        have x4 := cell_of_cells hc2 4
        have xl := lt_of_block hc2
        obtain ⟨i1, hy, hy0, hy1, hy2⟩ := info_parts infoNodeR
        clear hc1 hc2 hs1 hn1 hofw hgrw hof2 hlen hres hk1 hkp
        go_wp2_with (at_builtin; refine wpList_app2 rfl (.tmp 125) (.tmp 127) 22 rfl W1.heap.size 24 i1 _ 5 80 Try.underlying22 hy hy0 hy1 hy2 rfl (by decide) kv (0 + kd.length) (ds.flatMap ND.cells) rfl HOB.out (some ⟨WB.heap.size, 0, none⟩) 1 1 v'.cells rfl HSN.out (by unfold maxLen; omega) (by omega) (by simp; omega) ?_; intro v7 w7 hown7 hgrow7 hat7; (have HO7 := Lib.hid hown7); (have HG7 := Lib.hid hgrow7); (have HA7 := Lib.hid hat7); clear hown7 hgrow7 hat7)
        have hga : Gr WB (WB.alloc (.cells #[.int .i64 v'.k, .string (bs v'.l), .string (bs v'.x), .slice v'.A v'.n v'.c, .string (bs v'.e)] 24)) := (Gr.refl _).alloc _
        have hon7 : SameOn (fun b => PK P p kv b ∧ b ≠ r) WB w7 := ⟨Nat.le_trans (Below.size hga) HG7.out.size, fun b o hb hl => by
          have h1 : w7.heap[b]? = (WB.alloc (.cells #[.int .i64 v'.k, .string (bs v'.l), .string (bs v'.x), .slice v'.A v'.n v'.c, .string (bs v'.e)] 24)).heap[b]? := HG7.out.block b (Gr.lt hga hl) (fun he => hb.1.2 he.symm)
          simp only [World.cell?, h1, heapOldR hl]⟩
        have hfen : ∀ b, (fun b => PK P p kv b ∧ b ≠ r) b → b < WB.heap.size → PK P p v7 b := fun b hb hl => ⟨hb.1.1, fun he => by
          rcases HA7.out with h | h
          · exact hb.1.2 (by rw [← h]; exact he)
          · rw [h] at he
            simp at he
            omega⟩
        have hgw7 : Gr w w7 := Gr.grownOwnR (HGB.out.trans hga) HG7.out (fun k hk => by have h1 := (HOWN.out k hk).1; have h2 := Below.size HG1.out; omega)
        have hof7 : Off [p] W1 w7 := ⟨Nat.le_trans hszB (Nat.le_trans (Below.size hga) HG7.out.size), fun b hb hn => by
          have h1 : w7.heap[b]? = (WB.alloc (.cells #[.int .i64 v'.k, .string (bs v'.l), .string (bs v'.x), .slice v'.A v'.n v'.c, .string (bs v'.e)] 24)).heap[b]? := HG7.out.block b (Gr.lt hga (Nat.lt_of_lt_of_le hb hszB)) (fun he => by have h2 := (HOWN.out b he.symm).1; omega)
          rw [h1, heapOldR (Nat.lt_of_lt_of_le hb hszB)]
          exact (HV.out.off.trans HOF.out).2 b hb hn⟩
        have hbx7 : w7.heap[p]? = WB.heap[p]? := by
          have hpl := lt_of_block HC1.out
          rw [HG7.out.block p (Gr.lt hga hpl) (fun he => by have h1 := (HOWN.out p he.symm).1; have h2 := lt_of_block HB5.out; omega), heapOldR hpl]
        have hkidQ : KidR (fun b => PK P p kv b ∧ b ≠ r) W1.heap.size WB kv kd ds := ⟨HKB.out.len, HKB.out.own, fun i e he => by
          obtain ⟨t', q1, q2⟩ := HV.out.kid.rep i e he
          exact ⟨t', q1, (q2.fence (fun b hb hl => ⟨hb, by rw [HRR.out]; omega⟩)).on (HOF.out.on (fun b hb hm => by
            rw [List.mem_singleton] at hm
            exact hb.1.1.2 (by simp [hm])))⟩⟩
        have hon8 : SameOn (fun b => (fun b => PK P p kv b ∧ b ≠ r) b ∧ PK P p v7 b) WB w7 := ⟨hon7.1, fun b o hb hl => hon7.2 b o hb.1 hl⟩
        have hrep7 : SRep (PK P p v7) w7 q1.1 a' := ((HSB.out.fence (Q := fun b => (fun b => PK P p kv b ∧ b ≠ r) b ∧ PK P p v7 b) (fun b hb hl => ⟨hb, hfen b hb hl⟩)).on hon8).fence (fun b hb _ => hb.2)
        have hkid8 : KidR (PK P p v7) W1.heap.size w7 v7 (kd ++ [q1.2.1]) (ds ++ [v']) := by
          have h9 : KidR (fun b => (fun b => PK P p kv b ∧ b ≠ r) b ∧ PK P p v7 b) W1.heap.size WB kv kd ds := ⟨hkidQ.len, hkidQ.own, fun i e he => by
            obtain ⟨t', q1, q2⟩ := hkidQ.rep i e he
            exact ⟨t', q1, q2.fence (fun b hb hl => ⟨hb, hfen b hb hl⟩)⟩⟩
          have h10 := h9.app HO7.out hon8 (HNB.out.fence (fun b hb hl => ⟨hb, hfen b hb hl⟩))
          exact ⟨h10.len, h10.own, fun i e he => by
            obtain ⟨t', q1, q2⟩ := h10.rep i e he
            exact ⟨t', q1, q2.fence (fun b hb _ => hb.2)⟩⟩
        have HV2 : Hid (VLG P L w W1 p v.n t.ks R (j + 1) (cj + countF y) q1.1 a' (wrap64 (acc + q1.2.2)) v7 (kd ++ [q1.2.1]) (ds ++ [v']) w7) := Lib.hid
          ⟨hgw7, hof7, hbx7.trans HC1.out, hrep7, by have := HCN.out; have := HLEN.out; omega, by have := HCN.out; have := HLEN.out; omega, HCC2.out, hkid8, by simp; exact HV.out.ln, by rw [← HRES1.out]; simp⟩
        exact ⟨⟨j + 1, cj + countF y, q1.1, a', _, kd ++ [q1.2.1], ds ++ [v'], _, by omega, by go_num, rfl, rfl, HV2.out⟩, by simp [intOf] <;> omega⟩
    · have hje : j = v.n := by omega
      obtain ⟨KA, KC, hkv, _⟩ := RowP.own (P := fun _ => True) HV.out.kid.own (fun _ _ => trivial)
      rw [Nat.zero_add] at hkv
      subst hkv
      have hres := HV.out.res
      have hdn : t.ks.drop j = [] := List.drop_of_length_le (by rw [← HNK.out]; omega)
      rw [hdn, visRL] at hres
      simp only [List.append_nil] at hres
      have HRES := Lib.hid hres
      have hb2 := HV.out.box
      have hb3 := HV.out.off.block HB3.out (by simp)
      have j0 := cell_of_cells hb3 0
      have jf0 := free_of_cells hb3 0
      have j1 := cell_of_cells hb3 1
      have jf1 := free_of_cells hb3 1
      have j2 := cell_of_cells hb3 2
      have jf2 := free_of_cells hb3 2
      have j3 := cell_of_cells hb3 3
      have jf3 := free_of_cells hb3 3
      have j4 := cell_of_cells hb3 4
      have jf4 := free_of_cells hb3 4
      have jl := lt_of_block hb3
      have HBK2 := Lib.hid hb2
      have HBK3 := Lib.hid hb3
      clear hje hres hdn hb2 hb3
      go_wp2_with fail
      have hp := HP.out
      have hof := HV.out.off
      obtain ⟨W0, hW0⟩ : ∃ W0, W0 = (wr.setCell ⟨p + 1, 3, none⟩ (.slice KA kd.length KC)) := ⟨_, rfl⟩
      try rw [← hW0]
      have HX2 : Hid (W0.heap[p]? = some (.cells #[.int .i64 L.d, .int .i64 L.n, .int .i64 L.b, .int .i64 L.a, .int .i64 L.x, .slice b.A1 b.n1 b.c1, .slice b.A2 b.n2 b.c2, .int .i64 sj.u.d, .int .i64 sj.u.n, .int .i64 sj.u.b, .int .i64 sj.u.a, .int .i64 sj.u.x, .int .i64 sj.err] 68 (0, 0))) := Lib.hid (by rw [hW0, heap_set_other (by simp)]; exact HBK2.out)
      have HX3 : Hid (W0.heap[p + 1]? = some (.cells #[.int .i64 v.k, .string (bs v.l), .string (bs v.x), .slice KA kd.length KC, .string (bs v.e)] 24 (0, 0))) := Lib.hid (by rw [hW0]; exact cells_set HBK3.out _)
      have HZ6 : Hid (W0.heap[p + 1 + 1]? = some (.cells #[.int .i64 0, .int .i64 0, .int .i64 0, .int .i64 0, .int .i64 0, .slice none 0 0, .slice none 0 0, .int .i64 0, .int .i64 0, .int .i64 0, .int .i64 0, .int .i64 0, .int .i64 0] 68 (0, 0))) := Lib.hid (by rw [hW0, heap_set_other (by simp)]; exact hof.block HB4.out (by simp; omega))
      have HZ7 : Hid (W0.heap[p + 1 + 1 + 1]? = some (.cells #[.int .i64 0, .string ⟨#[]⟩, .string ⟨#[]⟩, .slice none 0 0, .string ⟨#[]⟩] 24 (0, 0))) := Lib.hid (by rw [hW0, heap_set_other (by simp; omega)]; exact hof.block HB5.out (by simp; omega))
      have HGR0 : Hid (Gr w W0) := Lib.hid (by rw [hW0]; exact HV.out.gr.setCell (by simp; omega) _)
      have HSF : Hid (SRep (Pn P p) W0 sj b) := Lib.hid (by
        rw [hW0]
        exact (HV.out.rep.fence (Q := Pn P p) (fun b hb _ => hb.1)).on (((Off.refl [p + 1] wr).set (by simp) _).on (fun b hb => by have h1 := hb.2; simp at h1 ⊢; omega)))
      have HQ : Hid ((sj, NT.mk t.k t.l t.x kd t.e, acc) = q) := Lib.hid (by rw [HQ0.out, ← HRES.out])
      have hnf : NR (Pn P p) W0 ⟨v.k, v.l, v.x, KA, kd.length, KC, v.e⟩ (.mk t.k t.l t.x kd t.e) := by
        have hkp : KidR (Pn P p) W1.heap.size wr (.slice KA kd.length KC) kd ds := ⟨HV.out.kid.len, HV.out.kid.own, fun i e he => by
          obtain ⟨t', q1, q2⟩ := HV.out.kid.rep i e he
          exact ⟨t', q1, q2.fence (fun b hb _ => hb.1)⟩⟩
        obtain ⟨A, c, h1, h2⟩ := hkp.node (fun b hb => ⟨HPP.out b (by have := Below.size HG1.out; omega), by have := lt_of_block HB5.out; simp; omega⟩) (HRR0.out.fence (fun b hb hl => Pn.of hb (by have := HP.out; omega))) (show SameOn (Pn P p) wr W0 from by rw [hW0]; exact ((Off.refl [p + 1] wr).set (by simp) _).on (fun b hb => by have h1 := hb.2; simp at h1 ⊢; omega))
        simp only [Nat.zero_add] at h1 h2
        simp only [Value.slice.injEq] at h1
        obtain ⟨rfl, _, rfl⟩ := h1
        exact h2
      have HNF := Lib.hid hnf
      clear hnf hW0 hp hof j0 j1 j2 j3 j4 jf0 jf1 jf2 jf3 jf4 jl
      obtain ⟨VS, hVS⟩ : ∃ VS : List (Nat × Nat × Value), VS = [(0, 131, .agg #[.int .i64 L.d, .int .i64 L.n, .int .i64 L.b, .int .i64 L.a, .int .i64 L.x, .slice b.A1 b.n1 b.c1, .slice b.A2 b.n2 b.c2, .int .i64 sj.u.d, .int .i64 sj.u.n, .int .i64 sj.u.b, .int .i64 sj.u.a, .int .i64 sj.u.x, .int .i64 sj.err]), (1, 132, .agg #[.int .i64 v.k, .string (bs v.l), .string (bs v.x), .slice KA kd.length KC, .string (bs v.e)]), (2, 133, .int .i64 acc), (5, 8, .int .i64 acc)] := ⟨_, rfl⟩
      obtain ⟨US, hUS⟩ : ∃ US : List (Nat × Value), US = [(3, .pointer (some ⟨p, 0, none⟩)), (4, .pointer (some ⟨p + 1, 0, none⟩)), (6, .pointer (some ⟨p + 1 + 1, 0, none⟩)), (7, .pointer (some ⟨p + 1 + 1 + 1, 0, none⟩)), (14, .int .i64 acc)] := ⟨_, rfl⟩
      refine wp_region_frame (by kernel_rfl) (by kernel_rfl) [131, 132, 133, 8] (by simp) (Det VS US (fun B _ w' => CP w W0 (p + 1 + 1) (p + 1 + 1 + 1) #[.int .i64 L.d, .int .i64 L.n, .int .i64 L.b, .int .i64 L.a, .int .i64 L.x, .slice b.A1 b.n1 b.c1, .slice b.A2 b.n2 b.c2, .int .i64 sj.u.d, .int .i64 sj.u.n, .int .i64 sj.u.b, .int .i64 sj.u.a, .int .i64 sj.u.x, .int .i64 sj.err] #[.int .i64 0, .int .i64 0, .int .i64 0, .int .i64 0, .int .i64 0, .slice none 0 0, .slice none 0 0, .int .i64 0, .int .i64 0, .int .i64 0, .int .i64 0, .int .i64 0, .int .i64 0] #[.int .i64 v.k, .string (bs v.l), .string (bs v.x), .slice KA kd.length KC, .string (bs v.e)] #[.int .i64 0, .string ⟨#[]⟩, .string ⟨#[]⟩, .slice none 0 0, .string ⟨#[]⟩] 3 4 B w')) ?_ ?_ ?_
      · exact Det.start (by rw [hUS]; simp [slot]) (CP.start HGR0.out.drew (Off.gr ((Gr.refl _).drew)) HZ6.out HZ7.out)
      · intro B a' w' i o hfr hF ho hBi hdp
        have hi8 := (Array.getElem?_eq_some_iff.1 ho).1
        simp only [List.size_toArray, List.length_cons, List.length_nil] at hi8
        have hor : i = 0 ∨ i = 1 ∨ i = 2 ∨ i = 3 ∨ i = 4 ∨ i = 5 := by omega
        clear hi8
        rcases hor with rfl | rfl | rfl | rfl | rfl | rfl
        all_goals (
          simp only [List.getElem?_toArray, List.getElem?_cons_zero, List.getElem?_cons_succ, Option.some.injEq] at ho
          subst ho
          rw [if_pos (show Region.wanted _ _ = true from rfl)]
          refine wp_hideK ?_
          intro K hK)
        · have hFW := hF.wd
          have o3 := slot_spell (hF.had (d := 3) (v := .pointer (some ⟨p, 0, none⟩)) (by rw [hUS]; simp))
          have hb := hFW.off.block HX2.out (by simp; try omega)
          have k0 := cell_of_cells hb 0
          have k1 := cell_of_cells hb 1
          have k2 := cell_of_cells hb 2
          have k3 := cell_of_cells hb 3
          have k4 := cell_of_cells hb 4
          have k5 := cell_of_cells hb 5
          have k6 := cell_of_cells hb 6
          have k7 := cell_of_cells hb 7
          have k8 := cell_of_cells hb 8
          have k9 := cell_of_cells hb 9
          have k10 := cell_of_cells hb 10
          have k11 := cell_of_cells hb 11
          have k12 := cell_of_cells hb 12
          have kl := lt_of_block hb
          go_simp
          exact hK.out _ _ (close_put hfr (d := 131) (by decide) (by simp) _ (F := fun u => Det VS US (fun B _ w' => CP w W0 (p + 1 + 1) (p + 1 + 1 + 1) #[.int .i64 L.d, .int .i64 L.n, .int .i64 L.b, .int .i64 L.a, .int .i64 L.x, .slice b.A1 b.n1 b.c1, .slice b.A2 b.n2 b.c2, .int .i64 sj.u.d, .int .i64 sj.u.n, .int .i64 sj.u.b, .int .i64 sj.u.a, .int .i64 sj.u.x, .int .i64 sj.err] #[.int .i64 0, .int .i64 0, .int .i64 0, .int .i64 0, .int .i64 0, .slice none 0 0, .slice none 0 0, .int .i64 0, .int .i64 0, .int .i64 0, .int .i64 0, .int .i64 0, .int .i64 0] #[.int .i64 v.k, .string (bs v.l), .string (bs v.x), .slice KA kd.length KC, .string (bs v.e)] #[.int .i64 0, .string ⟨#[]⟩, .string ⟨#[]⟩, .slice none 0 0, .string ⟨#[]⟩] 3 4 B w') (upB B 0) u _) (hF.step (by rw [hVS]; simp) (by rw [hUS]; simp) (hFW.skip (by decide) (by decide))))
        · have hFW := hF.wd
          have o4 := slot_spell (hF.had (d := 4) (v := .pointer (some ⟨p + 1, 0, none⟩)) (by rw [hUS]; simp))
          have hb := hFW.off.block HX3.out (by simp; try omega)
          have k0 := cell_of_cells hb 0
          have k1 := cell_of_cells hb 1
          have k2 := cell_of_cells hb 2
          have k3 := cell_of_cells hb 3
          have k4 := cell_of_cells hb 4
          have kl := lt_of_block hb
          go_simp
          exact hK.out _ _ (close_put hfr (d := 132) (by decide) (by simp) _ (F := fun u => Det VS US (fun B _ w' => CP w W0 (p + 1 + 1) (p + 1 + 1 + 1) #[.int .i64 L.d, .int .i64 L.n, .int .i64 L.b, .int .i64 L.a, .int .i64 L.x, .slice b.A1 b.n1 b.c1, .slice b.A2 b.n2 b.c2, .int .i64 sj.u.d, .int .i64 sj.u.n, .int .i64 sj.u.b, .int .i64 sj.u.a, .int .i64 sj.u.x, .int .i64 sj.err] #[.int .i64 0, .int .i64 0, .int .i64 0, .int .i64 0, .int .i64 0, .slice none 0 0, .slice none 0 0, .int .i64 0, .int .i64 0, .int .i64 0, .int .i64 0, .int .i64 0, .int .i64 0] #[.int .i64 v.k, .string (bs v.l), .string (bs v.x), .slice KA kd.length KC, .string (bs v.e)] #[.int .i64 0, .string ⟨#[]⟩, .string ⟨#[]⟩, .slice none 0 0, .string ⟨#[]⟩] 3 4 B w') (upB B 1) u _) (hF.step (by rw [hVS]; simp) (by rw [hUS]; simp) (hFW.skip (by decide) (by decide))))
        · have hFW := hF.wd
          have o14 := slot_spell (hF.had (d := 14) (v := .int .i64 acc) (by rw [hUS]; simp))
          go_simp
          exact hK.out _ _ (close_put hfr (d := 133) (by decide) (by simp) _ (F := fun u => Det VS US (fun B _ w' => CP w W0 (p + 1 + 1) (p + 1 + 1 + 1) #[.int .i64 L.d, .int .i64 L.n, .int .i64 L.b, .int .i64 L.a, .int .i64 L.x, .slice b.A1 b.n1 b.c1, .slice b.A2 b.n2 b.c2, .int .i64 sj.u.d, .int .i64 sj.u.n, .int .i64 sj.u.b, .int .i64 sj.u.a, .int .i64 sj.u.x, .int .i64 sj.err] #[.int .i64 0, .int .i64 0, .int .i64 0, .int .i64 0, .int .i64 0, .slice none 0 0, .slice none 0 0, .int .i64 0, .int .i64 0, .int .i64 0, .int .i64 0, .int .i64 0, .int .i64 0] #[.int .i64 v.k, .string (bs v.l), .string (bs v.x), .slice KA kd.length KC, .string (bs v.e)] #[.int .i64 0, .string ⟨#[]⟩, .string ⟨#[]⟩, .slice none 0 0, .string ⟨#[]⟩] 3 4 B w') (upB B 2) u _) (hF.step (by rw [hVS]; simp) (by rw [hUS]; simp) (hFW.skip (by decide) (by decide))))
        · have hFW := hF.wd
          have hB0 : B 0 = true := hdp ⟨0, .data⟩ (by simp) (by rfl)
          have e0 := slot_spell (hF.get (i := 0) (d := 131) (v := .agg #[.int .i64 L.d, .int .i64 L.n, .int .i64 L.b, .int .i64 L.a, .int .i64 L.x, .slice b.A1 b.n1 b.c1, .slice b.A2 b.n2 b.c2, .int .i64 sj.u.d, .int .i64 sj.u.n, .int .i64 sj.u.b, .int .i64 sj.u.a, .int .i64 sj.u.x, .int .i64 sj.err]) (by rw [hVS]; simp) hB0)
          have o6 := slot_spell (hF.had (d := 6) (v := .pointer (some ⟨p + 1 + 1, 0, none⟩)) (by rw [hUS]; simp))
          have q6 := hFW.b6
          rw [if_neg (by rw [hBi]; decide)] at q6
          have y0 := cell_of_cells q6 0
          have yf0 := free_of_cells q6 0
          have y1 := cell_of_cells q6 1
          have yf1 := free_of_cells q6 1
          have y2 := cell_of_cells q6 2
          have yf2 := free_of_cells q6 2
          have y3 := cell_of_cells q6 3
          have yf3 := free_of_cells q6 3
          have y4 := cell_of_cells q6 4
          have yf4 := free_of_cells q6 4
          have y5 := cell_of_cells q6 5
          have yf5 := free_of_cells q6 5
          have y6 := cell_of_cells q6 6
          have yf6 := free_of_cells q6 6
          have y7 := cell_of_cells q6 7
          have yf7 := free_of_cells q6 7
          have y8 := cell_of_cells q6 8
          have yf8 := free_of_cells q6 8
          have y9 := cell_of_cells q6 9
          have yf9 := free_of_cells q6 9
          have y10 := cell_of_cells q6 10
          have yf10 := free_of_cells q6 10
          have y11 := cell_of_cells q6 11
          have yf11 := free_of_cells q6 11
          have y12 := cell_of_cells q6 12
          have yf12 := free_of_cells q6 12
          have yl := lt_of_block q6
          go_simp
          exact hK.out _ _ (close_none hfr undef (F := fun u => Det VS US (fun B _ w' => CP w W0 (p + 1 + 1) (p + 1 + 1 + 1) #[.int .i64 L.d, .int .i64 L.n, .int .i64 L.b, .int .i64 L.a, .int .i64 L.x, .slice b.A1 b.n1 b.c1, .slice b.A2 b.n2 b.c2, .int .i64 sj.u.d, .int .i64 sj.u.n, .int .i64 sj.u.b, .int .i64 sj.u.a, .int .i64 sj.u.x, .int .i64 sj.err] #[.int .i64 0, .int .i64 0, .int .i64 0, .int .i64 0, .int .i64 0, .slice none 0 0, .slice none 0 0, .int .i64 0, .int .i64 0, .int .i64 0, .int .i64 0, .int .i64 0, .int .i64 0] #[.int .i64 v.k, .string (bs v.l), .string (bs v.x), .slice KA kd.length KC, .string (bs v.e)] #[.int .i64 0, .string ⟨#[]⟩, .string ⟨#[]⟩, .slice none 0 0, .string ⟨#[]⟩] 3 4 B w') (upB B 3) u _) (hF.none (by rw [hVS]; simp) (hFW.s6 hBi (by decide) (by omega) (by have hp := HP.out; omega) rfl rfl)))
        · have hFW := hF.wd
          have hB1 : B 1 = true := hdp ⟨1, .data⟩ (by simp) (by rfl)
          have e1 := slot_spell (hF.get (i := 1) (d := 132) (v := .agg #[.int .i64 v.k, .string (bs v.l), .string (bs v.x), .slice KA kd.length KC, .string (bs v.e)]) (by rw [hVS]; simp) hB1)
          have o7 := slot_spell (hF.had (d := 7) (v := .pointer (some ⟨p + 1 + 1 + 1, 0, none⟩)) (by rw [hUS]; simp))
          have q7 := hFW.b7
          rw [if_neg (by rw [hBi]; decide)] at q7
          have y0 := cell_of_cells q7 0
          have yf0 := free_of_cells q7 0
          have y1 := cell_of_cells q7 1
          have yf1 := free_of_cells q7 1
          have y2 := cell_of_cells q7 2
          have yf2 := free_of_cells q7 2
          have y3 := cell_of_cells q7 3
          have yf3 := free_of_cells q7 3
          have y4 := cell_of_cells q7 4
          have yf4 := free_of_cells q7 4
          have yl := lt_of_block q7
          go_simp
          exact hK.out _ _ (close_none hfr undef (F := fun u => Det VS US (fun B _ w' => CP w W0 (p + 1 + 1) (p + 1 + 1 + 1) #[.int .i64 L.d, .int .i64 L.n, .int .i64 L.b, .int .i64 L.a, .int .i64 L.x, .slice b.A1 b.n1 b.c1, .slice b.A2 b.n2 b.c2, .int .i64 sj.u.d, .int .i64 sj.u.n, .int .i64 sj.u.b, .int .i64 sj.u.a, .int .i64 sj.u.x, .int .i64 sj.err] #[.int .i64 0, .int .i64 0, .int .i64 0, .int .i64 0, .int .i64 0, .slice none 0 0, .slice none 0 0, .int .i64 0, .int .i64 0, .int .i64 0, .int .i64 0, .int .i64 0, .int .i64 0] #[.int .i64 v.k, .string (bs v.l), .string (bs v.x), .slice KA kd.length KC, .string (bs v.e)] #[.int .i64 0, .string ⟨#[]⟩, .string ⟨#[]⟩, .slice none 0 0, .string ⟨#[]⟩] 3 4 B w') (upB B 4) u _) (hF.none (by rw [hVS]; simp) (hFW.s7 hBi (by decide) (by omega) (by have hp := HP.out; omega) rfl rfl)))
        · have hFW := hF.wd
          have hB2 : B 2 = true := hdp ⟨2, .data⟩ (by simp) (by rfl)
          have e2 := slot_spell (hF.get (i := 2) (d := 133) (v := .int .i64 acc) (by rw [hVS]; simp) hB2)
          go_simp
          exact hK.out _ _ (close_put hfr (d := 8) (by decide) (by simp) _ (F := fun u => Det VS US (fun B _ w' => CP w W0 (p + 1 + 1) (p + 1 + 1 + 1) #[.int .i64 L.d, .int .i64 L.n, .int .i64 L.b, .int .i64 L.a, .int .i64 L.x, .slice b.A1 b.n1 b.c1, .slice b.A2 b.n2 b.c2, .int .i64 sj.u.d, .int .i64 sj.u.n, .int .i64 sj.u.b, .int .i64 sj.u.a, .int .i64 sj.u.x, .int .i64 sj.err] #[.int .i64 0, .int .i64 0, .int .i64 0, .int .i64 0, .int .i64 0, .slice none 0 0, .slice none 0 0, .int .i64 0, .int .i64 0, .int .i64 0, .int .i64 0, .int .i64 0, .int .i64 0] #[.int .i64 v.k, .string (bs v.l), .string (bs v.x), .slice KA kd.length KC, .string (bs v.e)] #[.int .i64 0, .string ⟨#[]⟩, .string ⟨#[]⟩, .slice none 0 0, .string ⟨#[]⟩] 3 4 B w') (upB B 5) u _) (hF.step (by rw [hVS]; simp) (by rw [hUS]; simp) (hFW.skip (by decide) (by decide))))
      · intro B u w' hall hF
        have z0 := hF.get (i := 0) (d := 131) (v := .agg #[.int .i64 L.d, .int .i64 L.n, .int .i64 L.b, .int .i64 L.a, .int .i64 L.x, .slice b.A1 b.n1 b.c1, .slice b.A2 b.n2 b.c2, .int .i64 sj.u.d, .int .i64 sj.u.n, .int .i64 sj.u.b, .int .i64 sj.u.a, .int .i64 sj.u.x, .int .i64 sj.err]) (by rw [hVS]; simp) (hall 0 (by simp))
        have z1 := hF.get (i := 1) (d := 132) (v := .agg #[.int .i64 v.k, .string (bs v.l), .string (bs v.x), .slice KA kd.length KC, .string (bs v.e)]) (by rw [hVS]; simp) (hall 1 (by simp))
        have z2 := hF.get (i := 2) (d := 133) (v := .int .i64 acc) (by rw [hVS]; simp) (hall 2 (by simp))
        have z5 := hF.get (i := 5) (d := 8) (v := .int .i64 acc) (by rw [hVS]; simp) (hall 5 (by simp))
        have hFW := hF.wd
        clear hF hVS hUS
        simp only [List.foldl_cons, List.foldl_nil, Act.put, List.setIfInBounds_toArray, List.set_cons_zero, List.set_cons_succ, z0, z1, z2, z5]
        clear z0 z1 z2 z5
        have hp := HP.out
        have q6 := hFW.b6
        have q7 := hFW.b7
        have hgf := hFW.gr
        have hof := hFW.off
        rw [if_pos (hall 3 (by simp))] at q6
        rw [if_pos (hall 4 (by simp))] at q7
        clear hall hFW
        go_wp2_with fail
        refine bodyPost_ret (results_state rfl _ _ _ _ _ _ rfl rfl rfl q6 rfl q7) rfl ⟨b, ⟨v.k, v.l, v.x, KA, kd.length, KC, v.e⟩, by rw [← HQ.out]; rfl, ?_, ?_, hgf⟩
        · rw [← HQ.out]
          exact (HSF.out.on (hof.on (fun b hb => by have h := hb.2; simp at h ⊢; omega))).fence (fun b hb _ => hb.1)
        · rw [← HQ.out]
          exact HNF.out.on (hof.on (fun b hb => by have h := hb.2; simp at h ⊢; omega)) |>.fence (fun b hb _ => hb.1)
end Go.Proofs.Ytbfnmgiccbdglaa
