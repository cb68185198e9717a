/- A place in a tree without sharing: what the root is when the node at the place is written anew; the kids of a node as a row of cells. -/
import Derived.Test.YtklncffhkdbkhaaTrClone
import Derived.Test.YtklncffhkdbkhaaApp
namespace Go.Proofs.Ytklncffhkdbkhaa
open Go.ChangeShapes Go.WideShapes Go.ChangeAt Go.RowKit

def HoleP (P : Nat → Prop) (W : World) (bo : Nat) (root : NT → NT) (pb po lo hi : Nat) : Prop :=
  ∀ (W' : World) (d' : ND) (s' : NT) (m' : Nat), W.heap.size ≤ W'.heap.size → (∀ b o, b < W.heap.size → ¬ (lo ≤ b ∧ b < hi) → (b = pb → o < po ∨ po + 5 ≤ o) → W'.cell? ⟨b, o, none⟩ = W.cell? ⟨b, o, none⟩) →
    NCells W' pb po d' → NRep P m' W' d' s' → ∃ (m'' : Nat) (d'' : ND), NCells W' bo 0 d'' ∧ NRep P m'' W' d'' (root s')
theorem HoleP.start (P : Nat → Prop) (W : World) (bo lo hi : Nat) : HoleP P W bo (fun s => s) bo 0 lo hi := fun _ d' _ m' _ _ hc hr => ⟨m', d', hc, hr⟩
theorem HoleP.step {P : Nat → Prop} {W : World} {bo : Nat} {root : NT → NT} {pb po lo hi m : Nat} {d : ND} {s y : NT} {i : Nat} (hP : ∀ b, lo ≤ b → b < hi → P b) (h : HoleP P W bo root pb po lo hi) (hp : pb < lo ∨ hi ≤ pb) (hc : NCells W pb po d) (hb : pb < W.heap.size) (hs : SRep (m + 1) W lo hi d s) (hy : s.ks[i]? = some y) :
    ∃ (b lo' hi' : Nat) (e : ND), d.A = some ⟨b, 0, none⟩ ∧ b < lo' ∧ lo ≤ b ∧ hi' ≤ hi ∧ b < W.heap.size ∧ i < d.n ∧ d.n ≤ d.c ∧ d.c ≤ maxLen ∧ (∀ o, W.frozen? ⟨b, o, none⟩ = false) ∧ NCells W b (i * 5) e ∧ SRep m W lo' hi' e y ∧
      HoleP P W bo (fun s' => root (.mk s.k s.l s.x (s.ks.set i s') s.e)) b (i * 5) lo' hi' := by
  obtain ⟨k, l, x, ks, e⟩ := s
  obtain ⟨h1, h2, h3, h4, h5, h6, h7, h8, h9, h10, h11, h12, hlh, hhs, h13⟩ := hs
  have hy' : ks[i]? = some y := hy
  have hi := (List.getElem?_eq_some_iff.1 hy').1
  rcases h13 with rfl | ⟨b, f, ha, hbl, hbf, hch, hfl, hfz, hk⟩
  · simp at hi
  obtain ⟨di, hci, hri⟩ := hk i y hy'
  have e1 := chain_le hch i 0 (by omega) (by omega)
  have e2 := chain_le hch _ (i + 1) (by omega) (Nat.le_refl _)
  have e3 := hch i hi
  refine ⟨b, f i, f (i + 1), di, ha, by omega, hbl, by omega, by omega, by omega, h6, h7, hfz, hci, hri, ?_⟩
  intro W' d' s' m' hsz hsame hcell hrep
  have hpc : NCells W' pb po d := hc.other (fun j _ => hsame pb _ hb (by omega) (fun he => by omega))
  refine h W' d (.mk k l x (ks.set i s') e) (max m m' + 1) hsz (fun b' o hb' hn hne => hsame b' o hb' (by omega) (fun he => absurd he (by omega))) hpc ?_
  refine ⟨h1, h2, h3, h4, by rw [List.length_set]; exact h5, h6, h7, h8, h9, h10, h11, h12, fun j z hz => ?_⟩
  by_cases hji : i = j
  · subst hji
    rw [List.getElem?_set_self hi] at hz
    simp only [Option.some.injEq] at hz
    subst hz
    exact ⟨b, 0, d', ha, hP b hbl (by omega), by omega, by simpa using hcell, hrep.ups _ (Nat.le_max_right _ _)⟩
  · rw [List.getElem?_set_ne hji] at hz
    obtain ⟨dj, hcj, hrj⟩ := hk j z hz
    have hj := (List.getElem?_eq_some_iff.1 hz).1
    have f1 := chain_le hch j 0 (by omega) (by omega)
    have f2 := chain_le hch _ (j + 1) (by omega) (Nat.le_refl _)
    have f3 := hch j hj
    have hord : f (j + 1) ≤ f i ∨ f (i + 1) ≤ f j := by
      rcases Nat.lt_or_gt_of_ne hji with hlt | hgt
      · exact .inr (chain_le hch j (i + 1) (by omega) (by omega))
      · exact .inl (chain_le hch i (j + 1) (by omega) (by omega))
    refine ⟨b, 0, dj, ha, hP b hbl (by omega), by omega, ?_, ?_⟩
    · rw [Nat.zero_add]
      exact hcj.other (fun q hq => hsame b _ (by omega) (by omega) (fun _ => by omega))
    · have hrep2 := SRep.rep m _ _ dj z hrj
      exact (NRep.mono (fun b' hb' => hP b' (by omega) (by omega)) (NRep.keep ⟨hsz, fun b' o hb' hbw => hsame b' o hbw (by omega) (fun he => by omega)⟩ m dj z hrep2)).ups _ (Nat.le_max_left _ _)
theorem SRep.bounds {W : World} {m lo hi : Nat} {v : ND} {t : NT} (h : SRep m W lo hi v t) : lo ≤ hi ∧ hi ≤ W.heap.size := by
  match m, t, h with
  | m + 1, .mk k l x ks e, h => exact ⟨h.2.2.2.2.2.2.2.2.2.2.2.2.1, h.2.2.2.2.2.2.2.2.2.2.2.2.2.1⟩

/- ## The kids of a node as a row of cells -/
theorem cells_len (d : ND) : d.cells.length = 5 := rfl
theorem flat_len : ∀ ds : List ND, (ds.flatMap ND.cells).length = ds.length * 5
  | [] => rfl
  | d :: r => by rw [List.flatMap_cons, List.length_append, flat_len r, cells_len, List.length_cons]; omega
theorem flat_get : ∀ (ds : List ND) (i q : Nat), q < 5 → (ds.flatMap ND.cells)[i * 5 + q]? = ds[i]?.bind fun d => d.cells[q]?
  | [], i, q, _ => by simp
  | d :: r, 0, q, hq => by
    rw [List.flatMap_cons, List.getElem?_append_left (by rw [cells_len]; omega)]
    simp
  | d :: r, i + 1, q, hq => by
    rw [List.flatMap_cons, List.getElem?_append_right (by rw [cells_len]; omega), cells_len, show (i + 1) * 5 + q - 5 = i * 5 + q by omega, flat_get r i q hq]
    rfl
theorem Kids.row {P : Nat → Prop} {m : Nat} {W : World} {A : Option Addr} {ks : List NT} (h : Kids P m W A ks) : ∃ ds : List ND, ds.length = ks.length ∧ SrcAt W A ks.length 5 (ds.flatMap ND.cells) ∧ ∀ (i : Nat) (d : ND) (y : NT), ds[i]? = some d → ks[i]? = some y → NRep P m W d y := by
  have hL : ∀ i, i < ks.length → ∃ d : ND, ∃ (b o : Nat), A = some ⟨b, o, none⟩ ∧ NCells W b (o + i * 5) d ∧ ∀ y, ks[i]? = some y → NRep P m W d y := fun i hi => by
    obtain ⟨b, o, d, ha, _, _, hc, hr⟩ := h i _ (List.getElem?_eq_getElem hi)
    refine ⟨d, b, o, ha, hc, fun y hy => ?_⟩
    rw [List.getElem?_eq_getElem hi] at hy
    cases hy
    exact hr
  obtain ⟨ds, hl, hp⟩ := choose_list ks.length hL
  refine ⟨ds, hl, ⟨by rw [flat_len, hl], fun u hu => ?_, fun hm => ?_⟩, fun i d y hd hy => ?_⟩
  · obtain ⟨d, _, hd⟩ := List.mem_flatMap.1 hu
    simp only [ND.cells, List.mem_cons, List.not_mem_nil, or_false] at hd
    rcases hd with rfl | rfl | rfl | rfl | rfl <;> rfl
  · obtain ⟨b, o, ha, _⟩ := hp 0 (by omega)
    subst ha
    refine ⟨_, rfl, fun j u hu => ?_⟩
    have hj : j < ds.length * 5 := by
      have := (List.getElem?_eq_some_iff.1 hu).1
      rwa [flat_len] at this
    have e1 : j = j / 5 * 5 + j % 5 := by omega
    rw [e1, flat_get ds _ _ (by omega)] at hu
    obtain ⟨d, hd, hq⟩ := Option.bind_eq_some_iff.1 hu
    obtain ⟨hlt, hde⟩ := List.getElem?_eq_some_iff.1 hd
    obtain ⟨b', o', ha', hc, _⟩ := hp (j / 5) hlt
    cases ha'
    rw [hde] at hc
    have := hc.to _ _ hq
    rw [add_shape rfl, e1]
    rw [Nat.add_assoc] at this
    exact this
  · obtain ⟨hlt, hde⟩ := List.getElem?_eq_some_iff.1 hd
    obtain ⟨_, _, _, _, hr⟩ := hp i hlt
    rw [hde] at hr
    exact hr y hy
/-- A row of nodes of the call's own: its cells. -/
theorem row_cells {W : World} {B n c g : Nat} {ds : List ND} (h : W.ownsRow B 24 5 (.slice (some ⟨g, 0, none⟩) n c) n (ds.flatMap ND.cells)) (i : Nat) (d : ND) (hd : ds[i]? = some d) : NCells W g (i * 5) d := by
  refine NCells.of fun q hq => ?_
  have hlt := (List.getElem?_eq_some_iff.1 hd).1
  have hl : i * 5 + q < (ds.flatMap ND.cells).length := by rw [flat_len]; omega
  have h2 := World.ownsRow.cellAt h (i * 5 + q) (by have := h.1; omega)
  have h3 := flat_get ds i q hq
  rw [hd, Option.bind_some] at h3
  rw [← h3]
  simpa using h2
theorem row_rbox {W : World} {B n c g : Nat} {xs : List Value} (h : W.ownsRow B 24 5 (.slice (some ⟨g, 0, none⟩) n c) n xs) : RBox W g c ∧ n ≤ c ∧ c ≤ maxLen ∧ B ≤ g := by
  rcases h.2 with ⟨h0, _⟩ | ⟨g', cap, cur, hv, hb, hh, hc, hm, hs, _⟩
  · cases h0
  · simp only [Value.slice.injEq, Option.some.injEq, Addr.mk.injEq] at hv
    obtain ⟨⟨rfl, _⟩, _, rfl⟩ := hv
    exact ⟨⟨cur, hh, hs⟩, hc, hm, hb⟩
end Go.Proofs.Ytklncffhkdbkhaa
