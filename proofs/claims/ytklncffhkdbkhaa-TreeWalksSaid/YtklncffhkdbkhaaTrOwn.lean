/- Trees that a call has made itself: their nodes share no memory; a node of theirs written anew. -/
import Derived.Test.YtklncffhkdbkhaaTrWhole
import Derived.Laws.IdiomCopy
namespace Go.Proofs.Ytklncffhkdbkhaa
open Go.ChangeShapes Go.WideShapes Go.ChangeAt Go.RowKit

/- ## The descendant at given indices, and the tree with another in its place -/
def getF : NT → List Int → Option NT
  | t, [] => some t
  | t, i :: r => if 0 ≤ i ∧ i < t.ks.length then (match t.ks[i.toNat]? with
      | some y => getF y r
      | none => none) else none
theorem getF_bad {t : NT} {i : Int} {r : List Int} (h : i < 0 ∨ (t.ks.length : Int) ≤ i) : getF t (i :: r) = none := by
  rw [getF, if_neg (by omega)]
theorem getF_go {t y : NT} {i : Nat} {r : List Int} (h : t.ks[i]? = some y) : getF t ((i : Int) :: r) = getF y r := by
  have hi := (List.getElem?_eq_some_iff.1 h).1
  rw [getF, if_pos (by omega), Int.toNat_natCast, h]
theorem getF_span : ∀ (zs : List Int) (t : NT) (p : Nat), getF t zs = (spanF t zs p).map (·.2)
  | [], t, p => rfl
  | i :: r, t, p => by
    by_cases hi : 0 ≤ i ∧ i < t.ks.length
    · obtain ⟨k, rfl⟩ := Int.eq_ofNat_of_zero_le hi.1
      have hk : t.ks[k]? = some (t.ks[k]'(by omega)) := List.getElem?_eq_getElem _
      rw [spanF_go hk, getF_go hk]
      exact getF_span r _ _
    · rw [spanF_bad (by omega), getF_bad (by omega)]
      rfl
def putF : NT → List Int → NT → NT
  | _, [], s => s
  | t, i :: r, s => match t.ks[i.toNat]? with
    | some y => .mk t.k t.l t.x (t.ks.set i.toNat (putF y r s)) t.e
    | none => t
theorem putF_go {t y s : NT} {i : Nat} {r : List Int} (h : t.ks[i]? = some y) : putF t ((i : Int) :: r) s = .mk t.k t.l t.x (t.ks.set i (putF y r s)) t.e := by
  rw [putF, Int.toNat_natCast, h]

/- ## Trees without sharing -/
/-- What leads from a node to its kids, m levels deep, by blocks from lo on and below hi, no block twice. -/
def SRep : Nat → World → Nat → Nat → ND → NT → Prop
  | 0, _, _, _, _, _ => False
  | m + 1, W, lo, hi, v, .mk k l x ks e => v.k = k ∧ v.l = l ∧ v.x = x ∧ v.e = e ∧ v.n = ks.length ∧ v.n ≤ v.c ∧ v.c ≤ maxLen ∧ (Lit.int .i64 k).wf = true ∧ l.length ≤ maxLen ∧ x.length ≤ maxLen ∧ e.length ≤ maxLen ∧ (v.A = none → v.c = 0) ∧ lo ≤ hi ∧ hi ≤ W.heap.size ∧
      (ks = [] ∨ ∃ (b : Nat) (f : Nat → Nat), v.A = some ⟨b, 0, none⟩ ∧ lo ≤ b ∧ b < f 0 ∧ (∀ i, i < ks.length → f i ≤ f (i + 1)) ∧ f ks.length ≤ hi ∧ (∀ o, W.frozen? ⟨b, o, none⟩ = false) ∧
        ∀ (i : Nat) (y : NT), ks[i]? = some y → ∃ d : ND, NCells W b (i * 5) d ∧ SRep m W (f i) (f (i + 1)) d y)
theorem chain_le {f : Nat → Nat} {n : Nat} (h : ∀ i, i < n → f i ≤ f (i + 1)) : ∀ j i, i ≤ j → j ≤ n → f i ≤ f j
  | 0, i, hi, _ => by
    obtain rfl : i = 0 := by omega
    exact Nat.le_refl _
  | j + 1, i, hi, hj => by
    by_cases he : i = j + 1
    · rw [he]; exact Nat.le_refl _
    · exact Nat.le_trans (chain_le h j i (by omega) (by omega)) (h j (by omega))
theorem SRep.rep {W : World} : ∀ (m lo hi : Nat) (v : ND) (t : NT), SRep m W lo hi v t → NRep (fun b => lo ≤ b ∧ b < hi) m W v t
  | 0, _, _, _, _, h => h
  | m + 1, lo, hi, v, .mk k l x ks e, h => by
    obtain ⟨h1, h2, h3, h4, h5, h6, h7, h8, h9, h10, h11, h12, hlh, hhs, h13⟩ := h
    refine ⟨h1, h2, h3, h4, h5, h6, h7, h8, h9, h10, h11, h12, fun i y hy => ?_⟩
    have hi := (List.getElem?_eq_some_iff.1 hy).1
    rcases h13 with rfl | ⟨b, f, ha, hb, hbf, hch, hfl, _, hk⟩
    · simp at hi
    · obtain ⟨d, hc, hr⟩ := hk i y hy
      have e1 := chain_le hch i 0 (by omega) (by omega)
      have e2 := chain_le hch _ (i + 1) (by omega) (Nat.le_refl _)
      have e3 := hch i hi
      exact ⟨b, 0, d, ha, ⟨hb, by omega⟩, by omega, by simpa using hc, NRep.mono (fun b' hb' => ⟨by omega, by omega⟩) (SRep.rep m _ _ d y hr)⟩
theorem SRep.any {W : World} {m lo hi : Nat} {v : ND} {t : NT} (h : SRep m W lo hi v t) : NRep anyB m W v t := NRep.mono (fun _ _ => trivial) (SRep.rep m lo hi v t h)
theorem SRep.keep {W w : World} : ∀ (m lo hi : Nat) (v : ND) (t : NT), SRep m W lo hi v t → hi ≤ w.heap.size → (∀ b o, lo ≤ b → b < hi → w.cell? ⟨b, o, none⟩ = W.cell? ⟨b, o, none⟩ ∧ w.frozen? ⟨b, o, none⟩ = W.frozen? ⟨b, o, none⟩) → SRep m w lo hi v t
  | 0, _, _, _, _, h, _, _ => h
  | m + 1, lo, hi, v, .mk k l x ks e, h, hw, hs => by
    obtain ⟨h1, h2, h3, h4, h5, h6, h7, h8, h9, h10, h11, h12, hlh, hhs, h13⟩ := h
    refine ⟨h1, h2, h3, h4, h5, h6, h7, h8, h9, h10, h11, h12, hlh, hw, ?_⟩
    rcases h13 with rfl | ⟨b, f, ha, hb, hbf, hch, hfl, hfz, hk⟩
    · exact .inl rfl
    · by_cases hz : ks = []
      · exact .inl hz
      have hpos : 0 < ks.length := List.length_pos_iff.2 hz
      have e0 := chain_le hch _ 0 (by omega) (Nat.le_refl _)
      refine .inr ⟨b, f, ha, hb, hbf, hch, hfl, fun o => by rw [(hs b o hb (by omega)).2]; exact hfz o, fun i y hy => ?_⟩
      obtain ⟨d, hc, hr⟩ := hk i y hy
      have hi := (List.getElem?_eq_some_iff.1 hy).1
      have e1 := chain_le hch i 0 (by omega) (by omega)
      have e2 := chain_le hch _ (i + 1) (by omega) (Nat.le_refl _)
      have e3 := hch i hi
      refine ⟨d, ?_, SRep.keep m _ _ d y hr (by omega) (fun b' o hb' hb'' => hs b' o (by omega) (by omega))⟩
      unfold NCells at *
      simp only [(hs b _ hb (by omega)).1]
      exact hc
theorem SRep.gr {W w : World} {m lo hi : Nat} {v : ND} {t : NT} (h : SRep m W lo hi v t) (hg : Gr W w) : SRep m w lo hi v t := by
  have hh : hi ≤ W.heap.size := by
    match m, t, h with
    | m + 1, .mk k l x ks e, h => exact h.2.2.2.2.2.2.2.2.2.2.2.2.2.1
  exact SRep.keep m lo hi v t h (Nat.le_trans hh (Below.size hg)) (fun b o _ hb => ⟨hg.cells.1 b o (by omega), hg.cells.2.1 b o (by omega)⟩)
theorem SRep.wide {W : World} : ∀ {m lo hi lo' hi' : Nat} {v : ND} {t : NT}, lo' ≤ lo → hi ≤ hi' → hi' ≤ W.heap.size → SRep m W lo hi v t → SRep m W lo' hi' v t
  | 0, _, _, _, _, _, _, _, _, _, h => h
  | m + 1, lo, hi, lo', hi', v, .mk k l x ks e, hl, hh, hw, h => by
    obtain ⟨h1, h2, h3, h4, h5, h6, h7, h8, h9, h10, h11, h12, hlh, hhs, h13⟩ := h
    refine ⟨h1, h2, h3, h4, h5, h6, h7, h8, h9, h10, h11, h12, by omega, hw, ?_⟩
    rcases h13 with rfl | ⟨b, f, ha, hb, hbf, hch, hfl, hfz, hk⟩
    · exact .inl rfl
    · exact .inr ⟨b, f, ha, by omega, hbf, hch, by omega, hfz, hk⟩
/-- Five cells written: the node that lies there, and whatever is left alone. -/
theorem NCells.set {W : World} {b o : Nat} {d d' : ND} (h : NCells W b o d) : NCells (W.setCells b o d'.cells) b o d' := by
  have hin := World.cell?_setCells_in b d'.cells o W (fun j hj => by
    have hj5 : j < 5 := hj
    have he : d.cells[j]? = some (d.cells[j]'hj5) := List.getElem?_eq_getElem _
    rw [h.to j _ he]; rfl)
  exact NCells.of (fun j hj => (hin j hj).trans (List.getElem?_eq_getElem (l := d'.cells) hj).symm)
theorem cell_set5 {W : World} {b o : Nat} {d : ND} {b' o' : Nat} (h : b' = b → o' < o ∨ o + 5 ≤ o') : (W.setCells b o d.cells).cell? ⟨b', o', none⟩ = W.cell? ⟨b', o', none⟩ :=
  World.cell?_setCells_out b d.cells o W _ (fun h1 _ => h h1)
theorem size_setCells (b : Nat) : ∀ (vs : List Value) (o : Nat) (w : World), (w.setCells b o vs).heap.size = w.heap.size
  | [], _, _ => rfl
  | v :: r, o, w => by rw [World.setCells, size_setCells b r, World.size_setCell]
theorem NCells.other {W w : World} {b o : Nat} {d : ND} (h : NCells W b o d) (hs : ∀ j, j < 5 → w.cell? ⟨b, o + j, none⟩ = W.cell? ⟨b, o + j, none⟩) : NCells w b o d := by
  obtain ⟨h0, h1, h2, h3, h4⟩ := h
  exact ⟨(hs 0 (by omega)).trans h0, (hs 1 (by omega)).trans h1, (hs 2 (by omega)).trans h2, (hs 3 (by omega)).trans h3, (hs 4 (by omega)).trans h4⟩

/- ## A place in a tree without sharing: what the root is when the node at the place is written anew -/
def Hole (W : World) (bo : Nat) (root : NT → NT) (pb po lo hi : Nat) : Prop :=
  ∀ (W' : World) (d' : ND) (s' : NT) (m' : Nat), W.heap.size ≤ W'.heap.size → (∀ b o, b < W.heap.size → ¬ (lo ≤ b ∧ b < hi) → (b = pb → o < po ∨ po + 5 ≤ o) → W'.cell? ⟨b, o, none⟩ = W.cell? ⟨b, o, none⟩) →
    NCells W' pb po d' → NRep anyB m' W' d' s' → ∃ (m'' : Nat) (d'' : ND), NCells W' bo 0 d'' ∧ NRep anyB m'' W' d'' (root s')
theorem Hole.start (W : World) (bo lo hi : Nat) : Hole W bo id bo 0 lo hi := fun _ d' _ m' _ _ hc hr => ⟨m', d', hc, hr⟩
theorem Hole.step {W : World} {bo : Nat} {root : NT → NT} {pb po lo hi m : Nat} {d : ND} {s y : NT} {i : Nat} (h : Hole W bo root pb po lo hi) (hp : pb < lo) (hc : NCells W pb po d) (hb : pb < W.heap.size) (hs : SRep (m + 1) W lo hi d s) (hy : s.ks[i]? = some y) :
    ∃ (b lo' hi' : Nat) (e : ND), d.A = some ⟨b, 0, none⟩ ∧ b < lo' ∧ b < W.heap.size ∧ i < d.n ∧ d.n ≤ d.c ∧ (∀ o, W.frozen? ⟨b, o, none⟩ = false) ∧ NCells W b (i * 5) e ∧ SRep m W lo' hi' e y ∧
      Hole W bo (fun s' => root (.mk s.k s.l s.x (s.ks.set i s') s.e)) b (i * 5) lo' hi' := by
  obtain ⟨k, l, x, ks, e⟩ := s
  obtain ⟨h1, h2, h3, h4, h5, h6, h7, h8, h9, h10, h11, h12, hlh, hhs, h13⟩ := hs
  have hy' : ks[i]? = some y := hy
  have hi := (List.getElem?_eq_some_iff.1 hy').1
  rcases h13 with rfl | ⟨b, f, ha, hbl, hbf, hch, hfl, hfz, hk⟩
  · simp at hi
  obtain ⟨di, hci, hri⟩ := hk i y hy'
  have e1 := chain_le hch i 0 (by omega) (by omega)
  have e2 := chain_le hch _ (i + 1) (by omega) (Nat.le_refl _)
  have e3 := hch i hi
  refine ⟨b, f i, f (i + 1), di, ha, by omega, by omega, by omega, h6, hfz, hci, hri, ?_⟩
  intro W' d' s' m' hsz hsame hcell hrep
  have hpc : NCells W' pb po d := hc.other (fun j _ => hsame pb _ hb (by omega) (fun he => by omega))
  refine h W' d (.mk k l x (ks.set i s') e) (max m m' + 1) hsz (fun b' o hb' hn hne => hsame b' o hb' (by omega) (fun he => absurd he (by omega))) hpc ?_
  refine ⟨h1, h2, h3, h4, by rw [List.length_set]; exact h5, h6, h7, h8, h9, h10, h11, h12, fun j z hz => ?_⟩
  by_cases hji : i = j
  · subst hji
    rw [List.getElem?_set_self hi] at hz
    simp only [Option.some.injEq] at hz
    subst hz
    exact ⟨b, 0, d', ha, trivial, by omega, by simpa using hcell, hrep.ups _ (Nat.le_max_right _ _)⟩
  · rw [List.getElem?_set_ne hji] at hz
    obtain ⟨dj, hcj, hrj⟩ := hk j z hz
    have hj := (List.getElem?_eq_some_iff.1 hz).1
    have f1 := chain_le hch j 0 (by omega) (by omega)
    have f2 := chain_le hch _ (j + 1) (by omega) (Nat.le_refl _)
    have f3 := hch j hj
    have hord : f (j + 1) ≤ f i ∨ f (i + 1) ≤ f j := by
      rcases Nat.lt_or_gt_of_ne hji with hlt | hgt
      · exact .inr (chain_le hch j (i + 1) (by omega) (by omega))
      · exact .inl (chain_le hch i (j + 1) (by omega) (by omega))
    refine ⟨b, 0, dj, ha, trivial, by omega, ?_, ?_⟩
    · rw [Nat.zero_add]
      exact hcj.other (fun q hq => hsame b _ (by omega) (by omega) (fun _ => by omega))
    · have hrep2 := SRep.rep m _ _ dj z hrj
      exact (NRep.mono (fun _ _ => trivial) (NRep.keep ⟨hsz, fun b' o hb' hbw => hsame b' o hbw (by omega) (fun he => by omega)⟩ m dj z hrep2)).ups _ (Nat.le_max_left _ _)
end Go.Proofs.Ytklncffhkdbkhaa
