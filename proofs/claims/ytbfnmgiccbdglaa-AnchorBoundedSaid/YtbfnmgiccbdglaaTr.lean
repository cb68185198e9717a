/- Nodes in memory as trees: what a value of type api.Node leads to, and the plain functions on such trees. -/
import Derived.Test.YtbfnmgiccbdglaaRead
namespace Go.Proofs.Ytbfnmgiccbdglaa
open Go.ChangeShapes Go.WideShapes Go.ChangeAt Go.RowKit

/- ## Texts -/
/-- A text of these bytes. -/
def bs (l : List UInt8) : ByteArray := ⟨⟨l⟩⟩
theorem bs_size (l : List UInt8) : (bs l).size = l.length := rfl
theorem bs_toList (b : ByteArray) : bs b.data.toList = b := rfl
theorem bs_append (a b : List UInt8) : bs a ++ bs b = bs (a ++ b) := by
  apply ByteArray.ext
  apply Array.ext'
  simp [bs]
theorem bs_inj {a b : List UInt8} : bs a = bs b ↔ a = b :=
  ⟨fun h => by have := congrArg (fun x => x.data.toList) h; exact this, fun h => by rw [h]⟩

/- ## Trees -/
/-- A node: its kind, its texts, its kids. -/
inductive NT where
  | mk (kind : Int) (lead text : List UInt8) (kids : List NT) (tail : List UInt8)
def NT.k : NT → Int | .mk k _ _ _ _ => k
def NT.l : NT → List UInt8 | .mk _ l _ _ _ => l
def NT.x : NT → List UInt8 | .mk _ _ x _ _ => x
def NT.ks : NT → List NT | .mk _ _ _ ks _ => ks
def NT.e : NT → List UInt8 | .mk _ _ _ _ e => e
/-- The five cells of a node. -/
structure ND where
  (k : Int) (l x : List UInt8) (A : Option Addr) (n c : Nat) (e : List UInt8)
def ND.cells (v : ND) : List Value := [.int .i64 v.k, .string (bs v.l), .string (bs v.x), .slice v.A v.n v.c, .string (bs v.e)]
/-- The five cells lie at this place. -/
def NCells (W : World) (b o : Nat) (v : ND) : Prop :=
  (W.cell? ⟨b, o, none⟩ = some (.int .i64 v.k) ∧ W.cell? ⟨b, o + 1, none⟩ = some (.string (bs v.l)) ∧ W.cell? ⟨b, o + 2, none⟩ = some (.string (bs v.x)) ∧ W.cell? ⟨b, o + 3, none⟩ = some (.slice v.A v.n v.c) ∧ W.cell? ⟨b, o + 4, none⟩ = some (.string (bs v.e)))
theorem NCells.of {W : World} {b o : Nat} {v : ND} (h : ∀ j, j < 5 → W.cell? ⟨b, o + j, none⟩ = v.cells[j]?) : NCells W b o v :=
  ⟨h 0 (by omega), h 1 (by omega), h 2 (by omega), h 3 (by omega), h 4 (by omega)⟩
theorem NCells.to {W : World} {b o : Nat} {v : ND} (h : NCells W b o v) : ∀ (j : Nat) (u : Value), v.cells[j]? = some u → W.cell? ⟨b, o + j, none⟩ = some u := by
  obtain ⟨h0, h1, h2, h3, h4⟩ := h
  intro j u hu
  match j, hu with
  | 0, hu => exact h0.trans hu
  | 1, hu => exact h1.trans hu
  | 2, hu => exact h2.trans hu
  | 3, hu => exact h3.trans hu
  | 4, hu => exact h4.trans hu
  | j + 5, hu => simp [ND.cells] at hu
/-- The blocks that P names are as they were. -/
def SameOn (P : Nat → Prop) (W w : World) : Prop := W.heap.size ≤ w.heap.size ∧ ∀ b o, P b → b < W.heap.size → w.cell? ⟨b, o, none⟩ = W.cell? ⟨b, o, none⟩
theorem Gr.on {W w : World} (h : Gr W w) (P : Nat → Prop) : SameOn P W w := ⟨Below.size h, fun b o _ hb => h.cells.1 b o hb⟩
theorem NCells.keep {P : Nat → Prop} {W w : World} {b o : Nat} {v : ND} (h : NCells W b o v) (hg : SameOn P W w) (hp : P b) (hb : b < W.heap.size) : NCells w b o v := by
  have k := hg.2
  unfold NCells at *
  simp only [k _ _ hp hb]
  exact h
/-- What leads from a node to its kids, m levels deep, by blocks that P names. -/
def NRep (P : Nat → Prop) : Nat → World → ND → NT → Prop
  | 0, _, _, _ => False
  | m + 1, W, v, .mk k l x ks e => v.k = k ∧ v.l = l ∧ v.x = x ∧ v.e = e ∧ v.n = ks.length ∧ v.n ≤ v.c ∧ v.c ≤ maxLen ∧ (Lit.int .i64 k).wf = true ∧ l.length ≤ maxLen ∧ x.length ≤ maxLen ∧ e.length ≤ maxLen ∧ (v.A = none → v.c = 0) ∧
      (∀ (i : Nat) (y : NT), ks[i]? = some y → ∃ (b o : Nat) (d : ND), v.A = some ⟨b, o, none⟩ ∧ P b ∧ b < W.heap.size ∧ NCells W b (o + i * 5) d ∧ NRep P m W d y)
theorem NRep.keep {P : Nat → Prop} {W w : World} (hg : SameOn P W w) : ∀ (m : Nat) (v : ND) (t : NT), NRep P m W v t → NRep P m w v t
  | 0, _, _, h => h
  | m + 1, v, .mk k l x ks e, h => by
    obtain ⟨h1, h2, h3, h4, h5, h6, h7, h8, h9, h10, h11, h12, h13⟩ := h
    refine ⟨h1, h2, h3, h4, h5, h6, h7, h8, h9, h10, h11, h12, fun i y hy => ?_⟩
    obtain ⟨b, o, d, ha, hp, hb, hc, hr⟩ := h13 i y hy
    exact ⟨b, o, d, ha, hp, Nat.lt_of_lt_of_le hb hg.1, hc.keep hg hp hb, NRep.keep hg m d y hr⟩
theorem NRep.gr {P : Nat → Prop} {W w : World} {m : Nat} {v : ND} {t : NT} (h : NRep P m W v t) (hg : Gr W w) : NRep P m w v t := NRep.keep (hg.on P) m v t h
theorem NRep.mono {P Q : Nat → Prop} (hpq : ∀ b, P b → Q b) : ∀ {m : Nat} {W : World} {v : ND} {t : NT}, NRep P m W v t → NRep Q m W v t
  | 0, _, _, _, h => h
  | m + 1, W, v, .mk k l x ks e, h => by
    obtain ⟨h1, h2, h3, h4, h5, h6, h7, h8, h9, h10, h11, h12, h13⟩ := h
    refine ⟨h1, h2, h3, h4, h5, h6, h7, h8, h9, h10, h11, h12, fun i y hy => ?_⟩
    obtain ⟨b, o, d, ha, hp, hb, hc, hr⟩ := h13 i y hy
    exact ⟨b, o, d, ha, hpq b hp, hb, hc, NRep.mono hpq hr⟩
theorem NRep.up {P : Nat → Prop} {W : World} : ∀ (m : Nat) (v : ND) (t : NT), NRep P m W v t → NRep P (m + 1) W v t
  | 0, _, _, h => h.elim
  | m + 1, v, .mk k l x ks e, h => by
    obtain ⟨h1, h2, h3, h4, h5, h6, h7, h8, h9, h10, h11, h12, h13⟩ := h
    refine ⟨h1, h2, h3, h4, h5, h6, h7, h8, h9, h10, h11, h12, fun i y hy => ?_⟩
    obtain ⟨b, o, d, ha, hp, hb, hc, hr⟩ := h13 i y hy
    exact ⟨b, o, d, ha, hp, hb, hc, NRep.up m d y hr⟩
theorem NRep.ups {P : Nat → Prop} {W : World} {m : Nat} {v : ND} {t : NT} (h : NRep P m W v t) : ∀ n, m ≤ n → NRep P n W v t
  | 0, hn => by
    have : m = 0 := by omega
    subst this; exact h
  | n + 1, hn => by
    rcases Nat.lt_or_ge m (n + 1) with hlt | hge
    · exact NRep.up n v t (h.ups n (by omega))
    · have : m = n + 1 := by omega
      subst this; exact h
/-- A node's five parts, from its representation. -/
theorem NRep.parts {P : Nat → Prop} {m : Nat} {W : World} {v : ND} {t : NT} (h : NRep P m W v t) : ∃ m', m = m' + 1 ∧ v.k = t.k ∧ v.l = t.l ∧ v.x = t.x ∧ v.e = t.e ∧ v.n = t.ks.length ∧ v.n ≤ v.c ∧ v.c ≤ maxLen ∧ (Lit.int .i64 t.k).wf = true ∧ t.l.length ≤ maxLen ∧ t.x.length ≤ maxLen ∧ t.e.length ≤ maxLen ∧ (v.A = none → v.c = 0) ∧
    (∀ (i : Nat) (y : NT), t.ks[i]? = some y → ∃ (b o : Nat) (d : ND), v.A = some ⟨b, o, none⟩ ∧ P b ∧ b < W.heap.size ∧ NCells W b (o + i * 5) d ∧ NRep P m' W d y) := by
  match m, t, h with
  | m + 1, .mk k l x ks e, h =>
    obtain ⟨h1, h2, h3, h4, h5, h6, h7, h8, h9, h10, h11, h12, h13⟩ := h
    exact ⟨m, rfl, h1, h2, h3, h4, h5, h6, h7, h8, h9, h10, h11, h12, h13⟩

/- ## Plain functions -/
mutual
def lenF : NT → Nat
  | .mk _ l x ks e => l.length + x.length + e.length + lenL ks
def lenL : List NT → Nat
  | [] => 0
  | y :: r => lenF y + lenL r
end
mutual
def printF : NT → List UInt8
  | .mk _ l x ks e => l ++ x ++ printL ks ++ e
def printL : List NT → List UInt8
  | [] => []
  | y :: r => printF y ++ printL r
end
mutual
def countF : NT → Nat
  | .mk _ _ _ ks _ => 1 + countL ks
def countL : List NT → Nat
  | [] => 0
  | y :: r => countF y + countL r
end
mutual
def depthF : NT → Nat
  | .mk _ _ _ ks _ => depthL ks + 1
def depthL : List NT → Nat
  | [] => 0
  | y :: r => max (depthF y) (depthL r)
end
mutual
theorem printF_len : ∀ t : NT, (printF t).length = lenF t
  | .mk _ l x ks e => by
    rw [printF, lenF, List.length_append, List.length_append, List.length_append, printL_len ks]
    omega
theorem printL_len : ∀ l : List NT, (printL l).length = lenL l
  | [] => rfl
  | y :: r => by rw [printL, lenL, List.length_append, printF_len y, printL_len r]
end
mutual
def sameF : NT → NT → Bool
  | .mk k l x ks e, .mk k' l' x' ks' e' => if k = k' ∧ l = l' ∧ x = x' ∧ e = e' ∧ ks.length = ks'.length then sameL ks ks' else false
def sameL : List NT → List NT → Bool
  | y :: r, y' :: r' => if sameF y y' = true then sameL r r' else false
  | _, _ => true
end
mutual
theorem sameF_refl : ∀ t : NT, sameF t t = true
  | .mk k l x ks e => by rw [sameF, if_pos ⟨rfl, rfl, rfl, rfl, rfl⟩, sameL_refl ks]
theorem sameL_refl : ∀ l : List NT, sameL l l = true
  | [] => by rw [sameL]; intro _ _ _ _ h; cases h
  | y :: r => by rw [sameL, if_pos (sameF_refl y), sameL_refl r]
end
/- What Small finds. -/
mutual
def roomF : NT → Int → Int → Int → Int
  | .mk _ l x ks e, left, d, L => if d ≤ 0 ∨ left - 1 < ks.length ∨ L < l.length ∨ L < x.length ∨ L < e.length then -1 else roomL ks (left - 1) (d - 1) L
def roomL : List NT → Int → Int → Int → Int
  | [], left, _, _ => left
  | y :: r, left, d, L => if 0 ≤ left then roomL r (roomF y left d L) d L else left
end
theorem roomL_neg (l : List NT) (n d L : Int) (h : n < 0) : roomL l n d L = n := by
  cases l with
  | nil => rw [roomL]
  | cons x r => rw [roomL, if_neg (by omega)]
mutual
theorem roomF_le : ∀ (t : NT) (n d L : Int), -1 ≤ roomF t n d L ∧ (roomF t n d L ≤ n - 1 ∨ roomF t n d L = -1)
  | .mk k l x ks e, n, d, L => by
    rw [roomF]
    split
    · omega
    · have := roomL_le ks (n - 1) (d - 1) L (by omega)
      omega
theorem roomL_le : ∀ (l : List NT) (n d L : Int), -1 ≤ n → -1 ≤ roomL l n d L ∧ roomL l n d L ≤ n
  | [], n, d, L, h => by rw [roomL]; omega
  | y :: r, n, d, L, h => by
    rw [roomL]
    split
    · have h1 := roomF_le y n d L
      have h2 := roomL_le r (roomF y n d L) d L h1.1
      omega
    · omega
end
mutual
theorem roomF_ok : ∀ (t : NT) (n d L : Int), 0 ≤ roomF t n d L → (countF t : Int) ≤ n - roomF t n d L ∧ (depthF t : Int) ≤ d ∧ (lenF t : Int) ≤ countF t * (3 * L)
  | .mk k l x ks e, n, d, L, h => by
    rw [roomF] at h ⊢
    split at h
    · omega
    · rename_i hc
      rw [if_neg hc]
      have h1 := roomL_ok ks (n - 1) (d - 1) L h
      rw [countF, depthF, lenF]
      refine ⟨by omega, by omega, ?_⟩
      have h3 := h1.2.2
      have e1 : ((1 + countL ks : Nat) : Int) * (3 * L) = 3 * L + countL ks * (3 * L) := by
        rw [Int.natCast_add, Int.add_mul]; omega
      rw [e1]
      omega
theorem roomL_ok : ∀ (l : List NT) (n d L : Int), 0 ≤ roomL l n d L → (countL l : Int) ≤ n - roomL l n d L ∧ (depthL l : Int) ≤ max d 0 ∧ (lenL l : Int) ≤ countL l * (3 * L)
  | [], n, d, L, h => by
    rw [roomL, countL, depthL, lenL]; omega
  | y :: r, n, d, L, h => by
    rw [roomL] at h ⊢
    split at h
    · rename_i hn
      rw [if_pos hn]
      have h0 : 0 ≤ roomF y n d L := by
        rcases Int.lt_or_le (roomF y n d L) 0 with hl | hl
        · rw [roomL_neg _ _ _ _ hl] at h; exact h
        · exact hl
      have h1 := roomF_ok y n d L h0
      have h2 := roomL_ok r (roomF y n d L) d L h
      rw [countL, depthL, lenL]
      refine ⟨by omega, by omega, ?_⟩
      have e1 : ((countF y + countL r : Nat) : Int) * (3 * L) = countF y * (3 * L) + countL r * (3 * L) := by
        rw [Int.natCast_add, Int.add_mul]
      rw [e1]
      have h3 := h1.2.2
      have h4 := h2.2.2
      omega
    · omega
end
theorem countF_pos (t : NT) : 0 < countF t := by
  obtain ⟨k, l, x, ks, e⟩ := t
  rw [countF]; omega
theorem countL_length : ∀ l : List NT, l.length ≤ countL l
  | [] => Nat.zero_le _
  | y :: r => by
    have := countL_length r
    have := countF_pos y
    rw [countL, List.length_cons]; omega
theorem countL_get : ∀ (l : List NT) (i : Nat) (y : NT), l[i]? = some y → countL (l.take i) + countF y ≤ countL l
  | [], i, y, h => by simp at h
  | z :: r, 0, y, h => by
    simp only [List.getElem?_cons_zero, Option.some.injEq] at h
    subst h
    simp only [List.take_zero, countL]; omega
  | z :: r, i + 1, y, h => by
    have := countL_get r i y (by simpa using h)
    simp only [List.take_succ_cons, countL]; omega
theorem lenL_get : ∀ (l : List NT) (i : Nat) (y : NT), l[i]? = some y → lenL (l.take i) + lenF y ≤ lenL l
  | [], i, y, h => by simp at h
  | z :: r, 0, y, h => by
    simp only [List.getElem?_cons_zero, Option.some.injEq] at h
    subst h
    simp only [List.take_zero, lenL]; omega
  | z :: r, i + 1, y, h => by
    have := lenL_get r i y (by simpa using h)
    simp only [List.take_succ_cons, lenL]; omega
theorem depthL_get : ∀ (l : List NT) (i : Nat) (y : NT), l[i]? = some y → depthF y ≤ depthL l
  | [], i, y, h => by simp at h
  | z :: r, 0, y, h => by
    simp only [List.getElem?_cons_zero, Option.some.injEq] at h
    subst h
    rw [depthL]; omega
  | z :: r, i + 1, y, h => by
    have := depthL_get r i y (by simpa using h)
    rw [depthL]; omega
theorem lenF_eq (t : NT) : lenF t = t.l.length + t.x.length + t.e.length + lenL t.ks := by
  obtain ⟨k, l, x, ks, e⟩ := t; rw [lenF]; rfl
theorem countF_eq (t : NT) : countF t = 1 + countL t.ks := by
  obtain ⟨k, l, x, ks, e⟩ := t; rw [countF]; rfl
theorem depthF_eq (t : NT) : depthF t = depthL t.ks + 1 := by
  obtain ⟨k, l, x, ks, e⟩ := t; rw [depthF]; rfl
theorem printF_eq (t : NT) : printF t = t.l ++ t.x ++ printL t.ks ++ t.e := by
  obtain ⟨k, l, x, ks, e⟩ := t; rw [printF]; rfl
theorem roomF_eq (t : NT) (n d L : Int) : roomF t n d L = if d ≤ 0 ∨ n - 1 < t.ks.length ∨ L < t.l.length ∨ L < t.x.length ∨ L < t.e.length then -1 else roomL t.ks (n - 1) (d - 1) L := by
  obtain ⟨k, l, x, ks, e⟩ := t; rw [roomF]; rfl
theorem take_succ_at {α : Type} {l : List α} {j : Nat} {x : α} (h : l[j]? = some x) : l.take (j + 1) = l.take j ++ [x] := by
  rw [List.take_add_one, h]; rfl
theorem drop_at {α : Type} {l : List α} {j : Nat} {x : α} (h : l[j]? = some x) : l.drop j = x :: l.drop (j + 1) := by
  obtain ⟨hl, hx⟩ := List.getElem?_eq_some_iff.1 h
  rw [List.drop_eq_getElem_cons hl, hx]
theorem lenL_app : ∀ a b : List NT, lenL (a ++ b) = lenL a + lenL b
  | [], b => by simp [lenL]
  | y :: a, b => by rw [List.cons_append, lenL, lenL, lenL_app a b]; omega
theorem countL_app : ∀ a b : List NT, countL (a ++ b) = countL a + countL b
  | [], b => by simp [countL]
  | y :: a, b => by rw [List.cons_append, countL, countL, countL_app a b]; omega
theorem printL_app : ∀ a b : List NT, printL (a ++ b) = printL a ++ printL b
  | [], b => by simp [printL]
  | y :: a, b => by rw [List.cons_append, printL, printL, printL_app a b, List.append_assoc]
/- ## Check, as both reckon it: how many have been visited, and the first error -/
def leafB (k : Int) : Bool := decide (k = 2 ∨ k = 6 ∨ k = 10 ∨ k = 11)
mutual
def lookF : NT → Int → Int → Int × Int
  | .mk k _ _ ks e, d, s => if 192 < d then (s, 9) else if 524288 ≤ s then (s, 10) else if k < 1 ∨ 11 < k then (s, 6) else if leafB k = true ∧ (ks ≠ [] ∨ e ≠ []) then (s, 1) else lookL ks (d + 1) (s + 1)
def lookL : List NT → Int → Int → Int × Int
  | [], _, s => (s, 0)
  | y :: r, d, s => if (lookF y d s).2 ≠ 0 then lookF y d s else lookL r d (lookF y d s).1
end
theorem lookF_eq (t : NT) (d s : Int) : lookF t d s = if 192 < d then (s, 9) else if 524288 ≤ s then (s, 10) else if t.k < 1 ∨ 11 < t.k then (s, 6) else if leafB t.k = true ∧ (t.ks ≠ [] ∨ t.e ≠ []) then (s, 1) else lookL t.ks (d + 1) (s + 1) := by
  obtain ⟨k, l, x, ks, e⟩ := t; rw [lookF]; rfl
mutual
theorem lookF_seen : ∀ (t : NT) (d s : Int), s ≤ (lookF t d s).1 ∧ (lookF t d s).1 ≤ s + countF t
  | .mk k l x ks e, d, s => by
    rw [lookF, countF]
    have := lookL_seen ks (d + 1) (s + 1)
    split
    · simp only; omega
    · split
      · simp only; omega
      · split
        · simp only; omega
        · split
          · simp only; omega
          · omega
theorem lookL_seen : ∀ (l : List NT) (d s : Int), s ≤ (lookL l d s).1 ∧ (lookL l d s).1 ≤ s + countL l
  | [], d, s => by rw [lookL, countL]; simp only; omega
  | y :: r, d, s => by
    have h1 := lookF_seen y d s
    have h2 := lookL_seen r d (lookF y d s).1
    rw [lookL, countL]
    split <;> omega
end
def checkT (t : NT) : Int := if (lookF t 1 0).2 = 0 ∧ 1048576 < lenF t then 10 else (lookF t 1 0).2
def smallB (t : NT) (n d L : Int) : Bool := decide (0 ≤ roomF t n d L)
def fitB (t : NT) : Bool := smallB t 400 240 300 && decide (checkT t = 0)
/-- A call that returns this int and leaves old memory alone. -/
def RI (z : Int) (w : World) (e : Ending) (w' : World) : Prop := e = .returned (.int .i64 z) ∧ Gr w w'
end Go.Proofs.Ytbfnmgiccbdglaa
