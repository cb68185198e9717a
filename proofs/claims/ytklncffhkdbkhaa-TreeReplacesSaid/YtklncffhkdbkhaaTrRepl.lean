/- A descendant replaced changes the text only in its span. -/
import Derived.Test.YtklncffhkdbkhaaTrPut
namespace Go.Proofs.Ytklncffhkdbkhaa
open Go.ChangeShapes Go.WideShapes Go.ChangeAt Go.RowKit

theorem printL_at {ks : List NT} {i : Nat} {z : NT} (h : ks[i]? = some z) : printL ks = printL (ks.take i) ++ printF z ++ printL (ks.drop (i + 1)) := by
  have h1 : ks = ks.take i ++ ks.drop i := (List.take_append_drop i ks).symm
  rw [drop_at h] at h1
  have h2 := congrArg printL h1
  rw [printL_app, printL] at h2
  rw [h2, List.append_assoc]
theorem printL_set {ks : List NT} {i : Nat} {z s : NT} (h : ks[i]? = some z) : printL (ks.set i s) = printL (ks.take i) ++ printF s ++ printL (ks.drop (i + 1)) := by
  have hi := (List.getElem?_eq_some_iff.1 h).1
  have h1 : (ks.set i s)[i]? = some s := List.getElem?_set_self hi
  rw [printL_at h1, List.take_set_of_le (Nat.le_refl _), List.drop_set_of_lt (by omega)]
theorem print_put (x : NT) : ∀ (zs : List Int) (t : NT) (p q : Nat) (y : NT), spanF t zs p = some (q, y) → p ≤ q ∧ q - p + lenF y ≤ lenF t ∧ printF (putF t zs x) = (printF t).take (q - p) ++ printF x ++ (printF t).drop (q - p + lenF y)
  | [], t, p, q, y, h => by
    rw [spanF] at h
    cases h
    rw [putF, Nat.sub_self, List.take_zero, Nat.zero_add, List.drop_of_length_le (by rw [printF_len]; exact Nat.le_refl _)]
    simp
  | i :: r, t, p, q, y, h => by
    by_cases hi : 0 ≤ i ∧ i < t.ks.length
    · obtain ⟨k, rfl⟩ := Int.eq_ofNat_of_zero_le hi.1
      have hk : t.ks[k]? = some (t.ks[k]'(by omega)) := List.getElem?_eq_getElem _
      generalize t.ks[k]'(by omega) = z at hk
      rw [spanF_go hk] at h
      obtain ⟨h1, h2, h3⟩ := print_put x r z _ q y h
      have hla := lenL_at hk
      refine ⟨by omega, by omega, ?_⟩
      rw [putF_go hk, printF_eq t, printF]
      rw [printL_set hk, printL_at hk, h3]
      obtain ⟨a, ha⟩ : ∃ a, a = t.l ++ t.x ++ printL (t.ks.take k) := ⟨_, rfl⟩
      have hal : a.length = t.l.length + t.x.length + lenL (t.ks.take k) := by rw [ha, List.length_append, List.length_append, printL_len]
      have hzl := printF_len z
      have e1 : t.l ++ t.x ++ (printL (t.ks.take k) ++ printF z ++ printL (t.ks.drop (k + 1))) ++ t.e = a ++ (printF z ++ (printL (t.ks.drop (k + 1)) ++ t.e)) := by rw [ha]; simp
      have e2 : t.l ++ t.x ++ (printL (t.ks.take k) ++ ((printF z).take (q - (p + t.l.length + t.x.length + lenL (t.ks.take k))) ++ printF x ++ (printF z).drop (q - (p + t.l.length + t.x.length + lenL (t.ks.take k)) + lenF y)) ++ printL (t.ks.drop (k + 1))) ++ t.e = a ++ (printF z).take (q - (p + t.l.length + t.x.length + lenL (t.ks.take k))) ++ printF x ++ ((printF z).drop (q - (p + t.l.length + t.x.length + lenL (t.ks.take k)) + lenF y) ++ (printL (t.ks.drop (k + 1)) ++ t.e)) := by rw [ha]; simp
      rw [e1, e2]
      have f1 : q - p = a.length + (q - (p + t.l.length + t.x.length + lenL (t.ks.take k))) := by omega
      rw [f1, List.take_append, List.take_of_length_le (l := a) (by omega), List.drop_append, List.drop_of_length_le (l := a) (by omega), List.nil_append]
      rw [show a.length + (q - (p + t.l.length + t.x.length + lenL (t.ks.take k))) - a.length = q - (p + t.l.length + t.x.length + lenL (t.ks.take k)) by omega]
      rw [show a.length + (q - (p + t.l.length + t.x.length + lenL (t.ks.take k))) + lenF y - a.length = q - (p + t.l.length + t.x.length + lenL (t.ks.take k)) + lenF y by omega]
      rw [List.take_append_of_le_length (by omega), List.drop_append_of_le_length (by omega)]
    · rw [spanF_bad (by omega)] at h
      cases h
theorem putF_len (x : NT) (zs : List Int) (t : NT) (q : Nat) (y : NT) (h : spanF t zs 0 = some (q, y)) : lenF (putF t zs x) ≤ lenF t + lenF x := by
  obtain ⟨_, h2, h3⟩ := print_put x zs t 0 q y h
  have h4 := congrArg List.length h3
  rw [List.length_append, List.length_append, printF_len, List.length_take, List.length_drop, printF_len, printF_len] at h4
  omega
theorem bs_extract (l : List UInt8) (a b : Nat) : (bs l).extract a b = bs ((l.drop a).take (b - a)) := by
  apply ByteArray.ext
  apply Array.ext'
  rw [ByteArray.data_extract, Array.toList_extract]
  rfl
theorem repl_eq {T X Y : List UInt8} {p q : Nat} (h : Y = T.take p ++ X ++ T.drop q) : ((bs Y).toList == ((bs T).extract 0 p ++ bs X ++ (bs T).extract q (bs T).size).toList) = true := by
  rw [bs_extract, bs_extract, bs_append, bs_append, List.drop_zero, Nat.sub_zero, bs_size, List.take_of_length_le (l := T.drop q) (by rw [List.length_drop]; exact Nat.le_refl _), ← h]
  exact beq_self_eq_true _
end Go.Proofs.Ytklncffhkdbkhaa
