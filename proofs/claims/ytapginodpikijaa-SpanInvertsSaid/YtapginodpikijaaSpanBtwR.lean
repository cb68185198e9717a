/- The reference's Between, walked. -/
import Derived.Test.YtapginodpikijaaSpanKept
namespace Go.Proofs.Ytapginodpikijaa
open Go.ChangeShapes Go.WideShapes Go.ChangeAt Go.RowKit
open Go.Lib hiding intOf

/-- The kept bytes in order within the other text. -/
def ChainK (lb : Nat) : Nat → List Int → Prop
  | t, [] => t ≤ lb
  | t, k :: r => if k < 0 then ChainK lb t r else t ≤ k.toNat ∧ k.toNat < lb ∧ ChainK lb (k.toNat + 1) r
theorem chainK_of (lb : Nat) : ∀ (ks : List Int) (i f t : Nat), Rise f t (kp i ks) → (∀ p ∈ kp i ks, p.2 < lb) → t ≤ lb → ChainK lb t ks
  | [], _, _, _, _, _, h => h
  | k :: r, i, f, t, h, hb, ht => by
    rw [kp] at h hb
    rw [ChainK]
    split at h
    · rename_i hk
      rw [if_pos hk] at hb ⊢
      exact chainK_of lb r _ _ _ h hb ht
    · rename_i hk
      rw [if_neg hk] at hb ⊢
      obtain ⟨h1, h2, h3⟩ := h
      have h4 := hb _ (List.mem_cons_self ..)
      exact ⟨h2, h4, chainK_of lb r _ _ _ h3 (fun p hp => hb p (List.mem_cons_of_mem _ hp)) h4⟩
def OwnE (w : World) (B : Nat) (v : Value) (n : Nat) (es : List EN) : Prop := w.ownsRow B 44 3 v n (es.flatMap EN.cells)
def BtwRRel (w : World) (b : List UInt8) (la : Nat) (ks : List Int) (vo fv tv iv : Value) (wr : World) : Prop :=
  ∃ (i f t : Nat) (es : List EN), i ≤ la + 1 ∧ iv = .int .i64 i ∧ fv = .int .i64 f ∧ tv = .int .i64 t ∧ OwnE wr w.heap.size vo es.length es ∧
    es ++ (if i ≤ la then btwK la b.length b i f t (ks.drop i) else []) = btwK la b.length b 0 0 0 ks ∧ (i ≤ la → ChainK b.length t (ks.drop i)) ∧ Gr w wr ∧ es.length ≤ i ∧ f ≤ la + 1 ∧ t ≤ b.length + 1 ∧ ∀ e ∈ es, e.small
/-- What a round adds. -/
def newE (b : List UInt8) (f t i k : Nat) : List EN := if f < i ∨ t < k then [⟨f, i, cut b t k⟩] else []
theorem btwK_neg {la lb : Nat} {b : List UInt8} {i f t : Nat} {k : Int} {r : List Int} (h : k < 0) : btwK la lb b i f t (k :: r) = btwK la lb b (i + 1) f t r := by
  rw [btwK, if_pos h]
theorem btwK_pos {la lb : Nat} {b : List UInt8} {i f t : Nat} {k : Nat} {r : List Int} : btwK la lb b i f t ((k : Int) :: r) = newE b f t i k ++ btwK la lb b (i + 1) (i + 1) (k + 1) r := by
  rw [btwK, if_neg (by omega)]
  rfl
theorem btwK_end {la lb : Nat} {b : List UInt8} {i f t : Nat} : btwK la lb b i f t [] = newE b f t la lb := rfl
theorem OwnE.snoc {w : World} {B : Nat} {v : Value} {es : List EN} {b : List UInt8} {f i t k : Nat} (h : w.ownsRow B 44 3 v (es.length + 1) (es.flatMap EN.cells ++ [.int .i64 f, .int .i64 i, .string ((bs b).extract t k)])) (hc : f < i ∨ t < k) : OwnE w B v (es ++ newE b f t i k).length (es ++ newE b f t i k) := by
  have h1 := edit_step h rfl
  unfold newE
  rw [if_pos hc]
  exact h1
theorem newE_small {b : List UInt8} {f t i k : Nat} (hf : f ≤ 4194304) (hi : i ≤ 4194304) (hk : k ≤ b.length) (hb : b.length ≤ 4194304) : ∀ e ∈ newE b f t i k, e.small := by
  intro e he
  unfold newE at he
  split at he
  · simp only [List.mem_singleton] at he
    subst he
    exact ⟨hf, hi, by show (cut b t k).length ≤ _; rw [cut_length _ _ _ hk]; omega⟩
  · cases he
theorem newE_len (b : List UInt8) (f t i k : Nat) : (newE b f t i k).length ≤ 1 := by
  unfold newE
  split <;> simp
set_option maxRecDepth 100000 in
set_option maxHeartbeats 8000000 in
theorem betweenRP_any (a b : List UInt8) (ks : List Int) (A : Option Addr) (len cap : Nat) (w : World) (hk : IntsAt .i64 w A len ks) (hla : ks.length = a.length) (hch : ChainK b.length 0 ks) (ha : a.length ≤ 2097152) (hb : b.length ≤ 2097152) :
    Calls Try.prog 32 #[.string (bs a), .string (bs b), .slice A len cap] w (BtwPost (btwK a.length b.length b 0 0 0 ks) w) := by
  have hsa : ((bs a).size : Int) = a.length := rfl
  have hsb : ((bs b).size : Int) = b.length := rfl
  have hkl : len = a.length := hk.1.symm.trans hla
  have HK := Lib.hid hk
  have HLA := Lib.hid hla
  have HCH := Lib.hid hch
  have HKL := Lib.hid hkl
  obtain ⟨i1, hy, hy0, hy1, hy2⟩ := info_parts infoEd
  clear hk hla hch hkl
  go_enter Try.func32, Try.ntmps32
  go_wp2_with fail
  go_loopw [7, 8, 9, 10] (fun vo fv tv iv wr => BtwRRel w b a.length ks vo fv tv iv wr) (fun _ _ _ iv _ => a.length + 1 - (intOf iv).toNat)
  case atStart => exact ⟨0, 0, 0, [], Nat.zero_le _, rfl, rfl, rfl, World.ownsRow_nil _ _ _ _, by simp, fun _ => HCH.out, Gr.refl _, Nat.le_refl _, Nat.zero_le _, Nat.zero_le _, fun _ h => by cases h⟩
  case round =>
    obtain ⟨i, f, t, es, hi, rfl, rfl, rfl, hown, hst, hch, hG, hel, hf, ht, hsm⟩ := hrel
    obtain ⟨A1, c1, rfl⟩ := own_form hown
    have HQ := Lib.hid hown
    have HST := Lib.hid hst
    have HSM := Lib.hid hsm
    have hw2 := Below.size hG
    clear hown hst hsm
    by_cases hlt : i < a.length
    · have hch2 := hch (by omega)
      have hst := HST.out
      obtain ⟨k, hgk⟩ : ∃ k, ks[i]? = some k := ⟨ks[i]'(by have := HLA.out; omega), List.getElem?_eq_getElem _⟩
      have hdr := drop_at hgk
      rw [if_pos (by omega)] at hst
      rw [hdr] at hch2 hst
      obtain ⟨h1, h2, h3⟩ := HK.out.keep hG
      obtain ⟨bk, off, rfl, hbk0, hcell⟩ := h3 (by have := HKL.out; omega)
      have hc := hcell i (by have := HKL.out; omega)
      rw [List.getD, hgk, Option.getD_some] at hc
      have hil : i < len := by have := HKL.out; omega
      rw [ChainK] at hch2
      clear h1 h2 h3 hcell hdr hch HST
      by_cases hneg : k < 0
      · rw [if_pos hneg] at hch2
        rw [btwK_neg hneg] at hst
        have HST := Lib.hid hst
        have HC2 := Lib.hid hch2
        clear hst hch2 hgk
        go_wp2_with fail
        go_roundw
        case rel => exact ⟨i + 1, f, t, es, by omega, by go_num, rfl, rfl, HQ.out, by rw [if_pos (by omega)]; exact HST.out, fun _ => HC2.out, hG, by omega, hf, ht, HSM.out⟩
        case measure => simp [intOf] <;> omega
      · rw [if_neg hneg] at hch2
        obtain ⟨K, rfl⟩ := Int.eq_ofNat_of_zero_le (show 0 ≤ k by omega)
        obtain ⟨hK1, hK2', hK3⟩ := hch2
        rw [btwK_pos] at hst
        have HST := Lib.hid hst
        have HC2 := Lib.hid hK3
        have hK1 : t ≤ K := hK1
        have hK2 : K ≤ b.length := by have : K < b.length := hK2'; omega
        clear hst hK3 hgk hK2'
        have hnl := newE_len b f t i K
        have HSM3 : Hid (∀ e ∈ es ++ newE b f t i K, e.small) := Lib.hid (fun e he => (List.mem_append.1 he).elim (HSM.out e) (newE_small (by omega) (by omega) hK2 (by omega) e))
        have hbk : K ≤ (bs b).size := hK2
        have hsi1 : (t : Int) ≤ (K : Int) ∨ ¬ (f < i ∨ t < K) := by omega
        have hsi2 : (K : Int) ≤ (b.length : Int) := by omega
        by_cases hc1 : f < i
        · have hc1' : (f : Int) < (i : Nat) := by omega
          go_wp2_with (at_builtin; go_must (refine wpList_append_own _ rfl (.tmp 38) (.tmp 47) 22 rfl w.heap.size 44 i1 _ 3 32 Try.underlying22 hy hy0 hy1 hy2 rfl (by decide) _ es.length (es.flatMap EN.cells) rfl (HQ.out.alloc _) ⟨wr.heap.size, 0, none⟩ 1 1 [.int .i64 f, .int .i64 i, .string ((bs b).extract t K)] rfl rfl (news_new (by simp)) (by simp [Value.oneCell']) (by unfold maxLen; omega) (by omega) (by simp; omega) ?_); intro v3 w3 hown3 hgrow3 _)
          have hG3 : Gr w w3 := Gr.grownOwn (hG.alloc _) hgrow3 (fun k hk => (HQ.out.lt k hk).1)
          have HO3 := Lib.hid (OwnE.snoc hown3 (by omega : f < i ∨ t < K))
          clear hown3 hgrow3
          go_roundw
          case rel => exact ⟨i + 1, i + 1, K + 1, es ++ newE b f t i K, by omega, by go_num, by go_num, by go_num, HO3.out, by rw [← HST.out]; rw [if_pos (by omega), List.append_assoc], fun _ => HC2.out, hG3, by rw [List.length_append]; omega, by omega, by omega, HSM3.out⟩
          case measure => simp [intOf] <;> omega
        · by_cases hc2 : t < K
          · go_wp2_with (at_builtin; go_must (refine wpList_append_own _ rfl (.tmp 38) (.tmp 47) 22 rfl w.heap.size 44 i1 _ 3 32 Try.underlying22 hy hy0 hy1 hy2 rfl (by decide) _ es.length (es.flatMap EN.cells) rfl (HQ.out.alloc _) ⟨wr.heap.size, 0, none⟩ 1 1 [.int .i64 f, .int .i64 i, .string ((bs b).extract t K)] rfl rfl (news_new (by simp)) (by simp [Value.oneCell']) (by unfold maxLen; omega) (by omega) (by simp; omega) ?_); intro v3 w3 hown3 hgrow3 _)
            have hG3 : Gr w w3 := Gr.grownOwn (hG.alloc _) hgrow3 (fun k hk => (HQ.out.lt k hk).1)
            have HO3 := Lib.hid (OwnE.snoc hown3 (by omega : f < i ∨ t < K))
            clear hown3 hgrow3
            go_roundw
            case rel => exact ⟨i + 1, i + 1, K + 1, es ++ newE b f t i K, by omega, by go_num, by go_num, by go_num, HO3.out, by rw [← HST.out]; rw [if_pos (by omega), List.append_assoc], fun _ => HC2.out, hG3, by rw [List.length_append]; omega, by omega, by omega, HSM3.out⟩
            case measure => simp [intOf] <;> omega
          · have hne : newE b f t i K = [] := by unfold newE; rw [if_neg (by omega)]
            have HNE := Lib.hid hne
            clear hne
            go_wp2_with fail
            go_roundw
            case rel => exact ⟨i + 1, i + 1, K + 1, es ++ newE b f t i K, by omega, by go_num, by go_num, by go_num, by rw [HNE.out, List.append_nil]; exact HQ.out, by rw [← HST.out]; rw [if_pos (by omega), List.append_assoc], fun _ => HC2.out, hG, by rw [List.length_append]; omega, by omega, by omega, HSM3.out⟩
            case measure => simp [intOf] <;> omega
    · by_cases hle : i = a.length
      · have hst := HST.out
        have hch2 := hch (by omega)
        rw [if_pos (by omega), List.drop_of_length_le (by have := HLA.out; omega), btwK_end] at hst
        rw [List.drop_of_length_le (by have := HLA.out; omega), ChainK] at hch2
        subst hle
        have HST := Lib.hid hst
        have hK1 : t ≤ b.length := hch2
        have hK2 : b.length ≤ b.length := Nat.le_refl _
        clear hst hch hch2 hlt
        have hnl := newE_len b f t a.length b.length
        have HSM3 : Hid (∀ e ∈ es ++ newE b f t a.length b.length, e.small) := Lib.hid (fun e he => (List.mem_append.1 he).elim (HSM.out e) (newE_small (by omega) (by omega) hK2 (by omega) e))
        have hbk : b.length ≤ (bs b).size := hK2
        have hsi1 : (t : Int) ≤ (b.length : Int) ∨ ¬ (f < a.length ∨ t < b.length) := by omega
        have hsi2 : (b.length : Int) ≤ (b.length : Int) := by omega
        by_cases hc1 : f < a.length
        · have hc1' : (f : Int) < (a.length : Nat) := by omega
          go_wp2_with (at_builtin; go_must (refine wpList_append_own _ rfl (.tmp 38) (.tmp 47) 22 rfl w.heap.size 44 i1 _ 3 32 Try.underlying22 hy hy0 hy1 hy2 rfl (by decide) _ es.length (es.flatMap EN.cells) rfl (HQ.out.alloc _) ⟨wr.heap.size, 0, none⟩ 1 1 [.int .i64 f, .int .i64 a.length, .string ((bs b).extract t b.length)] rfl rfl (news_new (by simp)) (by simp [Value.oneCell']) (by unfold maxLen; omega) (by omega) (by simp; omega) ?_); intro v3 w3 hown3 hgrow3 _)
          have hG3 : Gr w w3 := Gr.grownOwn (hG.alloc _) hgrow3 (fun k hk => (HQ.out.lt k hk).1)
          have HO3 := Lib.hid (OwnE.snoc hown3 (by omega : f < a.length ∨ t < b.length))
          clear hown3 hgrow3
          go_roundw
          case rel => exact ⟨a.length + 1, a.length + 1, b.length + 1, es ++ newE b f t a.length b.length, by omega, by go_num, by go_num, by go_num, HO3.out, by rw [← HST.out]; rw [if_neg (by omega), List.append_nil], fun h => absurd h (by omega), hG3, by rw [List.length_append]; omega, by omega, by omega, HSM3.out⟩
          case measure => simp [intOf] <;> omega
        · by_cases hc2 : t < b.length
          · go_wp2_with (at_builtin; go_must (refine wpList_append_own _ rfl (.tmp 38) (.tmp 47) 22 rfl w.heap.size 44 i1 _ 3 32 Try.underlying22 hy hy0 hy1 hy2 rfl (by decide) _ es.length (es.flatMap EN.cells) rfl (HQ.out.alloc _) ⟨wr.heap.size, 0, none⟩ 1 1 [.int .i64 f, .int .i64 a.length, .string ((bs b).extract t b.length)] rfl rfl (news_new (by simp)) (by simp [Value.oneCell']) (by unfold maxLen; omega) (by omega) (by simp; omega) ?_); intro v3 w3 hown3 hgrow3 _)
            have hG3 : Gr w w3 := Gr.grownOwn (hG.alloc _) hgrow3 (fun k hk => (HQ.out.lt k hk).1)
            have HO3 := Lib.hid (OwnE.snoc hown3 (by omega : f < a.length ∨ t < b.length))
            clear hown3 hgrow3
            go_roundw
            case rel => exact ⟨a.length + 1, a.length + 1, b.length + 1, es ++ newE b f t a.length b.length, by omega, by go_num, by go_num, by go_num, HO3.out, by rw [← HST.out]; rw [if_neg (by omega), List.append_nil], fun h => absurd h (by omega), hG3, by rw [List.length_append]; omega, by omega, by omega, HSM3.out⟩
            case measure => simp [intOf] <;> omega
          · have hne : newE b f t a.length b.length = [] := by unfold newE; rw [if_neg (by omega)]
            have HNE := Lib.hid hne
            clear hne
            go_wp2_with fail
            go_roundw
            case rel => exact ⟨a.length + 1, a.length + 1, b.length + 1, es ++ newE b f t a.length b.length, by omega, by go_num, by go_num, by go_num, by rw [HNE.out, List.append_nil]; exact HQ.out, by rw [← HST.out]; rw [if_neg (by omega), List.append_nil], fun h => absurd h (by omega), hG, by rw [List.length_append]; omega, by omega, by omega, HSM3.out⟩
            case measure => simp [intOf] <;> omega
      · have hst := HST.out
        rw [if_neg (by omega), List.append_nil] at hst
        have HS2 := Lib.hid hst
        clear hst hch
        go_wp2_with fail
        go_ret
        obtain ⟨A5, c5, hv5, h5, h6, h7⟩ := EditsAt.of_own HQ.out rfl HSM.out
        have hv6 : (Value.slice A1 es.length c1) = .slice A5 es.length c5 := hv5
        simp only [Value.slice.injEq] at hv6
        obtain ⟨rfl, _, rfl⟩ := hv6
        rw [← HS2.out]
        exact ⟨A1, _, c1, rfl, h5, h6, h7, hG⟩
end Go.Proofs.Ytapginodpikijaa
