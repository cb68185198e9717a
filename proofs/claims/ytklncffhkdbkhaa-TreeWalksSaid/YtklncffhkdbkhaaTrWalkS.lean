/- Walk of tree: an iterator that hands over each node with its indices. -/
import Derived.Test.YtklncffhkdbkhaaTrWalk
namespace Go.Proofs.Ytklncffhkdbkhaa
open Go.ChangeShapes Go.WideShapes Go.ChangeAt Go.RowKit
open Go.Shelf
attribute [local go_sem] Oper.semAt_some

set_option maxRecDepth 100000 in
set_option maxHeartbeats 4000000 in
theorem walks_ok (k Bk Bn m : Nat) (d : ND) (t : NT) (w : World) (hb : NBox w Bn d) (hr : NRep (fun b => b < Bk) m w d t) (hd : depthF t ≤ 1000000) (hc : countF t ≤ 1000000) :
    SeqOk k Try.prog 38 #[.pointer (some ⟨Bn, 0, none⟩)] encW (OkW (walkN t [])) (KeepT Bk) (fun xs => xs.length = countF t) (fun _ => True) w := by
  intro l J Jx W hW hJ hY h0
  have hG : Gr w W := hW
  have hbW := hb.gr hG
  have hrW := NRep.keepT (KeepT.gr hG) m d t hr
  have hcall := walk_in (walkN t []) Bk l W.heap.size J Jx hJ (fun k' pre x W1 h1 h2 => (by
    obtain ⟨fn, tmps, assign, body, hy, hR⟩ := hY pre x W1 h1 h2
    exact ⟨fn, tmps, assign, body, hy, ⟨hR.1, fun c cs _ => hR.2 c cs (fun d h => by cases h)⟩⟩)) m d t (k - 1) [] W none 0 0 [] hrW h0 (RowI.nil W) (by omega) hc (fun j e he => by simpa using he)
  have HC := Lib.hid hcall
  obtain ⟨k0, k1, k2, k3, k4⟩ := hbW.cells
  have hlb := lt_of_block hbW
  clear hcall hY hJ h0 hb hr hbW hrW
  refine callsIn_of_wp Try.func38 rfl trivial ?_ rfl
  simp only [Try.ntmps38, List.size_toArray, List.length_cons, List.length_nil, Nat.reduceAdd, Nat.reduceSub, Array.replicate_succ, Array.replicate_zero, List.push_toArray, List.append_toArray, List.nil_append, List.cons_append]
  gi_wp2
  refine ⟨trivial, (fun h => by cases h), ?_⟩
  refine HC.out.mono ?_
  rintro e W5 (⟨rfl, ⟨xs, hxl, hJ5⟩, hk5⟩ | ⟨rfl, q, hx5⟩)
  · have HXL := Lib.hid hxl
    clear hxl
    gi_wp2
    go_end0
    exact ⟨⟨_, rfl⟩, .inl ⟨xs, HXL.out, by simpa using hJ5⟩⟩
  · gi_wp2
    go_end0
    exact ⟨⟨_, rfl⟩, .inr ⟨q, trivial, by simpa using hx5⟩⟩
set_option maxRecDepth 100000 in
set_option maxHeartbeats 4000000 in
theorem walkP_in (k : Nat) (v : ND) (w : World) : CallsIn Fence.wide k Try.prog 12 #[.agg #[.int .i64 v.k, .string (bs v.l), .string (bs v.x), .slice v.A v.n v.c, .string (bs v.e)]] w fun e w' => e = .returned (.func (.func 38) #[] #[.pointer (some ⟨w.heap.size, 0, none⟩)]) ∧ w' = w.alloc (.cells #[.int .i64 v.k, .string (bs v.l), .string (bs v.x), .slice v.A v.n v.c, .string (bs v.e)] 24) := by
  refine callsIn_of_wp Try.func12 rfl trivial ?_ rfl
  simp only [Try.ntmps12, List.size_toArray, List.length_cons, List.length_nil, Nat.reduceAdd, Nat.reduceSub, Array.replicate_succ, Array.replicate_zero, List.push_toArray, List.append_toArray, List.nil_append, List.cons_append]
  gi_wp2
  go_ret
  exact ⟨rfl, rfl⟩
end Go.Proofs.Ytklncffhkdbkhaa
