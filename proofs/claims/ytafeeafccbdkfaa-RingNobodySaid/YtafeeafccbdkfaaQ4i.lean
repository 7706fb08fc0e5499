/- The ring's iterator over ints: its contract. -/
import Derived.Test.YtafeeafccbdkfaaQ2i
import Derived.Test.YtafeeafccbdkfaaQ3
namespace Go.Proofs.Ytafeeafccbdkfaa
open Go.RowKit Go.Shelf
attribute [local go_sem] Oper.semAt_some
set_option maxRecDepth 100000

def pri (xs : List Int) (j : Nat) : Nat × Int := (j, xs[j]?.getD 0)
def eni (x : Nat × Int) : Array Value := #[.int .i64 (x.1 : Int), Value.int .i64 x.2]

set_option maxHeartbeats 2000000 in
theorem all1_i (l q B T p : Nat) (A : Option Addr) (n c : Nat) (xs : List Int) (room : Nat) (J Jx : List (Nat × Int) → World → Prop) (W : World) (hB : B < T) (hT : T ≤ W.heap.size) (hrow : ∀ k, rowAt W B k → k < W.heap.size)
    (hq : W.cell? ⟨q, 0, none⟩ = some (.pointer (some ⟨p, 0, none⟩))) (hring : Rngi W p A n c xs room) (hJ : AbidesFrom W.heap.size J)
    (hY : ∀ pre x W1, J pre W1 → pre.length < n → YieldAt Fence.wide 8 Try.prog l (eni x) W1 fun e W' => (e = .returned (.bool true) ∧ J (pre ++ [x]) W' ∧ KpB B T W1 W') ∨ (e = .returned (.bool false) ∧ Jx (pre ++ [x]) W'))
    (h0 : J [] W) :
    CallsIn Fence.wide 9 Try.prog 43 #[.func (.yield l) #[] #[], .pointer (some ⟨q, 0, none⟩)] W fun e W' => (∃ v, e = .returned v) ∧ (J (upto (pri xs) n) W' ∨ ∃ k, k ≤ n ∧ Jx (upto (pri xs) k) W') := by
  have hlen := hring.len
  have hr2 := hring.r2
  have hle := hring.le
  have c0 := hring.c0
  refine callsIn_of_wp Try.func43 rfl trivial ?_ rfl
  simp only [Try.ntmps43, List.size_toArray, List.length_cons, List.length_nil, Nat.reduceAdd, Nat.reduceSub, Array.replicate_succ, Array.replicate_zero, List.push_toArray, List.append_toArray, List.nil_append, List.cons_append]
  have HL := hide hlen
  clear hlen
  gi_wp2_with (first | (refine ⟨trivial, ?_⟩; gi_at_call 30; refine (callsIn_wide.2 (none_i p A n c xs room _ hring)).mono ?_; rintro e w1 ⟨rfl, rfl⟩) | (refine ⟨trivial, ?_⟩; gi_at_call 41; refine (callsIn_wide.2 (clone_i A n c _ _ hring.own.rd (by omega))).mono ?_; rintro e w2 ⟨A2, c2, rfl, ho2, hn2⟩))
  have hJ2 : J [] w2 := hJ _ _ _ none h0 hn2.grown (fun r e => by cases e)
  have hrow2 : ∀ k, rowAt w2 B k → k < W.heap.size := fun k hk => hrow k (rowAt.new hn2 (by omega) hk)
  gi_loopw [14] (fun s14 wr => ∃ k : Nat, k ≤ n ∧ s14 = .int .i64 k ∧ J (upto (pri xs) k) wr ∧ (∀ i, inA A2 i → wr.heap[i]? = w2.heap[i]? ∧ ¬ rowAt wr B i)) (fun i _ => n - (intOf i).toNat)
  case atStart => exact ⟨0, Nat.zero_le _, rfl, hJ2, fun i hi => ⟨rfl, fun hr => by have := hrow2 i hr; have := (ho2.at_ hi).1; omega⟩⟩
  case round =>
    obtain ⟨k, hk, rfl, hJk, hkeep⟩ := hrel
    by_cases hlt : k < n
    · obtain ⟨ad, rfl⟩ := ho2.rd.some (by omega)
      have hx : xs[k]? = some (xs[k]?.getD 0) := by
        rw [List.getElem?_eq_getElem (by rw [HL.out]; exact hlt)]; rfl
      have hcx2 := ho2.rd.celli hx
      have hkb := hkeep ad.block ⟨ad, rfl, rfl⟩
      have hcx : wr.cell? (ad.add k) = some (Value.int .i64 (xs[k]?.getD 0)) := by rw [World.cell?_of_block (w := w2) (by rw [add_block]; exact hkb.1)]; exact hcx2
      obtain ⟨fn, tmps, assign, body, hy, hR⟩ := hY _ (pri xs k) wr hJk (by rw [upto_length]; exact hlt)
      dsimp only [eni, pri] at hy
      have HX := hide hx
      clear hx
      gi_wp2
      refine hR.mono ?_
      rintro e W3 (⟨rfl, hJ3, hk3⟩ | ⟨rfl, hJx3⟩)
      · gi_wp2
        go_roundw
        case rel => exact ⟨k + 1, by omega, by simp, by rw [upto_succ]; exact hJ3, fun i hi => by
          have h1 := hkeep i hi
          obtain ⟨o, ho, hc⟩ := ho2.cells hi
          have hol : i < wr.heap.size := blk_lt (h1.1.trans ho)
          exact ⟨(hk3.same i o (by have := (ho2.at_ hi).1; omega) h1.2 (h1.1.trans ho) hc).trans ho.symm, fun hr => h1.2 (hk3.row i hr hol)⟩⟩
        case measure => simp [intOf]; omega
      · gi_wp2
        refine bodyPost_ret (results_none rfl _ _ _) rfl ?_
        exact ⟨⟨_, rfl⟩, .inr ⟨k + 1, by omega, by rw [upto_succ]; exact hJx3⟩⟩
    · obtain rfl : k = n := by omega
      gi_wp2
      go_end0
      exact ⟨⟨_, rfl⟩, .inl hJk⟩
end Go.Proofs.Ytafeeafccbdkfaa
