/- Walks. -/
import Derived.Test.YtdgleplmmbkgfaaC1
namespace Go.Proofs.Ytdgleplmmbkgfaa
open Go.RowKit
set_option maxRecDepth 100000

/-- The first k of a number's bytes, the highest first. -/
def putL (size : Nat) (n : Int) (k : Nat) : List Int := (List.range k).map fun j => n / 2 ^ (8 * (size - 1 - j)) % 256
theorem putL_succ (size : Nat) (n : Int) (k : Nat) : putL size n (k + 1) = putL size n k ++ [n / 2 ^ (8 * (size - 1 - k)) % 256] := by
  simp [putL, List.range_succ]
theorem putL_length (size : Nat) (n : Int) (k : Nat) : (putL size n k).length = k := by simp [putL]

set_option maxHeartbeats 400000 in
theorem put_yes (A : Option Addr) (m c : Nat) (xs : List Value) (size : Nat) (n : Int) (w : World) (hr : Rd w 1 A m c xs) (hn : m ≤ 140737488355000) (h1 : 1 ≤ size) (h8 : size ≤ 8) :
    Calls Try.prog 23 #[.slice A m c, .int .i64 size, .int .u64 n] w fun e w' => ∃ A' c', e = .returned (.slice A' (m + size) c') ∧ Own w' w.heap.size 5 1 A' (m + size) c' (xs ++ bts (putL size n size)) ∧ New w w' := by
  go_enter Try.func23, Try.ntmps23
  go_wp2_with (first | (go_at_call 41; refine (clone_any A m c xs _ hr (by omega)).mono ?_; rintro e w1 ⟨A1, c1, rfl, ho1, hn1⟩) | (go_at_call 42; refine (may_yes _ _ (by omega) (by omega)).mono ?_; rintro e w2 ⟨rfl, rfl⟩))
  go_loopw [7, 8] (fun v i wr => ∃ (k : Nat) (A' : Option Addr) (c' : Nat), k ≤ size ∧ i = .int .i64 ((size : Int) - 1 - k) ∧ v = .slice A' (m + k) c' ∧ Own wr w.heap.size 5 1 A' (m + k) c' (xs ++ bts (putL size n k)) ∧ New w wr) (fun _ i _ => (intOf i + 1).toNat)
  case atStart => exact ⟨0, A1, c1, Nat.zero_le _, by simp, rfl, by simpa [putL, bts] using ho1, hn1⟩
  case round =>
    obtain ⟨k, A', c', hk, rfl, rfl, ho, hnew⟩ := hrel
    by_cases hlt : k < size
    · have hd : decide ((k : Int) ≤ (size : Int) - 1) = true := decide_eq_true (by omega)
      go_wp2_with (at_builtin; refine wpList_app rfl _ _ _ rfl w.heap.size 5 (.int .u8 0) 1 1 Try.underlying23 info_u8 rfl (by decide) (by decide) rfl rfl (ho.new (New.alloc1 _ _)) (rd_box _ _ _ rfl) (by omega) (by have := hnew.size; simp; omega) ?_; intro A2 c2 w2 ho2 he2 hA2)
      go_roundw
      case rel => exact ⟨k + 1, A2, c2, by omega, by go_num, rfl, by rw [putL_succ, ← bts_snoc, ← List.append_assoc]; exact ho2, new_app hnew ho _ he2⟩
      case measure => simp [intOf]; omega
    · have hd : decide ((k : Int) ≤ (size : Int) - 1) = false := decide_eq_false (by omega)
      go_wp2
      go_ret
      obtain rfl : k = size := by omega
      exact ⟨A', c', rfl, ho, hnew⟩

set_option maxHeartbeats 400000 in
theorem put_no (A : Option Addr) (m c : Nat) (xs : List Value) (size : Int) (n : Int) (w : World) (hr : Rd w 1 A m c xs) (hn : m ≤ 140737488355000) (h : size < 1 ∨ 8 < size) :
    Calls Try.prog 23 #[.slice A m c, .int .i64 size, .int .u64 n] w fun e w' => ∃ A' c', e = .returned (.slice A' m c') ∧ Own w' w.heap.size 5 1 A' m c' xs ∧ New w w' := by
  go_enter Try.func23, Try.ntmps23
  go_wp2_with (first | (go_at_call 41; refine (clone_any A m c xs _ hr (by omega)).mono ?_; rintro e w1 ⟨A1, c1, rfl, ho1, hn1⟩) | (go_at_call 42; refine (may_no _ _ h).mono ?_; rintro e w2 ⟨rfl, rfl⟩))
  go_ret
  exact ⟨A1, c1, rfl, ho1, hn1⟩
end Go.Proofs.Ytdgleplmmbkgfaa
