/- Walks: flags, numbers, data. -/
import Derived.Test.YtdgleplmmbkgfaaV1
namespace Go.Proofs.Ytdgleplmmbkgfaa
open Go.RowKit
set_option maxRecDepth 100000

theorem in_b (n lo hi : Int) (b : Bool) (w : World) (h : inB n lo hi = b) : Calls Try.prog 36 #[.int .i64 n, .int .i64 lo, .int .i64 hi] w fun e w' => e = .returned (.bool b) ∧ w = w' := by
  unfold inB at h
  by_cases h1 : lo ≤ n
  · by_cases h2 : n ≤ hi
    · have e1 : decide (lo ≤ n) = true := decide_eq_true h1
      have e2 : decide (n ≤ hi) = true := decide_eq_true h2
      rw [e1, e2] at h
      subst h
      clear h1 h2
      go_enter Try.func36, Try.ntmps36
      go_wp2_with fail
      go_ret
      exact ⟨rfl, rfl⟩
    · have e1 : decide (lo ≤ n) = true := decide_eq_true h1
      have e2 : decide (n ≤ hi) = false := decide_eq_false h2
      rw [e1, e2] at h
      subst h
      clear h1 h2
      go_enter Try.func36, Try.ntmps36
      go_wp2_with fail
      go_ret
      exact ⟨rfl, rfl⟩
  · have e1 : decide (lo ≤ n) = false := decide_eq_false h1
    rw [e1, Bool.false_and] at h
    subst h
    clear h1
    go_enter Try.func36, Try.ntmps36
    go_wp2_with fail
    go_ret
    exact ⟨rfl, rfl⟩
theorem and_bit : ∀ fl : Fin 64, ∀ k : Fin 6, (bits .and .i64 ((fl.val : Nat) : Int) ((2 ^ k.val : Nat) : Int) != 0) = decide (((fl.val : Nat) : Int) / ((2 ^ k.val : Nat) : Int) % 2 = 1) := by decide +kernel
theorem has_bits (fl f : Int) (b : Bool) (h0 : 0 ≤ fl) (h1 : fl ≤ 63) (hf : f = 1 ∨ f = 2 ∨ f = 4 ∨ f = 8 ∨ f = 16 ∨ f = 32) (h : hs fl f = b) : (bits .and .i64 fl f != 0) = b := by
  obtain ⟨n, rfl⟩ := Int.eq_ofNat_of_zero_le h0
  have key : ∀ k : Fin 6, f = ((2 ^ k.val : Nat) : Int) → (bits .and .i64 (n : Int) f != 0) = b := fun k hk => by
    rw [hk, ← h, hk]
    exact and_bit ⟨n, by omega⟩ k
  rcases hf with rfl | rfl | rfl | rfl | rfl | rfl
  · exact key 0 rfl
  · exact key 1 rfl
  · exact key 2 rfl
  · exact key 3 rfl
  · exact key 4 rfl
  · exact key 5 rfl
set_option maxHeartbeats 400000 in
theorem has_b (fl f : Int) (b : Bool) (w : World) (h0 : 0 ≤ fl) (h1 : fl ≤ 63) (hf : f = 1 ∨ f = 2 ∨ f = 4 ∨ f = 8 ∨ f = 16 ∨ f = 32) (h : hs fl f = b) : Calls Try.prog 30 #[.int .i64 fl, .int .i64 f] w fun e w' => e = .returned (.bool b) ∧ w = w' := by
  have hb := has_bits fl f b h0 h1 hf h
  have e1 : decide (0 ≤ fl) = true := decide_eq_true h0
  clear h hf h1 h0
  go_enter Try.func30, Try.ntmps30
  go_wp2_with fail
  go_outline
  go_ret
  exact ⟨rfl, rfl⟩
end Go.Proofs.Ytdgleplmmbkgfaa
