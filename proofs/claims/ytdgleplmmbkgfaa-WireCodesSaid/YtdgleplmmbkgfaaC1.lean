/- Walks. -/
import Derived.Test.YtdgleplmmbkgfaaB
import Derived.Test.YtdgleplmmbkgfaaProg
namespace Go.Proofs.Ytdgleplmmbkgfaa
open Go.RowKit
set_option maxRecDepth 100000

theorem info_u8 : (Try.prog.info? 5).map (fun i => (i.zero, i.size, i.bytes)) = some (some (.int .u8 0), 1, 1) := by kernel_rfl

set_option maxHeartbeats 400000 in
theorem may_any (n : Int) (w : World) :
    Calls Try.prog 42 #[.int .i64 n] w fun e w' => e = .returned (.bool (decide (1 ≤ n) && decide (n ≤ 8))) ∧ w = w' := by
  by_cases h : 1 ≤ n
  · go_enter Try.func42, Try.ntmps42
    go_wp2
    go_ret
    simp [h]
  · go_enter Try.func42, Try.ntmps42
    go_wp2
    go_ret
    exact ⟨by rw [decide_eq_false (show ¬ 1 ≤ n by omega)]; rfl, rfl⟩

theorem may_yes (n : Int) (w : World) (h1 : 1 ≤ n) (h2 : n ≤ 8) : Calls Try.prog 42 #[.int .i64 n] w fun e w' => e = .returned (.bool true) ∧ w = w' :=
  (may_any n w).mono fun e w' ⟨he, hw⟩ => ⟨by rw [he, decide_eq_true h1, decide_eq_true h2]; rfl, hw⟩
theorem may_no (n : Int) (w : World) (h : n < 1 ∨ 8 < n) : Calls Try.prog 42 #[.int .i64 n] w fun e w' => e = .returned (.bool false) ∧ w = w' :=
  (may_any n w).mono fun e w' ⟨he, hw⟩ => ⟨by
    rw [he]
    rcases h with h | h
    · rw [decide_eq_false (show ¬ 1 ≤ n by omega)]; rfl
    · rw [decide_eq_false (show ¬ n ≤ 8 by omega), Bool.and_false], hw⟩

set_option maxHeartbeats 400000 in
theorem clone_any (A : Option Addr) (n c : Nat) (xs : List Value) (w : World) (hr : Rd w 1 A n c xs) (hn : n ≤ 140737488355328) :
    Calls Try.prog 41 #[.slice A n c] w fun e w' => ∃ A' c', e = .returned (.slice A' n c') ∧ Own w' w.heap.size 5 1 A' n c' xs ∧ New w w' := by
  have q1 := fun (W : World) => Lib.run_eql_slice_nil (P := Try.prog) W 23 5 A n c 0 0 Try.underlying23
  go_enter Try.func41, Try.ntmps41
  by_cases hA : A = none
  · have hn0 := hr.n0 hA
    subst hA
    subst hn0
    obtain rfl : xs = [] := List.eq_nil_of_length_eq_zero (by simpa using hr.len)
    go_wp2
    go_ret
    exact ⟨none, 0, rfl, Own.nil _ _ _ _, Ext.refl _ _⟩
  · have hi : A.isNone = false := by cases A <;> simp_all
    go_wp2_with (at_builtin; refine wpList_app rfl _ _ _ rfl w.heap.size 5 (.int .u8 0) 1 1 Try.underlying23 info_u8 rfl (by decide) (by decide) rfl rfl (Own.lit0 _ _ _ _ (Nat.le_refl _)) (hr.new (New.alloc1 _ _)) (by omega) (by simp) ?_; intro A' c' w' ho he hA')
    go_ret
    exact ⟨A', c', by simp, by simpa using ho, (New.alloc1 _ _).trans he (fun i hi h => by have := (inA_some _ _).1 h; simp at this; omega)⟩
end Go.Proofs.Ytdgleplmmbkgfaa
