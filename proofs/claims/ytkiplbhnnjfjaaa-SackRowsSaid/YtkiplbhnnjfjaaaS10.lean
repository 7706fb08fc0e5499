/- Walks: slices.Grow of nothing, slices.Concat of two. -/
import Derived.Test.YtkiplbhnnjfjaaaS9
import Derived.Lib.AppendZeros
namespace Go.Proofs.Ytkiplbhnnjfjaaa
set_option linter.unusedVariables false
set_option linter.unusedSimpArgs false
open Go.RowKit
set_option maxRecDepth 100000

set_option maxHeartbeats 800000 in
theorem grow_zero (w : World) : Calls Try.prog 67 #[.slice none 0 0, .int .i64 0] w fun e w' => e = .returned (.slice none 0 0) ∧ w = w' := by
  go_enter Try.func67, Try.ntmps67
  go_wp2
  go_ret
  exact ⟨rfl, rfl⟩
set_option maxHeartbeats 800000 in
theorem grow_any (n : Nat) (w : World) (h0 : 0 < n) (hn : n ≤ 1000000) :
    Calls Try.prog 67 #[.slice none 0 0, .int .i64 n] w fun e w' => ∃ A' c', e = .returned (.slice A' 0 c') ∧ Own w' w.heap.size 30 2 A' 0 c' [] ∧ New w w' := by
  have d0 : decide ((n : Int) < 0) = false := decide_eq_false (by omega)
  have d1 : decide (0 < (n : Int)) = true := decide_eq_true (by omega)
  obtain ⟨i, hi, hz⟩ := Option.map_eq_some_iff.1 info_p
  simp only [Prod.mk.injEq] at hz
  obtain ⟨hz1, hz2, hz3⟩ := hz
  have hrun := fun (ty : TypeId) => Lib.run_append_nil_zeros (P := Try.prog) w 23 3 ty 30 i (.agg #[.int .i64 0, .int .i64 0]) .i64 .i64 Try.underlying23 Try.underlying3 hi hz1 n h0 (by omega) (by omega) (by rw [hz3]; omega)
  have hg := grownCap_ge w n 0 30
  have hm := grownCap_le_maxLen w n 0 30 (by unfold maxLen; omega)
  obtain ⟨C, hC⟩ : ∃ C, C = grownCap w n 0 30 := ⟨_, rfl⟩
  rw [← hC] at hg hm
  have s1 := run_cut_h (P := Try.prog) 23 30 2 Try.underlying23 size_p (some ⟨w.heap.size, 0, none⟩) n C 0 0 rfl (Nat.zero_le _) .i64
  have s2 := run_cut_h (P := Try.prog) 23 30 2 Try.underlying23 size_p none 0 0 0 0 rfl (Nat.zero_le _) .i64
  have HR := hide hrun
  have HC := hide hC
  have HI := hide hi
  clear hrun hC hi hz1 hz2 hz3
  go_enter Try.func67, Try.ntmps67
  go_wp2_with (at_builtin; refine Lib.wpList_append_run _ rfl _ _ _ _ rfl _ _ rfl rfl _ _ (HR.out _) ?_; rw [← HC.out])
  go_ret
  have ho : Own (w.alloc (.cells (Builtin.zeroCells #[.int .i64 0, .int .i64 0] n ++ Builtin.zeroCells #[.int .i64 0, .int .i64 0] (C - n)) 30)) w.heap.size 30 2 (some ⟨w.heap.size, 0, none⟩) 0 C [] :=
    ⟨⟨rfl, .inr ⟨w.heap.size, C, _, rfl, Nat.le_refl _, blk_new w _, Nat.zero_le _, hm, by rw [Array.size_append, size_zeroCells, size_zeroCells]; simp; omega, by simp⟩⟩, (fun _ h => by cases h)⟩
  exact ⟨_, C, rfl, ho.new (by (repeat (first | exact Ext.refl _ _ | assumption | apply Ext.alloc | apply Ext.drewN | apply Ext.drew | refine Ext.setCell ?_ (fun h => by first | rfl | exact absurd h (by dsimp only; omega)) _))), by (repeat (first | exact Ext.refl _ _ | assumption | apply Ext.alloc | apply Ext.drewN | apply Ext.drew | refine Ext.setCell ?_ (fun h => by first | rfl | exact absurd h (by dsimp only; omega)) _))⟩

theorem grow_all (n : Nat) (w : World) (hn : n ≤ 1000000) :
    Calls Try.prog 67 #[.slice none 0 0, .int .i64 n] w fun e w' => ∃ A' c', e = .returned (.slice A' 0 c') ∧ Own w' w.heap.size 30 2 A' 0 c' [] ∧ New w w' := by
  by_cases h : 0 < n
  · exact grow_any n w h hn
  · obtain rfl : n = 0 := by omega
    refine (grow_zero w).mono ?_
    rintro e w' ⟨rfl, rfl⟩
    exact ⟨none, 0, rfl, Own.nil _ _ _ _, Ext.refl _ _⟩

set_option maxHeartbeats 2000000 in
theorem concat_two (ad : Addr) (c : Nat) (a1 : Option Addr) (n1 c1 : Nat) (x1 : List Value) (a2 : Option Addr) (n2 c2 : Nat) (x2 : List Value) (w : World) (hr : Rd w 1 (some ad) 2 c [.slice a1 n1 c1, .slice a2 n2 c2]) (h1 : Rd w 2 a1 n1 c1 x1) (h2 : Rd w 2 a2 n2 c2 x2) (hn : n1 + n2 ≤ 1000000) :
    Calls Try.prog 50 #[.slice (some ad) 2 c] w fun e w' => ∃ A' c', e = .returned (.slice A' (n1 + n2) c') ∧ Own w' w.heap.size 30 2 A' (n1 + n2) c' (x1 ++ x2) ∧ New w w' := by
  have k0 : w.cell? ad = some (.slice a1 n1 c1) := by have := hr.cell ad rfl 0 _ rfl; simpa [Addr.add] using this
  have k1 : w.cell? (ad.add 1) = some (.slice a2 n2 c2) := hr.cell ad rfl 1 _ rfl
  go_enter Try.func50, Try.ntmps50
  go_wp2_with fail
  go_loop [3, 11] (fun s3 s11 => (s11 = .int .i64 0 ∧ s3 = .int .i64 0) ∨ (s11 = .int .i64 1 ∧ s3 = .int .i64 n1) ∨ (s11 = .int .i64 2 ∧ s3 = .int .i64 ((n1 + n2 : Nat) : Int))) (fun _ i => 2 - (intOf i).toNat)
  case atStart => exact .inl ⟨rfl, rfl⟩
  case round =>
    rcases hrel with ⟨rfl, rfl⟩ | ⟨rfl, rfl⟩ | ⟨rfl, rfl⟩
    · have d : decide ((n1 : Int) < 0) = false := decide_eq_false (by omega)
      go_wp2_with fail
      exact ⟨.inr (.inl ⟨rfl, rfl⟩), by simp [intOf]⟩
    · have d : decide ((n1 : Int) + n2 < 0) = false := decide_eq_false (by omega)
      have k1' : w.cell? ⟨ad.block, ad.off + 1, none⟩ = some (.slice a2 n2 c2) := by have := k1; rwa [show ad.add 1 = ⟨ad.block, ad.off + 1, none⟩ by unfold Addr.add; rw [if_neg (by omega)]] at this
      go_wp2_with fail
      exact ⟨.inr (.inr ⟨rfl, by go_num⟩), by simp [intOf]⟩
    · go_wp2_with fail
      refine (grow_all (n1 + n2) w hn).mono ?_
      rintro e w1 ⟨A1, c1', rfl, ho1, hn1⟩
      have hw1 := hn1.size
      have h1' := h1.new hn1
      have h2' := h2.new hn1
      go_wp2_with fail
      go_loopw [6, 27] (fun s6 s27 wr => New w wr ∧ ((s27 = .int .i64 0 ∧ ∃ A' c', s6 = .slice A' 0 c' ∧ Own wr w.heap.size 30 2 A' 0 c' []) ∨ (s27 = .int .i64 1 ∧ ∃ A' c', s6 = .slice A' n1 c' ∧ Own wr w.heap.size 30 2 A' n1 c' x1) ∨ (s27 = .int .i64 2 ∧ ∃ A' c', s6 = .slice A' (n1 + n2) c' ∧ Own wr w.heap.size 30 2 A' (n1 + n2) c' (x1 ++ x2)))) (fun _ i _ => 2 - (intOf i).toNat)
      case atStart => exact ⟨hn1, .inl ⟨rfl, _, _, rfl, ho1⟩⟩
      case round =>
        obtain ⟨hnr, ⟨rfl, A', c', rfl, ho⟩ | ⟨rfl, A', c', rfl, ho⟩ | ⟨rfl, A', c', rfl, ho⟩⟩ := hrel
        · have hws := hnr.size
          have q0 : wr.cell? ad = some (.slice a1 n1 c1) := (World.cell?_of_block (hnr.block _ (World.block_lt_of_cell? w _ k0) (fun h => h))).trans k0
          go_wp2_with (at_builtin; refine app_p rfl _ _ rfl w.heap.size rfl rfl ho (h1.new hnr) (by omega) hws ?_; intro A2 c2' w2 ho2 he2 hA2)
          rw [Nat.zero_add, List.nil_append] at ho2
          exact ⟨⟨new_app0 hnr ho he2, .inr (.inl ⟨rfl, A2, c2', by first | rfl | (rw [Nat.zero_add]), ho2⟩)⟩, by simp [intOf]⟩
        · have hws := hnr.size
          have k1' : w.cell? ⟨ad.block, ad.off + 1, none⟩ = some (.slice a2 n2 c2) := by have := k1; rwa [show ad.add 1 = ⟨ad.block, ad.off + 1, none⟩ by unfold Addr.add; rw [if_neg (by omega)]] at this
          have q1 : wr.cell? ⟨ad.block, ad.off + 1, none⟩ = some (.slice a2 n2 c2) := (World.cell?_of_block (hnr.block _ (World.block_lt_of_cell? w _ k1') (fun h => h))).trans k1'
          go_wp2_with (at_builtin; refine app_p rfl _ _ rfl w.heap.size rfl rfl ho (h2.new hnr) (by omega) hws ?_; intro A2 c2' w2 ho2 he2 hA2)
          exact ⟨⟨new_app0 hnr ho he2, .inr (.inr ⟨rfl, A2, c2', rfl, ho2⟩)⟩, by simp [intOf]⟩
        · go_wp2_with fail
          go_ret
          exact ⟨A', c', rfl, ho, hnr⟩
end Go.Proofs.Ytkiplbhnnjfjaaa
