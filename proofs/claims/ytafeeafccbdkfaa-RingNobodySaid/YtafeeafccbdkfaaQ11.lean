/- Walks: the example. -/
import Derived.Test.YtafeeafccbdkfaaQ10
namespace Go.Proofs.Ytafeeafccbdkfaa
open Go.RowKit
set_option maxRecDepth 100000

theorem new_lit_i (r : Int) (room : Nat) (w : World) (e : r = room) (h1 : 1 ≤ room) (h2 : room ≤ 1024) :
    Calls Try.prog 8 #[.int .i64 r] w fun e w' => e = .returned (.tuple #[.pointer (some ⟨w.heap.size, 0, none⟩), .int .i64 0]) ∧ Rngi w' w.heap.size none 0 0 [] room ∧ New w w' := by
  subst e
  exact new_i room w h1 h2
/-- A written-out row of numbers. -/
theorem rd_ints (w : World) (l : List Int) (hn : l.length ≤ 4096) : Rd (w.alloc (.cells (vsi l).toArray 3)) 1 (some ⟨w.heap.size, 0, none⟩) l.length l.length (vsi l) :=
  rd_lit w 3 1 l.length (vsi l).toArray (by omega) (by simp [vsi]) (by intro u hu; simp [vsi] at hu; obtain ⟨_, _, rfl⟩ := hu; rfl)

theorem tch_ge {w : World} {q : Nat} {A : Option Addr} (h : ∀ k, inA A k → q ≤ k) : ∀ k, k < w.heap.size → Tch q A k → q ≤ k := by
  rintro k _ (rfl | hk)
  · exact Nat.le_refl _
  · exact h k hk

set_option maxHeartbeats 2000000 in
theorem awake_any (w : World) : Calls Try.prog 10 #[] w fun e w' => e = .returned (.bool true) ∧ New w w' := by
  go_enter Try.func10, Try.ntmps10
  go_wp2_with fail
  refine (new_lit_i 3 3 _ rfl (by omega) (by omega)).mono ?_
  rintro e w1 ⟨rfl, hr1, hn1⟩
  go_wp2_with fail
  refine (push_i _ none 0 0 [] 3 _ 3 3 [1, 2, 3] _ (hr1.new (New.alloc1 _ _)) (rd_ints w1 [1, 2, 3] (by decide)) (by omega)).mono ?_
  rintro e w2 ⟨A2, c2, rfl, hr2, he2, hf2⟩
  go_wp2_with fail
  refine (rotate_yes _ A2 _ c2 _ 3 (-1) _ hr2 (by omega) (by decide)).mono ?_
  rintro e w3 ⟨A3, c3, rfl, hr3, he3, hf3⟩
  have r1 : rotK (0 + 3) (-1) = 2 := by decide
  have r2 : rotL ([] ++ [1, 2, 3]) 2 = ([3, 1, 2] : List Int) := by decide
  rw [r1, r2] at hr3
  rw [r1]
  clear r1 r2
  go_wp2_with fail
  refine (pop_i _ A3 _ c3 3 [1, 2] 3 _ hr3).mono ?_
  rintro e w4 ⟨A4, c4, rfl, hr4, he4, hf4⟩
  go_wp2_with fail
  refine (list_i _ A4 _ c4 [1, 2] 3 _ hr4).mono ?_
  rintro e w5 ⟨A5, c5, rfl, ho5, hn5⟩
  go_wp2_with fail
  refine (same_any A5 _ _ c5 2 2 [1, 2] [1, 2] _ (ho5.rd.new (New.alloc1 _ _)) (rd_ints w5 [1, 2] (by decide))).mono ?_
  rintro e w6 ⟨rfl, nd, rfl⟩
  rw [decide_eq_true (rfl : ([1, 2] : List Int) = [1, 2])]
  go_wp2_with fail
  have hn56 : New w5 ((w5.alloc (.cells (vsi [1, 2]).toArray 3)).drewN nd) := by (repeat (first | exact Ext.refl _ _ | assumption | apply Ext.alloc | apply Ext.drewN | apply Ext.drew | refine Ext.setCell ?_ (fun h => by first | rfl | exact absurd h (by dsimp only; omega)) _))
  refine (room_any _ A4 _ c4 [1, 2] 3 _ (hr4.new (hn5.then hn56))).mono ?_
  rintro e w7 ⟨rfl, nd7, rfl⟩
  go_wp2_with fail
  go_ret
  refine ⟨rfl, ?_⟩
  have q2 : Ext (fun k => w.heap.size ≤ k) w w2 := (hn1.to.trans ((New.alloc1 w1 _).to.trans (he2.mono (tch_ge (fun k hk => absurd hk (inA_none k)))) (fun _ _ h => h)) (fun _ _ h => h))
  have q3 := q2.trans (he3.mono (tch_ge (fun k hk => by have := (hr2.own.at_ hk).1; omega))) (fun _ _ h => h)
  have q4 := q3.trans (he4.mono (tch_ge (fun k hk => by have := (hr3.own.at_ hk).1; omega))) (fun _ _ h => h)
  have q5 : Ext (fun k => w.heap.size ≤ k) w w5 := q4.trans hn5.to (fun _ _ h => h)
  have q6 : Ext (fun k => w.heap.size ≤ k) w ((w5.alloc (.cells (vsi [1, 2]).toArray 3)).drewN (nd + nd7)) := (q5.alloc _).drewN _
  exact q6.mono (fun k hk h => absurd hk (by omega))
end Go.Proofs.Ytafeeafccbdkfaa
