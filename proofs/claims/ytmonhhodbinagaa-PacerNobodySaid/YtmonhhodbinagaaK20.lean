/- The law on pacers that nobody made. -/
import Derived.Test.YtmonhhodbinagaaK12
import Derived.Test.YtmonhhodbinagaaW
namespace Go.Proofs.Ytmonhhodbinagaa
open Go.RowKit Go.Maps
set_option maxRecDepth 100000

/-- No pacer, or the zero one. -/
def DeadP (w : World) (q : Option Addr) : Prop := q = none ∨ ∃ p, q = some ⟨p, 0, none⟩ ∧ w.heap[p]? = some (.cells #[.map none, .pointer none, .pointer none, .int .i64 0, .int .i64 0, .int .i64 0] 69)
theorem DeadP.new {w w' : World} {q : Option Addr} (h : DeadP w q) (hn : New w w') : DeadP w' q := by
  rcases h with h | ⟨p, h1, h2⟩
  · exact .inl h
  · exact .inr ⟨p, h1, hn.keep h2⟩
theorem eql_mapnil0 (W : World) : (binOp .eql 65 (.map none) (.map none)).run Try.prog W = .ok (.bool true) W := by
  first | rfl | kernel_rfl | simp [binOp]
theorem none_dp (q : Option Addr) (w : World) (h : DeadP w q) : Calls Try.prog 27 #[.pointer q] w fun e w' => e = .returned (.bool true) ∧ w = w' := by
  rcases h with rfl | ⟨p, rfl, hb⟩
  · go_enter Try.func27, Try.ntmps27
    go_wp2_with fail
    go_ret
    exact ⟨rfl, rfl⟩
  · have c0 := (blk_cell hb 0).trans rfl
    have kn := eql_mapnil0
    go_enter Try.func27, Try.ntmps27
    go_wp2_with fail
    go_ret
    exact ⟨rfl, rfl⟩
section
variable (q : Option Addr) (a b : Int) (w : World) (h : DeadP w q)
include h
theorem know_dp (c : Int) : Calls Try.prog 10 #[.pointer q, .agg #[.int .i64 a, .int .i64 b], .int .i64 c] w fun e w' => e = .returned (.int .i64 4) ∧ New w w' := by
  go_enter Try.func10, Try.ntmps10
  go_wp2_with fail
  refine (none_dp q _ (h.new (New.alloc1 _ _))).mono ?_
  rintro e w1 ⟨rfl, rfl⟩
  go_wp2_with fail
  go_ret
  exact ⟨rfl, New.alloc1 _ _⟩
theorem owe_dp (c : Int) : Calls Try.prog 11 #[.pointer q, .agg #[.int .i64 a, .int .i64 b], .int .i64 c] w fun e w' => e = .returned (.int .i64 4) ∧ New w w' := by
  go_enter Try.func11, Try.ntmps11
  go_wp2_with fail
  refine (none_dp q _ (h.new (New.alloc1 _ _))).mono ?_
  rintro e w1 ⟨rfl, rfl⟩
  go_wp2_with fail
  go_ret
  exact ⟨rfl, New.alloc1 _ _⟩
theorem pending_dp : Calls Try.prog 15 #[.pointer q, .agg #[.int .i64 a, .int .i64 b]] w fun e w' => e = .returned (.int .i64 0) ∧ New w w' := by
  go_enter Try.func15, Try.ntmps15
  go_wp2_with fail
  refine (none_dp q _ (h.new (New.alloc1 _ _))).mono ?_
  rintro e w1 ⟨rfl, rfl⟩
  go_wp2_with fail
  go_ret
  exact ⟨rfl, New.alloc1 _ _⟩
theorem issued_dp : Calls Try.prog 13 #[.pointer q, .agg #[.int .i64 a, .int .i64 b]] w fun e w' => e = .returned (.int .i64 0) ∧ New w w' := by
  go_enter Try.func13, Try.ntmps13
  go_wp2_with fail
  refine (none_dp q _ (h.new (New.alloc1 _ _))).mono ?_
  rintro e w1 ⟨rfl, rfl⟩
  go_wp2_with fail
  go_ret
  exact ⟨rfl, New.alloc1 _ _⟩
theorem forget_dp : Calls Try.prog 18 #[.pointer q, .agg #[.int .i64 a, .int .i64 b]] w fun e w' => e = .returned (.tuple #[.int .i64 0, .bool false]) ∧ New w w' := by
  go_enter Try.func18, Try.ntmps18
  go_wp2_with fail
  refine (none_dp q _ (h.new (New.alloc1 _ _))).mono ?_
  rintro e w1 ⟨rfl, rfl⟩
  go_wp2_with fail
  go_ret2
  exact ⟨rfl, New.alloc1 _ _⟩
theorem total_dp : Calls Try.prog 14 #[.pointer q] w fun e w' => e = .returned (.int .i64 0) ∧ w = w' := by
  go_enter Try.func14, Try.ntmps14
  go_wp2_with fail
  refine (none_dp q _ h).mono ?_
  rintro e w1 ⟨rfl, rfl⟩
  go_wp2_with fail
  go_ret
  exact ⟨rfl, rfl⟩
theorem len_dp : Calls Try.prog 22 #[.pointer q] w fun e w' => e = .returned (.int .i64 0) ∧ w = w' := by
  go_enter Try.func22, Try.ntmps22
  go_wp2_with fail
  refine (none_dp q _ h).mono ?_
  rintro e w1 ⟨rfl, rfl⟩
  go_wp2_with fail
  go_ret
  exact ⟨rfl, rfl⟩
theorem fork_dp : Calls Try.prog 17 #[.pointer q] w fun e w' => e = .returned (.pointer none) ∧ w = w' := by
  go_enter Try.func17, Try.ntmps17
  go_wp2_with fail
  refine (none_dp q _ h).mono ?_
  rintro e w1 ⟨rfl, rfl⟩
  go_wp2_with fail
  go_ret
  exact ⟨rfl, rfl⟩
theorem queue_dp (c : Int) : Calls Try.prog 25 #[.pointer q, .int .i64 c] w fun e w' => e = .returned (.slice none 0 0) ∧ w = w' := by
  go_enter Try.func25, Try.ntmps25
  go_wp2_with fail
  refine (none_dp q _ h).mono ?_
  rintro e w1 ⟨rfl, rfl⟩
  go_wp2_with fail
  go_ret
  exact ⟨rfl, rfl⟩
theorem tick_dp : Calls Try.prog 12 #[.pointer q] w fun e w' => e = .returned (.tuple #[.agg #[.int .i64 0, .int .i64 0, .int .i64 0], .bool false]) ∧ New w w' := by
  go_enter Try.func12, Try.ntmps12
  go_wp2_with fail
  refine (none_dp q _ (h.new (New.alloc1 _ _))).mono ?_
  rintro e w1 ⟨rfl, rfl⟩
  go_wp2_with fail
  refine bodyPost_ret (v := .tuple #[.agg #[.int .i64 0, .int .i64 0, .int .i64 0], .bool false]) (by simp [results, Try.results12, go_sem]) rfl ⟨rfl, by (repeat (first | exact Ext.refl _ _ | assumption | apply Ext.alloc | apply Ext.drewN | apply Ext.drew | refine Ext.setCell ?_ (fun h => by first | rfl | exact absurd h (by dsimp only; omega)) _))⟩
end
theorem of_k (a b : Int) (w : World) : Calls Try.prog 19 #[.agg #[.int .i64 a, .int .i64 b]] w fun e w' => e = .returned (.agg #[.int .i64 a, .int .i64 b]) ∧ New w w' := by
  go_enter Try.func19, Try.ntmps19
  go_wp2_with fail
  refine bodyPost_ret (v := .agg #[.int .i64 a, .int .i64 b]) (by simp [results, Try.results19, go_sem]) rfl ⟨rfl, by (repeat (first | exact Ext.refl _ _ | assumption | apply Ext.alloc | apply Ext.drewN | apply Ext.drew | refine Ext.setCell ?_ (fun h => by first | rfl | exact absurd h (by dsimp only; omega)) _))⟩
end Go.Proofs.Ytmonhhodbinagaa
