/- Walks: a packet that is looked at; the example. -/
import Derived.Test.YtdgleplmmbkgfaaV17
import Derived.Test.YtdgleplmmbkgfaaV16w
import Derived.Test.YtdgleplmmbkgfaaV12
namespace Go.Proofs.Ytdgleplmmbkgfaa
open Go.RowKit
set_option maxRecDepth 100000

set_option maxHeartbeats 1000000 in
theorem few_any (P : Pk) (A : Option Addr) (n c k : Nat) (w : World) (hk : k = min n 1100) (hc : n ≤ c) (hc2 : c ≤ 9223372036854775807) : Calls Try.prog 7 #[pkV P A n c] w fun e w' => e = .returned (pkV (fwP P) A k c) ∧ New w w' := by
  obtain ⟨kd, fl, pa, sr, ds, cn, sq, pl, bb⟩ := P
  by_cases h : n ≤ 1100
  · obtain rfl : k = n := by omega
    have s1 := run_cut_h (P := Try.prog) 23 5 1 Try.underlying23 size_u8 A k c k k rfl (by omega) .i64
    have hi : (k : Int) ≤ 1100 := by omega
    clear hk
    go_enter Try.func7, Try.ntmps7
    go_wp2_with fail
    all_goals first | (exfalso; omega) | skip
    refine bodyPost_ret (v := .agg #[.int .i64 kd, .int .i64 fl, .int .i64 pa, .int .i64 sr, .int .i64 ds, .int .i64 cn, .int .i64 sq, .int .i64 pl, .slice A k c]) (by simp [results, Try.results7, go_sem]) rfl ⟨rfl, by (repeat (first | exact Ext.refl _ _ | assumption | apply Ext.alloc | apply Ext.drewN | apply Ext.drew | refine Ext.setCell ?_ (fun h => by first | rfl | exact absurd h (by dsimp only; omega)) _))⟩
  · obtain rfl : k = 1100 := by omega
    have s1 := run_cut_h (P := Try.prog) 23 5 1 Try.underlying23 size_u8 A n c 1100 1100 rfl (by omega) .i64
    have hi : ¬ (n : Int) ≤ 1100 := by omega
    clear hk
    go_enter Try.func7, Try.ntmps7
    go_wp2_with fail
    all_goals first | (exfalso; omega) | skip
    refine bodyPost_ret (v := .agg #[.int .i64 kd, .int .i64 fl, .int .i64 pa, .int .i64 sr, .int .i64 ds, .int .i64 cn, .int .i64 sq, .int .i64 pl, .slice A 1100 c]) (by simp [results, Try.results7, go_sem]) rfl ⟨rfl, by (repeat (first | exact Ext.refl _ _ | assumption | apply Ext.alloc | apply Ext.drewN | apply Ext.drew | refine Ext.setCell ?_ (fun h => by first | rfl | exact absurd h (by dsimp only; omega)) _))⟩
end Go.Proofs.Ytdgleplmmbkgfaa
