/- Walks: the least number that did not come goes on. -/
import Derived.Test.YtconaojkonjheaaT3
namespace Go.Proofs.Ytconaojkonjheaa
open Go.RowKit Go.Maps
set_option maxRecDepth 100000

theorem wf64 {n : Int} (h1 : -9223372036854775808 ≤ n) (h2 : n ≤ 9223372036854775807) : (Lit.int .i64 n).wf = true := by
  exact WalkArith.wf_i64 ⟨h1, h2⟩

set_option maxHeartbeats 2000000 in
theorem goes_any (p b : Nat) (xs : List Int) (came rep reo ext late held : Int) (h : Value) (next M0 : Nat) (w : World)
    (hb : MBk w p came rep reo ext late held (.map (some b)) h next) (hs : ISet w b xs) (hK : next ≤ M0) (hno : (M0 : Int) ∉ xs) (hin : ∀ k : Nat, next ≤ k → k < M0 → (k : Int) ∈ xs) (hK6 : M0 ≤ 1000000) :
    Calls Try.prog 52 #[.pointer (some ⟨p, 0, none⟩)] w fun e w' => e = .returned (.tuple #[]) ∧ MBk w' p came rep reo ext late held (.map (some b)) h M0 ∧ Ext (fun k => k = p) w w' := by
  have hbp : b ≠ p := fun e => by
    subst e
    obtain ⟨D, ⟨es, clock, h1, _⟩, _⟩ := hs
    rw [show w.heap[b]? = _ from hb] at h1
    cases h1
  have HNO := hide hno
  have HIN := hide hin
  clear hno hin
  go_enter Try.func52, Try.ntmps52
  go_wp2_with fail
  go_loopg [3] (M0 - next) (fun g _ wr => ∃ k : Nat, next ≤ k ∧ k ≤ M0 ∧ g = M0 - k ∧ MBk wr p came rep reo ext late held (.map (some b)) h k ∧ Ext (fun k => k = p) w wr)
  case atStart => exact ⟨next, Nat.le_refl _, hK, rfl, hb, Ext.refl _ _⟩
  case round =>
    obtain ⟨k, hk1, hk2, hg, hbk, he⟩ := hrel
    have HG := hide hg
    clear hg
    have hsk := hs.keep he hbp
    have q6 : ∀ x : Lat (fun _ => False) wr, x.W.cell? ⟨p, 6, none⟩ = some (.map (some b)) := fun x => (blk_cell (New.keep x.ext hbk) 6).trans rfl
    have q8 : ∀ x : Lat (fun _ => False) wr, x.W.cell? ⟨p, 8, none⟩ = some (.int .i64 k) := fun x => (blk_cell (New.keep x.ext hbk) 8).trans rfl
    have hwf : (Lit.int .i64 (k : Int)).wf = true := wf64 (by omega) (by omega)
    have ql : ∀ x : Lat (fun _ => False) wr, (Instr.lookup 52 (.map (some b)) (.int .i64 k) true).run Try.prog x.W = .ok (.tuple #[.agg #[], .bool (decide ((k : Int) ∈ xs))]) x.W := fun x => (hsk.new x.ext).look hwf
    by_cases hkx : (k : Int) ∈ xs
    · have hlt : k < M0 := by
        rcases Nat.lt_or_ge k M0 with h | h
        · exact h
        · obtain rfl : k = M0 := by omega
          exact absurd hkx HNO.out
      have hd := decide_eq_true hkx
      simp only [hd] at ql
      clear hd hkx
      go_wp2_with fail
      refine mix_start (fun _ => False) wr (by kernel_rfl) ?_
      refine mix_batch [0, 1, 2, 3, 4, 5, 6, 7, 8, 9, 10, 11] (by kernel_rfl) 3 _ _ _ (by kernel_rfl) (lat_mem (by (repeat (first | exact Ext.refl _ _ | assumption | apply Ext.alloc | apply Ext.drewN | apply Ext.drew | refine Ext.setCell ?_ (fun h => by first | rfl | exact absurd h (by dsimp only; omega)) _)))) ?_
      simp only [pickOps, List.getD_cons_zero, List.getD_cons_succ]
      repeat (go_big_quiet_step (fail))
      refine wpQuiet_nil ?_
      refine mix_loud (i := 12) (by kernel_rfl) rfl (fun K hK => ?_)
      go_simp
      refine hK.out _ _ (lat_mem (by (repeat (first | exact Ext.refl _ _ | assumption | apply Ext.alloc | apply Ext.drewN | apply Ext.drew | refine Ext.setCell ?_ (fun h => by first | rfl | exact absurd h (by dsimp only; omega)) _)))) ?_
      clear hK
      refine mix_loud (i := 13) (by kernel_rfl) rfl (fun K hK => ?_)
      go_simp
      refine hK.out _ _ (lat_mem (by (repeat (first | exact Ext.refl _ _ | assumption | apply Ext.alloc | apply Ext.drewN | apply Ext.drew | refine Ext.setCell ?_ (fun h => by first | rfl | exact absurd h (by dsimp only; omega)) _)))) ?_
      clear hK
      refine mix_batch [14] (by kernel_rfl) 0 _ _ _ (by kernel_rfl) (lat_mem (by (repeat (first | exact Ext.refl _ _ | assumption | apply Ext.alloc | apply Ext.drewN | apply Ext.drew | refine Ext.setCell ?_ (fun h => by first | rfl | exact absurd h (by dsimp only; omega)) _)))) ?_
      simp only [pickOps, List.getD_cons_zero, List.getD_cons_succ]
      repeat (go_big_quiet_step (fail))
      refine wpQuiet_nil ?_
      refine wpAnyH_done (by kernel_rfl) (NoPanic.normal ?_) _
      clear q6 q8 ql
      have hn1 : New wr (wr.alloc (.cells #[] 70)).drew := by (repeat (first | exact Ext.refl _ _ | assumption | apply Ext.alloc | apply Ext.drewN | apply Ext.drew | refine Ext.setCell ?_ (fun h => by first | rfl | exact absurd h (by dsimp only; omega)) _))
      have hb1 := hn1.keep hbk
      have c8 := (blk_cell hb1 8).trans rfl
      have f8 := blk_free hb1 8
      go_wp2_with fail
      go_roundg (M0 - (k + 1))
      case measure => have := HG.out; omega
      case rel =>
        refine ⟨k + 1, by omega, by omega, rfl, blk_set hb1 8 (.int .i64 ((k + 1 : Nat) : Int)), ?_⟩
        exact (he.trans hn1.to (fun _ _ h => h)).set (by rfl)
    · have hkk : k = M0 := by
        rcases Nat.lt_or_ge k M0 with h | h
        · exact absurd (HIN.out k hk1 h) hkx
        · omega
      have HKK := hide hkk
      have hd := decide_eq_false hkx
      simp only [hd] at ql
      clear hd hkx hkk
      go_wp2_with fail
      refine mix_start (fun _ => False) wr (by kernel_rfl) ?_
      refine mix_batch [0, 1, 2, 3, 4, 5, 6, 7, 8, 9, 10, 11] (by kernel_rfl) 3 _ _ _ (by kernel_rfl) (lat_mem (by (repeat (first | exact Ext.refl _ _ | assumption | apply Ext.alloc | apply Ext.drewN | apply Ext.drew | refine Ext.setCell ?_ (fun h => by first | rfl | exact absurd h (by dsimp only; omega)) _)))) ?_
      simp only [pickOps, List.getD_cons_zero, List.getD_cons_succ]
      repeat (go_big_quiet_step (fail))
      refine wpQuiet_nil ?_
      refine mix_loud (i := 12) (by kernel_rfl) rfl (fun K hK => ?_)
      go_simp
      refine hK.out _ _ (lat_mem (by (repeat (first | exact Ext.refl _ _ | assumption | apply Ext.alloc | apply Ext.drewN | apply Ext.drew | refine Ext.setCell ?_ (fun h => by first | rfl | exact absurd h (by dsimp only; omega)) _)))) ?_
      clear hK
      refine mix_loud (i := 13) (by kernel_rfl) rfl (fun K hK => ?_)
      go_simp
      refine hK.out _ _ (lat_mem (by (repeat (first | exact Ext.refl _ _ | assumption | apply Ext.alloc | apply Ext.drewN | apply Ext.drew | refine Ext.setCell ?_ (fun h => by first | rfl | exact absurd h (by dsimp only; omega)) _)))) ?_
      clear hK
      refine mix_batch [14] (by kernel_rfl) 0 _ _ _ (by kernel_rfl) (lat_mem (by (repeat (first | exact Ext.refl _ _ | assumption | apply Ext.alloc | apply Ext.drewN | apply Ext.drew | refine Ext.setCell ?_ (fun h => by first | rfl | exact absurd h (by dsimp only; omega)) _)))) ?_
      simp only [pickOps, List.getD_cons_zero, List.getD_cons_succ]
      repeat (go_big_quiet_step (fail))
      refine wpQuiet_nil ?_
      refine wpAnyH_done (by kernel_rfl) (NoPanic.normal ?_) _
      clear q6 q8 ql
      have hn1 : New wr (wr.alloc (.cells #[] 70)).drew := by (repeat (first | exact Ext.refl _ _ | assumption | apply Ext.alloc | apply Ext.drewN | apply Ext.drew | refine Ext.setCell ?_ (fun h => by first | rfl | exact absurd h (by dsimp only; omega)) _))
      have hb1 := hn1.keep hbk
      go_wp2_with fail
      refine bodyPost_ret (results_none rfl _ _ _) rfl ?_
      have hkk := HKK.out
      subst hkk
      exact ⟨rfl, hb1, he.trans hn1.to (fun _ _ h => h)⟩
end Go.Proofs.Ytconaojkonjheaa
