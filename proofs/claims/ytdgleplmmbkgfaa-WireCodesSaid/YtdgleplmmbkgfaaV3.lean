/- Walks: which packets may be. -/
import Derived.Test.YtdgleplmmbkgfaaV2
namespace Go.Proofs.Ytdgleplmmbkgfaa
open Go.RowKit
set_option maxRecDepth 100000

set_option maxHeartbeats 2000000 in
theorem data_b (P : Pk) (A : Option Addr) (n c : Nat) (b : Bool) (w : World) (h : dataB P.fl P.pl n = b) : Calls Try.prog 37 #[pkV P A n c] w fun e w' => e = .returned (.bool b) ∧ New w w' := by
  obtain ⟨kd, fl, pa, sr, ds, cn, sq, pl, bb⟩ := P
  dsimp only at h
  unfold dataB at h
  cases h1 : inB fl 0 63 with
  | false =>
    rw [h1] at h
    simp only [Bool.false_and] at h
    subst h
    go_enter Try.func37, Try.ntmps37
    go_wp2_with fail
    refine (in_b _ _ _ _ _ h1).mono ?_
    rintro e w1 ⟨rfl, rfl⟩
    go_wp2_with fail
    go_ret
    exact ⟨rfl, by (repeat (first | exact Ext.refl _ _ | assumption | apply Ext.alloc | apply Ext.drewN | apply Ext.drew | refine Ext.setCell ?_ (fun h => by first | rfl | exact absurd h (by dsimp only; omega)) _))⟩
  | true =>
    obtain ⟨hf0, hf1⟩ := inB_iff.1 h1
    rw [h1] at h
    by_cases h2 : pl = 0
    · have e2 : (pl != 0) = false := by simp [h2]
      rw [decide_eq_true h2] at h
      clear h2
      cases h16 : hs fl 16 <;> cases h8 : hs fl 8 <;> cases h4 : hs fl 4 <;> cases hh2 : hs fl 2 <;> (rw [h16, h8, h4, hh2] at h; simp only [Bool.true_and, Bool.and_true, Bool.not_true, Bool.not_false, Bool.false_and, Bool.and_false, Bool.or_true, Bool.or_false, Bool.false_or, Bool.true_or, if_true, if_false, Bool.false_eq_true, reduceIte] at h)
      all_goals
        first | (obtain rfl : b = false := h.symm) | skip
        try (have hn0 : inB n 0 0 = b := by
              rw [← h]
              unfold inB
              by_cases e : n = 0
              · simp [e]
              · have e' : decide ((n : Int) ≤ 0) = false := decide_eq_false (by omega)
                rw [e', decide_eq_false e]
                simp)
        go_enter Try.func37, Try.ntmps37
        go_wp2_with fail
        refine (in_b _ _ _ _ _ h1).mono ?_
        rintro e w1 ⟨rfl, rfl⟩
        repeat (go_wp2_with fail; first | ((with_reducible refine (has_b _ 16 _ _ hf0 hf1 (by omega) h16).mono ?_); rintro e w1 ⟨rfl, rfl⟩) | ((with_reducible refine (has_b _ 8 _ _ hf0 hf1 (by omega) h8).mono ?_); rintro e w1 ⟨rfl, rfl⟩) | ((with_reducible refine (has_b _ 4 _ _ hf0 hf1 (by omega) h4).mono ?_); rintro e w1 ⟨rfl, rfl⟩) | ((with_reducible refine (has_b _ 2 _ _ hf0 hf1 (by omega) hh2).mono ?_); rintro e w1 ⟨rfl, rfl⟩))
        all_goals go_wp2_with fail
        first
          | (refine (in_b _ _ _ _ _ h).mono ?_; rintro e w1 ⟨rfl, rfl⟩; go_wp2_with fail; go_ret; exact ⟨rfl, by (repeat (first | exact Ext.refl _ _ | assumption | apply Ext.alloc | apply Ext.drewN | apply Ext.drew | refine Ext.setCell ?_ (fun h => by first | rfl | exact absurd h (by dsimp only; omega)) _))⟩)
          | (refine (in_b _ _ _ _ _ hn0).mono ?_; rintro e w1 ⟨rfl, rfl⟩; go_wp2_with fail; go_ret; exact ⟨rfl, by (repeat (first | exact Ext.refl _ _ | assumption | apply Ext.alloc | apply Ext.drewN | apply Ext.drew | refine Ext.setCell ?_ (fun h => by first | rfl | exact absurd h (by dsimp only; omega)) _))⟩)
          | (go_ret; exact ⟨rfl, by (repeat (first | exact Ext.refl _ _ | assumption | apply Ext.alloc | apply Ext.drewN | apply Ext.drew | refine Ext.setCell ?_ (fun h => by first | rfl | exact absurd h (by dsimp only; omega)) _))⟩)
    · have e2 : (pl != 0) = true := by simp [h2]
      rw [decide_eq_false h2] at h
      simp only [Bool.true_and, Bool.false_and] at h
      subst h
      clear h2
      go_enter Try.func37, Try.ntmps37
      go_wp2_with fail
      refine (in_b _ _ _ _ _ h1).mono ?_
      rintro e w1 ⟨rfl, rfl⟩
      go_wp2_with fail
      go_ret
      exact ⟨rfl, by (repeat (first | exact Ext.refl _ _ | assumption | apply Ext.alloc | apply Ext.drewN | apply Ext.drew | refine Ext.setCell ?_ (fun h => by first | rfl | exact absurd h (by dsimp only; omega)) _))⟩
end Go.Proofs.Ytdgleplmmbkgfaa
