/- Walks: the document's word on which packets may be. -/
import Derived.Test.YtdgleplmmbkgfaaV9
namespace Go.Proofs.Ytdgleplmmbkgfaa
open Go.RowKit
set_option maxRecDepth 100000

theorem within_b (n lo hi : Int) (b : Bool) (w : World) (h : inB n lo hi = b) : Calls Try.prog 39 #[.int .i64 n, .int .i64 lo, .int .i64 hi] w fun e w' => e = .returned (.bool b) ∧ w = w' := by
  unfold inB at h
  by_cases h1 : lo ≤ n
  · by_cases h2 : n ≤ hi
    · have e1 : decide (lo ≤ n) = true := decide_eq_true h1
      have e2 : decide (n ≤ hi) = true := decide_eq_true h2
      rw [e1, e2] at h
      subst h
      clear h1 h2
      go_enter Try.func39, Try.ntmps39
      go_wp2_with fail
      go_ret
      exact ⟨rfl, rfl⟩
    · have e1 : decide (lo ≤ n) = true := decide_eq_true h1
      have e2 : decide (n ≤ hi) = false := decide_eq_false h2
      rw [e1, e2] at h
      subst h
      clear h1 h2
      go_enter Try.func39, Try.ntmps39
      go_wp2_with fail
      go_ret
      exact ⟨rfl, rfl⟩
  · have e1 : decide (lo ≤ n) = false := decide_eq_false h1
    rw [e1, Bool.false_and] at h
    subst h
    clear h1
    go_enter Try.func39, Try.ntmps39
    go_wp2_with fail
    go_ret
    exact ⟨rfl, rfl⟩
theorem hs_eq (fl f : Int) (b : Bool) (h : hs fl f = b) : (fl / f % 2 == 1) = b := by
  rw [← h]
  unfold hs
  cases hd : decide (fl / f % 2 = 1)
  · simpa using hd
  · simpa using hd
set_option maxHeartbeats 400000 in
theorem rhas_b (fl f : Int) (b : Bool) (w : World) (h0 : 0 ≤ fl) (h1 : fl ≤ 63) (hf : f = 1 ∨ f = 2 ∨ f = 4 ∨ f = 8 ∨ f = 16 ∨ f = 32) (h : hs fl f = b) : Calls Try.prog 31 #[.int .i64 fl, .int .i64 f] w fun e w' => e = .returned (.bool b) ∧ w = w' := by
  have hb := hs_eq fl f b h
  have e1 : decide (0 ≤ fl) = true := decide_eq_true h0
  clear h
  rcases hf with rfl | rfl | rfl | rfl | rfl | rfl
  all_goals
    go_enter Try.func31, Try.ntmps31
    try simp only [Int.ediv_one] at hb
    go_wp2_with fail
    go_ret
    exact ⟨rfl, rfl⟩
set_option maxHeartbeats 4000000 in
theorem rdata_b (P : Pk) (A : Option Addr) (n c : Nat) (b : Bool) (w : World) (h : dataB P.fl P.pl n = b) : Calls Try.prog 40 #[pkV P A n c] w fun e w' => e = .returned (.bool b) ∧ New w w' := by
  obtain ⟨kd, fl, pa, sr, ds, cn, sq, pl, bb⟩ := P
  dsimp only at h
  unfold dataB at h
  cases h1 : inB fl 0 63 with
  | false =>
    rw [h1] at h
    simp only [Bool.false_and] at h
    subst h
    go_enter Try.func40, Try.ntmps40
    go_wp2_with fail
    refine (within_b _ _ _ _ _ h1).mono ?_
    rintro e w1 ⟨rfl, rfl⟩
    go_wp2_with fail
    go_ret
    exact ⟨rfl, by (repeat (first | exact Ext.refl _ _ | assumption | apply Ext.alloc | apply Ext.drewN | apply Ext.drew | refine Ext.setCell ?_ (fun h => by first | rfl | exact absurd h (by dsimp only; omega)) _))⟩
  | true =>
    obtain ⟨hf0, hf1⟩ := inB_iff.1 h1
    rw [h1] at h
    cases h2 : decide (pl = 0) <;> cases h16 : hs fl 16 <;> cases h8 : hs fl 8 <;> cases h4 : hs fl 4 <;> cases hh2 : hs fl 2 <;> (rw [h2, h16, h8, h4, hh2] at h; simp only [Bool.true_and, Bool.and_true, Bool.not_true, Bool.not_false, Bool.false_and, Bool.and_false, Bool.or_true, Bool.or_false, Bool.false_or, Bool.true_or, if_true, if_false, Bool.false_eq_true, reduceIte] at h; have e2 := dec_bne h2; simp only [Bool.not_true, Bool.not_false] at e2; clear h2)
    all_goals
      first | (obtain rfl : b = false := h.symm) | skip
      try (have hn0 : ((n : Int) == 0) = b := by
            rw [← h]
            by_cases e : n = 0
            · simp [e]
            · rw [decide_eq_false e]
              simp
              omega)
      go_enter Try.func40, Try.ntmps40
      go_wp2_with fail
      refine (within_b _ _ _ _ _ h1).mono ?_
      rintro e w1 ⟨rfl, rfl⟩
      repeat (go_wp2_with fail; first | ((with_reducible refine (rhas_b _ 16 _ _ hf0 hf1 (by omega) h16).mono ?_); rintro e w1 ⟨rfl, rfl⟩) | ((with_reducible refine (rhas_b _ 8 _ _ hf0 hf1 (by omega) h8).mono ?_); rintro e w1 ⟨rfl, rfl⟩) | ((with_reducible refine (rhas_b _ 4 _ _ hf0 hf1 (by omega) h4).mono ?_); rintro e w1 ⟨rfl, rfl⟩) | ((with_reducible refine (rhas_b _ 2 _ _ hf0 hf1 (by omega) hh2).mono ?_); rintro e w1 ⟨rfl, rfl⟩))
      all_goals go_wp2_with fail
      first
        | (refine (within_b _ _ _ _ _ h).mono ?_; rintro e w1 ⟨rfl, rfl⟩; go_wp2_with fail; go_ret; exact ⟨rfl, by (repeat (first | exact Ext.refl _ _ | assumption | apply Ext.alloc | apply Ext.drewN | apply Ext.drew | refine Ext.setCell ?_ (fun h => by first | rfl | exact absurd h (by dsimp only; omega)) _))⟩)
        | (go_ret; exact ⟨rfl, by (repeat (first | exact Ext.refl _ _ | assumption | apply Ext.alloc | apply Ext.drewN | apply Ext.drew | refine Ext.setCell ?_ (fun h => by first | rfl | exact absurd h (by dsimp only; omega)) _))⟩)
end Go.Proofs.Ytdgleplmmbkgfaa
