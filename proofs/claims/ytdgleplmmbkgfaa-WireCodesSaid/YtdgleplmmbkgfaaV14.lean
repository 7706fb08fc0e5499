/- Walks: the document's word on which packets may be. -/
import Derived.Test.YtdgleplmmbkgfaaV13
namespace Go.Proofs.Ytdgleplmmbkgfaa
open Go.RowKit
set_option maxRecDepth 100000

set_option maxHeartbeats 8000000 in
theorem is_b (P : Pk) (A : Option Addr) (n c : Nat) (b : Bool) (w : World) (hn : P.b.length = n) (h : okB P = b) : Calls Try.prog 20 #[pkV P A n c] w fun e w' => e = .returned (.bool b) ∧ New w w' := by
  obtain ⟨b3, e3⟩ : ∃ b3, dataB P.fl P.pl n = b3 := ⟨_, rfl⟩
  have hd := fun w => rdata_b P A n c b3 w e3
  unfold okB hostsB numsB otherB at h
  rw [hn, e3] at h
  obtain ⟨kd, fl, pa, sr, ds, cn, sq, pl, bb⟩ := P
  dsimp only at h hd hn
  have hl : decide (bb = []) = decide ((n : Int) = 0) := by
    rw [← hn]
    cases bb <;> simp
    omega
  rw [hl] at h
  clear hl hn e3
  have HD := hide hd
  have HH := hide h
  clear hd h
  have hn1 := New.alloc1 w (pkO ⟨kd, fl, pa, sr, ds, cn, sq, pl, bb⟩ A n c 25)
  have hb1 := blk_new w (pkO ⟨kd, fl, pa, sr, ds, cn, sq, pl, bb⟩ A n c 25)
  dsimp only [pkO] at hb1 hn1
  go_enter Try.func20, Try.ntmps20
  go_upto_region 1 with (fail)
  generalize hw1 : w.alloc _ = w1 at *
  clear hw1
  have c0 := (blk_cell hb1 0).trans rfl
  have c1 := (blk_cell hb1 1).trans rfl
  have c2 := (blk_cell hb1 2).trans rfl
  have c3 := (blk_cell hb1 3).trans rfl
  have c4 := (blk_cell hb1 4).trans rfl
  have c5 := (blk_cell hb1 5).trans rfl
  have c6 := (blk_cell hb1 6).trans rfl
  have c7 := (blk_cell hb1 7).trans rfl
  have c8 := (blk_cell hb1 8).trans rfl
  have hbr := hide hb1
  clear hb1
  cases k0 : inB pa 0 7
  · have hb : b = false := by have := HH.out; rw [k0] at this; simpa using this.symm
    subst hb
    have K0 := hide k0
    clear k0
    go_wp2_with fail
    refine (within_b _ _ _ _ _ K0.out).mono ?_
    rintro e w2 ⟨rfl, rfl⟩
    go_wp2_with fail
    go_ret
    exact ⟨rfl, hn1⟩
  have K0 := hide k0
  clear k0
  go_wp2_with fail
  refine (within_b _ _ _ _ _ K0.out).mono ?_
  rintro e w2 ⟨rfl, rfl⟩
  cases k1 : inB sr 0 7
  · have hb : b = false := by have := HH.out; rw [K0.out, k1] at this; simpa using this.symm
    subst hb
    have K1 := hide k1
    clear k1
    go_wp2_with fail
    refine (within_b _ _ _ _ _ K1.out).mono ?_
    rintro e w2 ⟨rfl, rfl⟩
    go_wp2_with fail
    go_ret
    exact ⟨rfl, hn1⟩
  have K1 := hide k1
  clear k1
  go_wp2_with fail
  refine (within_b _ _ _ _ _ K1.out).mono ?_
  rintro e w2 ⟨rfl, rfl⟩
  cases k2 : inB ds 0 7
  · have hb : b = false := by have := HH.out; rw [K0.out, K1.out, k2] at this; simpa using this.symm
    subst hb
    have K2 := hide k2
    clear k2
    go_wp2_with fail
    refine (within_b _ _ _ _ _ K2.out).mono ?_
    rintro e w2 ⟨rfl, rfl⟩
    go_wp2_with fail
    go_ret
    exact ⟨rfl, hn1⟩
  have K2 := hide k2
  clear k2
  go_wp2_with fail
  refine (within_b _ _ _ _ _ K2.out).mono ?_
  rintro e w2 ⟨rfl, rfl⟩
  cases k3 : decide (sr = ds)
  rotate_left
  · have g3 := dec_beq k3
    have hb : b = false := by have := HH.out; rw [K0.out, K1.out, K2.out, show decide (sr ≠ ds) = false by simpa using k3] at this; simpa using this.symm
    subst hb
    clear k3
    go_wp2_with fail
    go_ret
    exact ⟨rfl, hn1⟩
  have g3 := dec_beq k3
  have k3' : decide (sr ≠ ds) = true := by simpa using k3
  have K3 := hide k3'
  clear k3 k3'
  cases k4 : inB cn 1 1073741824
  · have hb : b = false := by have := HH.out; rw [K0.out, K1.out, K2.out, K3.out, k4] at this; simpa using this.symm
    subst hb
    have K4 := hide k4
    clear k4
    go_wp2_with fail
    refine (within_b _ _ _ _ _ K4.out).mono ?_
    rintro e w2 ⟨rfl, rfl⟩
    go_wp2_with fail
    go_ret
    exact ⟨rfl, hn1⟩
  have K4 := hide k4
  clear k4
  go_wp2_with fail
  refine (within_b _ _ _ _ _ K4.out).mono ?_
  rintro e w2 ⟨rfl, rfl⟩
  cases k5 : inB sq 0 1152921504606846976
  · have hb : b = false := by have := HH.out; rw [K0.out, K1.out, K2.out, K3.out, K4.out, k5] at this; simpa using this.symm
    subst hb
    have K5 := hide k5
    clear k5
    go_wp2_with fail
    refine (within_b _ _ _ _ _ K5.out).mono ?_
    rintro e w2 ⟨rfl, rfl⟩
    go_wp2_with fail
    go_ret
    exact ⟨rfl, hn1⟩
  have K5 := hide k5
  clear k5
  go_wp2_with fail
  refine (within_b _ _ _ _ _ K5.out).mono ?_
  rintro e w2 ⟨rfl, rfl⟩
  cases k6 : inB pl 0 1152921504606846976
  · have hb : b = false := by have := HH.out; rw [K0.out, K1.out, K2.out, K3.out, K4.out, K5.out, k6] at this; simpa using this.symm
    subst hb
    have K6 := hide k6
    clear k6
    go_wp2_with fail
    refine (within_b _ _ _ _ _ K6.out).mono ?_
    rintro e w2 ⟨rfl, rfl⟩
    go_wp2_with fail
    go_ret
    exact ⟨rfl, hn1⟩
  have K6 := hide k6
  clear k6
  go_wp2_with fail
  refine (within_b _ _ _ _ _ K6.out).mono ?_
  rintro e w2 ⟨rfl, rfl⟩
  have HH2 : Hid ((inB kd 1 4 && (if kd = 1 then b3 else decide (fl = 0) && decide ((n : Int) = 0) && (if kd = 4 then decide (sq = 0) else decide (pl = 0)))) = b) := hide (by have := HH.out; rw [K0.out, K1.out, K2.out, K3.out, K4.out, K5.out, K6.out] at this; simpa using this)
  by_cases k1 : kd = 1
  · subst k1
    have hb : b3 = b := by have := HH2.out; simpa [inB] using this
    subst hb
    go_wp2_with fail
    refine (HD.out _).mono ?_
    rintro e w2 ⟨rfl, hn2⟩
    go_wp2_with fail
    go_ret
    exact ⟨rfl, hn1.then hn2⟩
  have m1 : (kd == 1) = false := by simpa using k1
  by_cases k2 : kd = 2 ∨ kd = 3
  · have hb : (decide (fl = 0) && decide ((n : Int) = 0) && decide (pl = 0)) = b := by
      have := HH2.out
      rw [if_neg k1, if_neg (by omega), inB_iff.2 (by omega)] at this
      simpa using this
    cases h1 : decide (fl = 0) <;> cases h2 : decide ((n : Int) = 0) <;> cases h3 : decide (pl = 0) <;> rcases k2 with k2 | k2
    all_goals
      rw [h1, h2, h3] at hb
      simp only [Bool.true_and, Bool.false_and, Bool.and_false, Bool.and_true] at hb
      subst hb
      have e1 := dec_beq h1
      have e2 := dec_beq h2
      have e3 := dec_beq h3
      subst k2
      clear h1 h2 h3 k1
      go_wp2_with fail
      go_ret
      exact ⟨rfl, hn1⟩
  have m2 : (kd == 2) = false := by simp; omega
  have m3 : (kd == 3) = false := by simp; omega
  by_cases k4 : kd = 4
  · subst k4
    have hb : (decide (fl = 0) && decide ((n : Int) = 0) && decide (sq = 0)) = b := by
      have := HH2.out
      rw [if_neg k1, if_pos rfl, inB_iff.2 (by omega)] at this
      simpa using this
    cases h1 : decide (fl = 0) <;> cases h2 : decide ((n : Int) = 0) <;> cases h3 : decide (sq = 0)
    all_goals
      rw [h1, h2, h3] at hb
      simp only [Bool.true_and, Bool.false_and, Bool.and_false, Bool.and_true] at hb
      subst hb
      have e1 := dec_beq h1
      have e2 := dec_beq h2
      have e3 := dec_beq h3
      clear h1 h2 h3 k1 k2
      go_wp2_with fail
      go_ret
      exact ⟨rfl, hn1⟩
  · have m4 : (kd == 4) = false := by simpa using k4
    have hb : b = false := by
      have := HH2.out
      rw [if_neg k1, inB_no.2 (by omega)] at this
      simpa using this.symm
    subst hb
    clear k1 k2 k4
    go_wp2_with fail
    go_ret
    exact ⟨rfl, hn1⟩
end Go.Proofs.Ytdgleplmmbkgfaa
