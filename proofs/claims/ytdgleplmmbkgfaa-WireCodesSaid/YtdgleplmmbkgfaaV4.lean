/- Walks: which packets may be. -/
import Derived.Test.YtdgleplmmbkgfaaV3
namespace Go.Proofs.Ytdgleplmmbkgfaa
open Go.RowKit
set_option maxRecDepth 100000

theorem dec_beq {a b : Int} {v : Bool} (h : decide (a = b) = v) : (a == b) = v := by
  rw [← h]
  cases hd : decide (a = b)
  · simpa using hd
  · simpa using hd
theorem dec_bne {a b : Int} {v : Bool} (h : decide (a = b) = v) : (a != b) = !v := by
  rw [bne, dec_beq h]
set_option maxHeartbeats 2000000 in
theorem other_b (P : Pk) (A : Option Addr) (n c : Nat) (b : Bool) (w : World) (hn : P.b.length = n) (h : otherB P = b) : Calls Try.prog 38 #[pkV P A n c] w fun e w' => e = .returned (.bool b) ∧ New w w' := by
  obtain ⟨kd, fl, pa, sr, ds, cn, sq, pl, bb⟩ := P
  unfold otherB at h
  dsimp only at h hn
  have hl : decide (bb = []) = decide ((n : Int) = 0) := by
    rw [← hn]
    cases bb <;> simp
    omega
  rw [hl, show (if kd = 4 then decide (sq = 0) else decide (pl = 0)) = (bif decide (kd = 4) then decide (sq = 0) else decide (pl = 0)) by by_cases h : kd = 4 <;> simp [h]] at h
  clear hl hn
  cases h1 : decide (fl = 0) <;> cases h2 : decide ((n : Int) = 0) <;> cases h3 : decide (kd = 4) <;> cases h4 : decide (sq = 0) <;> cases h5 : decide (pl = 0) <;>
    (rw [h1, h2, h3, h4, h5] at h; simp only [cond_true, cond_false, Bool.true_and, Bool.false_and, Bool.and_true, Bool.and_false] at h; subst h;
     have e1 := dec_beq h1; have e2 := dec_beq h2; have e4 := dec_beq h4; have e5 := dec_beq h5; have e3 := dec_beq h3; clear h1 h2 h3 h4 h5)
  all_goals
    first
    | (go_enter Try.func38, Try.ntmps38
       go_wp2_with fail
       go_ret
       exact ⟨rfl, by (repeat (first | exact Ext.refl _ _ | assumption | apply Ext.alloc | apply Ext.drewN | apply Ext.drew | refine Ext.setCell ?_ (fun h => by first | rfl | exact absurd h (by dsimp only; omega)) _))⟩)
end Go.Proofs.Ytdgleplmmbkgfaa
