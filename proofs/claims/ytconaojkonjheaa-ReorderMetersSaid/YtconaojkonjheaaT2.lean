/- Walks: a report that grows; the search; what may be. -/
import Derived.Test.YtconaojkonjheaaT1
import Derived.Test.YtconaojkonjheaaM3
namespace Go.Proofs.Ytconaojkonjheaa
open Go.RowKit Go.Maps
set_option maxRecDepth 100000

/-- Block p is a meter. -/
def MBk (w : World) (p : Nat) (came rep reo ext late held : Int) (s h : Value) (next : Int) : Prop :=
  w.heap[p]? = some (.cells #[.int .i64 came, .int .i64 rep, .int .i64 reo, .int .i64 ext, .int .i64 late, .int .i64 held, s, h, .int .i64 next] 55)
section
variable {w : World} {p : Nat} {came rep reo ext late held : Int} {s h : Value} {next : Int}
theorem MBk.c (hb : MBk w p came rep reo ext late held s h next) (i : Nat) : w.cell? ⟨p, i, none⟩ = #[.int .i64 came, .int .i64 rep, .int .i64 reo, .int .i64 ext, .int .i64 late, .int .i64 held, s, h, .int .i64 next][i]? := blk_cell hb i
theorem MBk.f (hb : MBk w p came rep reo ext late held s h next) (i : Nat) : w.frozen? ⟨p, i, none⟩ = false := blk_free hb i
theorem MBk.keep {S : Nat → Prop} {w' : World} (hb : MBk w p came rep reo ext late held s h next) (he : Ext S w w') (hs : ¬ S p) : MBk w' p came rep reo ext late held s h next := Ext.keep he hb hs
theorem MBk.lt (hb : MBk w p came rep reo ext late held s h next) : p < w.heap.size := blk_lt hb
end

/-- Go's max. -/
def mx (a b : Int) : Int := if a < b then b else a
theorem mx_eq (a b : Int) : mx a b = max a b := by unfold mx; split <;> omega

set_option maxHeartbeats 2000000 in
theorem note_any (p : Nat) (came rep reo ext late held : Int) (s h : Value) (next : Int) (e l k : Int) (w : World) (hb : MBk w p came rep reo ext late held s h next) (hc : 0 ≤ came ∧ came ≤ 1000000) (hr : 0 ≤ reo ∧ reo ≤ 1000000) :
    Calls Try.prog 51 #[.pointer (some ⟨p, 0, none⟩), .int .i64 e, .int .i64 l, .int .i64 k] w fun en w' => en = .returned (.tuple #[]) ∧ MBk w' p (came + 1) rep (if 0 < e then reo + 1 else reo) (mx ext e) (mx late l) (mx held k) s h next ∧ Ext (fun k => k = p) w w' := by
  have c0 := (hb.c 0).trans rfl
  have c2 := (hb.c 2).trans rfl
  have f0 := hb.f 0
  have f2 := hb.f 2
  obtain ⟨hc1, hc2⟩ := hc
  obtain ⟨hr1, hr2⟩ := hr
  have g1 := blk_set hb 0 (.int .i64 (came + 1))
  have e1 : Ext (fun k => k = p) w (w.setCell ⟨p, 0, none⟩ (.int .i64 (came + 1))) := (Ext.refl _ w).set (by rfl)
  obtain ⟨reo', hreo⟩ : ∃ r, r = if 0 < e then reo + 1 else reo := ⟨_, rfl⟩
  rw [← hreo]
  have HREO := hide hreo
  clear hreo
  go_enter Try.func51, Try.ntmps51
  go_upto_if 18 with (fail)
  go_cut [] (fun wc => MBk wc p (came + 1) rep reo' ext late held s h next ∧ Ext (fun k => k = p) w wc)
  case first =>
    by_cases he : 0 < e
    · have d : decide (0 < e) = true := decide_eq_true he
      have g2 := blk_set g1 2 (.int .i64 (reo + 1))
      have e2 : Ext (fun k => k = p) w ((w.setCell ⟨p, 0, none⟩ (.int .i64 (came + 1))).setCell ⟨p, 2, none⟩ (.int .i64 (reo + 1))) := e1.set (by rfl)
      go_wp2_with fail
      go_meet
      rw [HREO.out, if_pos (by omega)]
      exact ⟨g2, e2⟩
    · have d : decide (0 < e) = false := decide_eq_false he
      go_wp2_with fail
      go_meet
      rw [HREO.out, if_neg (by omega)]
      exact ⟨g1, e1⟩
  case rest =>
    clear c0 c2 f0 f2 g1 e1
    obtain ⟨g1, e1⟩ := hcut
    have q3 : ∀ x : Lat (fun _ => False) wc, x.W.cell? ⟨p, 3, none⟩ = some (.int .i64 ext) := fun x => (blk_cell (New.keep x.ext g1) 3).trans rfl
    have q4 : ∀ x : Lat (fun _ => False) wc, x.W.cell? ⟨p, 4, none⟩ = some (.int .i64 late) := fun x => (blk_cell (New.keep x.ext g1) 4).trans rfl
    have q5 : ∀ x : Lat (fun _ => False) wc, x.W.cell? ⟨p, 5, none⟩ = some (.int .i64 held) := fun x => (blk_cell (New.keep x.ext g1) 5).trans rfl
    have hm1 : (if ext < e then e else ext) = mx ext e := rfl
    have hm2 : (if late < l then l else late) = mx late l := rfl
    have hm3 : (if held < k then k else held) = mx held k := rfl
    go_wp2_with fail
    refine mixU_start 27 (fun _ => False) wc (by kernel_rfl) ?_
    refine mixU_batch [0, 3, 4, 5, 6, 7] (by kernel_rfl) 30 _ _ _ (by kernel_rfl) (lat_mem (by (repeat (first | exact Ext.refl _ _ | assumption | apply Ext.alloc | apply Ext.drewN | apply Ext.drew | refine Ext.setCell ?_ (fun h => by first | rfl | exact absurd h (by dsimp only; omega)) _)))) ?_
    simp only [pickOps, List.getD_cons_zero, List.getD_cons_succ]
    repeat (go_big_quiet_step (fail))
    refine wpQuiet_nil ?_
    refine mixU_pure wc [8] (by kernel_rfl) 29 _ _ _ (by kernel_rfl) (.inr (lat_mem (by (repeat (first | exact Ext.refl _ _ | assumption | apply Ext.alloc | apply Ext.drewN | apply Ext.drew | refine Ext.setCell ?_ (fun h => by first | rfl | exact absurd h (by dsimp only; omega)) _))))) ?_
    simp only [pickOps, List.getD_cons_zero, List.getD_cons_succ]
    repeat (go_big_quiet_step (fail))
    refine wpQuiet_nil ?_
    refine mixU_batch [9, 10, 11, 12, 13, 14, 17, 18, 19, 20, 21, 24, 25, 26] (by kernel_rfl) 15 _ _ _ (by kernel_rfl) (lat_mem (by (repeat (first | exact Ext.refl _ _ | assumption | apply Ext.alloc | apply Ext.drewN | apply Ext.drew | refine Ext.setCell ?_ (fun h => by first | rfl | exact absurd h (by dsimp only; omega)) _)))) ?_
    simp only [pickOps, List.getD_cons_zero, List.getD_cons_succ]
    repeat (go_big_quiet_step (fail))
    refine wpQuiet_nil ?_
    refine mixU_pure wc [1, 2, 15, 16, 22, 23] (by kernel_rfl) 9 _ _ _ (by kernel_rfl) (.inr (lat_mem (by (repeat (first | exact Ext.refl _ _ | assumption | apply Ext.alloc | apply Ext.drewN | apply Ext.drew | refine Ext.setCell ?_ (fun h => by first | rfl | exact absurd h (by dsimp only; omega)) _))))) ?_
    simp only [pickOps, List.getD_cons_zero, List.getD_cons_succ]
    repeat (go_big_quiet_step (fail))
    refine wpQuiet_nil ?_
    have j3 := (blk_cell g1 3).trans rfl
    have j4 := (blk_cell g1 4).trans rfl
    have j5 := (blk_cell g1 5).trans rfl
    have f3 := blk_free g1 3
    have f4 := blk_free g1 4
    have f5 := blk_free g1 5
    refine mixU_last (by kernel_rfl) (by kernel_rfl) rfl (fun K hK => ?_)
    go_simp
    refine hK.out _ _ (mixU_after (S' := fun W => ∃ x : Lat (fun k => k = p) wc, W = x.W) _ _ _ _ (by kernel_rfl) ?_)
    clear hK
    clear q3 q4 q5
    refine mix_batch [28, 29, 30] (by kernel_rfl) 5 _ _ _ (by kernel_rfl) (lat_mem (by (repeat (first | exact Ext.refl _ _ | assumption | apply Ext.alloc | apply Ext.drewN | apply Ext.drew | refine Ext.setCell ?_ (fun h => by first | rfl | exact absurd h (by dsimp only; omega)) _)))) ?_
    simp only [pickOps, List.getD_cons_zero, List.getD_cons_succ]
    repeat (go_big_quiet_step (fail))
    refine wpQuiet_nil ?_
    refine mix_loud (i := 31) (by kernel_rfl) rfl (fun K hK => ?_)
    go_simp
    refine hK.out _ _ (lat_mem (by (repeat (first | exact Ext.refl _ _ | assumption | apply Ext.alloc | apply Ext.drewN | apply Ext.drew | refine Ext.setCell ?_ (fun h => by first | rfl | exact absurd h (by dsimp only; omega)) _)))) ?_
    clear hK
    refine mix_batch [32, 33, 34] (by kernel_rfl) 1 _ _ _ (by kernel_rfl) (lat_mem (by (repeat (first | exact Ext.refl _ _ | assumption | apply Ext.alloc | apply Ext.drewN | apply Ext.drew | refine Ext.setCell ?_ (fun h => by first | rfl | exact absurd h (by dsimp only; omega)) _)))) ?_
    simp only [pickOps, List.getD_cons_zero, List.getD_cons_succ]
    repeat (go_big_quiet_step (fail))
    refine wpQuiet_nil ?_
    refine mix_loud (i := 35) (by kernel_rfl) rfl (fun K hK => ?_)
    go_simp
    refine hK.out _ _ (lat_mem (by (repeat (first | exact Ext.refl _ _ | assumption | apply Ext.alloc | apply Ext.drewN | apply Ext.drew | refine Ext.setCell ?_ (fun h => by first | rfl | exact absurd h (by dsimp only; omega)) _)))) ?_
    clear hK
    refine wpAnyH_done (by kernel_rfl) (NoPanic.normal ?_) _
    clear j3 j4 j5 f3 f4 f5
    go_wp2_with fail
    go_end0
    have b1 := blk_set (blk_set (blk_set g1 3 (.int .i64 (mx ext e))) 4 (.int .i64 (mx late l))) 5 (.int .i64 (mx held k))
    exact ⟨rfl, b1, (((e1.set (by rfl)).set (by rfl)).set (by rfl)).drew⟩
end Go.Proofs.Ytconaojkonjheaa
