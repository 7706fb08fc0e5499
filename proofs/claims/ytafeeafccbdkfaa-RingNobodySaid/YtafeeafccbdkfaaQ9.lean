/- Walks: Rotate. -/
import Derived.Test.YtafeeafccbdkfaaQ8
import Derived.Test.YtafeeafccbdkfaaM2
namespace Go.Proofs.Ytafeeafccbdkfaa
open Go.RowKit
set_option maxRecDepth 100000

/-- Where a rotation begins. -/
def rotK (n : Nat) (t : Int) : Nat := ((t.tmod n + n).tmod n).toNat
theorem rotK_lt {n : Nat} (h : 0 < n) (t : Int) : rotK n t < n ∧ (t.tmod n + n).tmod n = (rotK n t : Int) := by
  have h1 := Int.tmod_lt_of_pos t (show (0 : Int) < n by omega)
  have h2 : -(n : Int) < t.tmod n := by
    have := Int.lt_tmod_of_pos t (show (0 : Int) < n by omega)
    omega
  have h3 := Int.tmod_nonneg (n : Int) (show 0 ≤ t.tmod n + n by omega)
  have h4 := Int.tmod_lt_of_pos (t.tmod n + n) (show (0 : Int) < n by omega)
  unfold rotK
  omega
def rotL {α : Type} (xs : List α) (k : Nat) : List α := xs.drop k ++ xs.take k

set_option maxHeartbeats 2000000 in
theorem rotate_yes (p : Nat) (A : Option Addr) (n c : Nat) (xs : List Int) (room : Nat) (t : Int) (w : World) (h : Rngi w p A n c xs room) (hn : 0 < n) (ht : (Lit.int .i64 t).wf = true) :
    Calls Try.prog 11 #[.pointer (some ⟨p, 0, none⟩), .int .i64 t] w fun e w' => ∃ A' c', e = .returned (.int .i64 (rotK n t)) ∧ Rngi w' p A' n c' (rotL xs (rotK n t)) room ∧ Ext (Tch p A) w w' ∧ Frs w A A' := by
  obtain ⟨hk1, hk2⟩ := rotK_lt hn t
  obtain ⟨r, hK⟩ : ∃ r, r = rotK n t := ⟨_, rfl⟩
  rw [← hK] at hk1 hk2 ⊢
  have HK := hide hK
  clear hK
  have c0 := h.c0
  have hr2 := h.r2
  have hle := h.le
  have hpl := h.lt
  have h1 := Int.tmod_lt_of_pos t (show (0 : Int) < n by omega)
  have h2 : -(n : Int) < t.tmod n := by
    have := Int.lt_tmod_of_pos t (show (0 : Int) < n by omega)
    omega
  have hz : ((n : Int) == 0) = false := by simp; omega
  have hz' : ¬ n = 0 := by omega
  have hz2 : ¬ (n : Int) = 0 := by omega
  have s1 := run_cut_l (P := Try.prog) 22 3 1 Try.underlying22 size_i A n c r r rfl (by omega) .i64
  have s2 := run_cut_h (P := Try.prog) 22 3 1 Try.underlying22 size_i A n c r r rfl (by have := h.own.rd.cap; omega) .i64
  go_enter Try.func11, Try.ntmps11
  go_wp2_with fail
  refine (none_i p A n c xs room _ h).mono ?_
  rintro e w1 ⟨rfl, rfl⟩
  go_wp2_with fail
  have g0 : ∀ x : Lat (fun _ => False) w, x.W.cell? ⟨p, 0, none⟩ = some (.slice A n c) := fun x => (blk_cell (New.keep x.ext h.blk) 0).trans rfl
  refine mixT_start 17 (fun _ => False) w (by kernel_rfl) ?_
  refine mixT_batch [0, 1, 2, 3, 4, 5, 6, 7, 8, 9, 10, 11, 12] (by kernel_rfl) 5 _ _ _ (by kernel_rfl) (lat_mem (by (repeat (first | exact Ext.refl _ _ | assumption | apply Ext.alloc | apply Ext.drewN | apply Ext.drew | refine Ext.setCell ?_ (fun h => by first | rfl | exact absurd h (by dsimp only; omega)) _)))) ?_
  simp only [pickOps, List.getD_cons_zero, List.getD_cons_succ]
  repeat (go_big_quiet_step (fail))
  refine wpQuiet_nil ?_
  refine mixT_loud (i := 13) (by kernel_rfl) rfl (fun K hK => ?_)
  go_simp
  refine hK.out _ _ (lat_mem (by (repeat (first | exact Ext.refl _ _ | assumption | apply Ext.alloc | apply Ext.drewN | apply Ext.drew | refine Ext.setCell ?_ (fun h => by first | rfl | exact absurd h (by dsimp only; omega)) _)))) ?_
  clear hK
  refine mixT_loud (i := 14) (by kernel_rfl) rfl (fun K hK => ?_)
  go_simp
  have hrl := rd_lit w.drew 22 1 2 #[.slice (sl A c r 1) (n - r) (c - r), .slice A r c] (by omega) rfl (by simp [Value.oneCell'])
  have hnl : New w (w.drew.alloc (.cells #[.slice (sl A c r 1) (n - r) (c - r), .slice A r c] 22)) := by (repeat (first | exact Ext.refl _ _ | assumption | apply Ext.alloc | apply Ext.drewN | apply Ext.drew | refine Ext.setCell ?_ (fun h => by first | rfl | exact absurd h (by dsimp only; omega)) _))
  refine (concat_two _ 2 _ (n - r) _ _ _ r _ _ _ hrl ((h.own.rd.dropi r (by omega)).new hnl) ((h.own.rd.takei r (by omega)).new hnl) (by omega)).mono ?_
  rintro e wa ⟨A2, c2, rfl, ho2, hn2⟩
  have hna := hnl.then hn2
  have hpa := New.keep hna h.blk
  rw [show n - r + r = n by omega] at ho2 ⊢
  rw [← vsi_append] at ho2
  have j0 : wa.cell? ⟨p, 0, none⟩ = some (.slice A n c) := (blk_cell hpa 0).trans rfl
  have j1 := blk_free hpa 0
  refine hK.out _ _ (lat_mem (by (repeat (first | exact Ext.refl _ _ | assumption | apply Ext.alloc | apply Ext.drewN | apply Ext.drew | refine Ext.setCell ?_ (fun h => by first | rfl | exact absurd h (by dsimp only; omega)) _)))) ?_
  clear hK
  refine mixT_loud (i := 15) (by kernel_rfl) rfl (fun K hK => ?_)
  go_simp
  refine hK.out _ _ (lat_mem (by (repeat (first | exact Ext.refl _ _ | assumption | apply Ext.alloc | apply Ext.drewN | apply Ext.drew | refine Ext.setCell ?_ (fun h => by first | rfl | exact absurd h (by dsimp only; omega)) _)))) ?_
  clear hK
  refine mixT_loud (i := 16) (by kernel_rfl) rfl (fun K hK => ?_)
  go_simp
  refine hK.out _ _ (lat_mem (by (repeat (first | exact Ext.refl _ _ | assumption | apply Ext.alloc | apply Ext.drewN | apply Ext.drew | refine Ext.setCell ?_ (fun h => by first | rfl | exact absurd h (by dsimp only; omega)) _)))) ?_
  clear hK
  refine mixT_last (by kernel_rfl) rfl (fun K hK => ?_)
  go_simp
  refine hK.out _ _ ?_
  clear hK
  refine anyT_done (by kernel_rfl) (NoPanic.normal ?_) _
  clear g0
  have hs2 := ((Ext.refl (fun k => k = p) wa).setCell (p := ⟨p, 0, none⟩) (fun _ => rfl) (.slice A2 n c2) : Ext (fun k => k = p) wa (wa.setCell ⟨p, 0, none⟩ (.slice A2 n c2)))
  have hb3 := blk_set hpa 0 (.slice A2 n c2)
  have hw3 : w.heap.size ≤ wa.heap.size := hna.size
  clear j0 j1
  generalize wa.setCell ⟨p, 0, none⟩ (.slice A2 n c2) = w3 at *
  go_wp2_with fail
  go_ret
  have hon : ∀ k, inA A2 k → w.heap.size ≤ k := fun k hk => by have := (ho2.at_ hk).1; simp at this; omega
  refine ⟨rfl, A2, ⟨c2, ⟨hb3, (ho2.keep hs2 (fun k hk e => by have := hon k hk; omega)).rebase (fun k hk => by have := hon k hk; omega), h.r1, h.r2, h.le⟩⟩, (hna.to).trans (hs2.mono (fun k _ hk => .inl hk)) (fun _ _ h => h), fun k hk => .inr (hon k hk)⟩
end Go.Proofs.Ytafeeafccbdkfaa
