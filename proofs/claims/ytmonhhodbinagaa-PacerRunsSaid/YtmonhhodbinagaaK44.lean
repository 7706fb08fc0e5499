/- The law's own: the program's key, the document's keys. -/
import Derived.Test.YtmonhhodbinagaaK43
import Derived.Lib.AppendZeros
namespace Go.Proofs.Ytmonhhodbinagaa
open Go.RowKit Go.Maps
set_option maxRecDepth 100000

set_option maxHeartbeats 800000 in
theorem of_k (k : Int × Int) (w : World) : Calls Try.prog 19 #[kV k] w fun e w' => e = .returned (kV k) ∧ New w w' := by
  obtain ⟨w0, hw0, b1, b2, hn0, hz0⟩ := twoNew w #[.int .i64 k.1, .int .i64 k.2] #[.int .i64 0, .int .i64 0] 49 30
  clear hz0
  go_enter Try.func19, Try.ntmps19
  go_upto_region 1 with (fail)
  rw [← hw0]
  clear hw0
  have c0 := (blk_cell b1 0).trans rfl
  have c1 := (blk_cell b1 1).trans rfl
  have r0 := (blk_cell b2 0).trans rfl
  have rf0 := blk_free b2 0
  have r1 := (blk_cell b2 1).trans rfl
  have rf1 := blk_free b2 1
  go_wp2_with fail
  obtain ⟨wz, hwz, Yz, Sz⟩ := set2 b2 rfl (.int .i64 k.1) (.int .i64 k.2)
  rw [← hwz]
  clear hwz c0 c1 r0 r1 rf0 rf1
  have z0 := (blk_cell Yz 0).trans rfl
  have z1 := (blk_cell Yz 1).trans rfl
  have N9 : New w wz := hn0.trans Sz (fun j hj e => by omega)
  refine bodyPost_ret (v := kV k) (by simp [results, Try.results19, go_sem, z0, z1]) rfl ⟨rfl, N9⟩
set_option maxHeartbeats 2000000 in
theorem back_k (A : Option Addr) (n c : Nat) (xs : List (Int × Int)) (w : World) (h : Rd w 2 A n c (kcs xs)) (hr2 : n ≤ 1024) :
    Calls Try.prog 24 #[.slice A n c] w fun e w' => ∃ A' c', e = .returned (.slice A' n c') ∧ Rd w' 2 A' n c' (kcs xs) ∧ New w w' := by
  have hlen := h.lenk
  have HL := hide hlen
  clear hlen
  go_enter Try.func24, Try.ntmps24
  go_wp2_with fail
  go_loopw [3, 4] (fun s3 s4 wr => New w wr ∧ ∃ k A' c', k ≤ n ∧ s4 = .int .i64 (k : Nat) ∧ s3 = .slice A' k c' ∧ Own wr w.heap.size 49 2 A' k c' (kcs (xs.take k))) (fun _ i _ => n - (intOf i).toNat)
  case atStart => exact ⟨Ext.refl _ _, 0, none, 0, Nat.zero_le _, rfl, rfl, by simpa [kcs] using Own.nil _ _ _ _⟩
  case round =>
    obtain ⟨hnw, k, A', c', hk, rfl, rfl, ho⟩ := hrel
    by_cases hkn : k < n
    · have d1 : decide ((k : Int) < n) = true := decide_eq_true (by omega)
      have d2 : decide (k < n) = true := decide_eq_true (by omega)
      obtain ⟨ad, rfl⟩ := h.some (by omega)
      obtain ⟨x, hx⟩ : ∃ x, xs[k]? = some x := ⟨_, List.getElem?_eq_getElem (by have := HL.out; omega)⟩
      have hnext : kcs (xs.take (k + 1)) = kcs (xs.take k) ++ kcs [x] := by rw [take_snoc xs k x hx, kcs_append]
      have HX := hide hnext
      have HXX := hide hx
      clear hx hnext
      have hRd : ∀ y : Lat (inA A') wr, Rd y.W 2 (some ad) n c (kcs xs) := fun y => h.keep (hnw.trans y.ext (fun j hj hk => by have := (ho.at_ hk).1; omega)) (fun _ _ h => h)
      have hc0 : ∀ y : Lat (inA A') wr, y.W.cell? (ad.add (k * 2)) = some (.int .i64 x.1) := fun y => ((hRd y).cellk HXX.out).1
      have hc1 : ∀ y : Lat (inA A') wr, y.W.cell? ⟨(ad.add (k * 2)).block, (ad.add (k * 2)).off + 1, none⟩ = some (.int .i64 x.2) := fun y => ((hRd y).cellk HXX.out).2
      have hsz := hnw.size
      go_wp2_with fail
      refine mix_start (inA A') wr (by kernel_rfl) ?_
      refine mix_batch [0, 1, 2, 3, 4, 5, 6, 7, 8, 9, 10, 11] (by kernel_rfl) 3 _ _ _ (by kernel_rfl) (lat_mem (by (repeat (first | exact Ext.refl _ _ | assumption | apply Ext.alloc | apply Ext.drewN | apply Ext.drew | refine Ext.setCell ?_ (fun h => by first | rfl | exact absurd h (by dsimp only; omega)) _)))) ?_
      simp only [pickOps, List.getD_cons_zero, List.getD_cons_succ]
      repeat (go_big_quiet_step (fail))
      refine wpQuiet_nil ?_
      refine mix_loud (i := 12) (by kernel_rfl) rfl (fun K hK => ?_)
      go_simp
      refine hK.out _ _ (lat_mem (by (repeat (first | exact Ext.refl _ _ | assumption | apply Ext.alloc | apply Ext.drewN | apply Ext.drew | refine Ext.setCell ?_ (fun h => by first | rfl | exact absurd h (by dsimp only; omega)) _)))) ?_
      clear hK
      refine mix_loud (i := 13) (by kernel_rfl) rfl (fun K hK => ?_)
      rw [if_pos (by kernel_rfl)]
      have hwa : New wr (wr.alloc (.cells #[.int .i64 x.1, .int .i64 x.2] 49)).drew := by (repeat (first | exact Ext.refl _ _ | assumption | apply Ext.alloc | apply Ext.drewN | apply Ext.drew | refine Ext.setCell ?_ (fun h => by first | rfl | exact absurd h (by dsimp only; omega)) _))
      have hrb : Rd (wr.alloc (.cells #[.int .i64 x.1, .int .i64 x.2] 49)).drew 2 (some ⟨wr.heap.size, 0, none⟩) 1 1 (kcs [x]) := (rd_lit wr 49 2 1 #[.int .i64 x.1, .int .i64 x.2] (by omega) rfl (by simp [Value.oneCell'])).new (show New (wr.alloc (.cells #[.int .i64 x.1, .int .i64 x.2] 49)) _ by (repeat (first | exact Ext.refl _ _ | assumption | apply Ext.alloc | apply Ext.drewN | apply Ext.drew | refine Ext.setCell ?_ (fun h => by first | rfl | exact absurd h (by dsimp only; omega)) _)))
      obtain ⟨A5, c5, w5, hrun, ho5, he5, hA5⟩ := run_app (P := Try.prog) (wr.alloc (.cells #[.int .i64 x.1, .int .i64 x.2] 49)).drew w.heap.size 44 44 49 (.agg #[.int .i64 0, .int .i64 0]) 2 16 Try.underlying44 info_d rfl (by decide) (by decide) (ho.new hwa) hrb (by omega) (by have := hwa.size; omega)
      refine Lib.wp_append_run _ _ _ _ _ rfl _ _ rfl rfl _ _ hrun ?_
      have he45 : Ext (inA A') wr w5 := hwa.to.trans he5 (fun _ _ h => h)
      refine hK.out _ _ (lat_mem he45) ?_
      clear hK
      go_simp
      refine mix_batch [14] (by kernel_rfl) 0 _ _ _ (by kernel_rfl) (lat_mem (by (repeat (first | exact Ext.refl _ _ | assumption | apply Ext.alloc | apply Ext.drewN | apply Ext.drew | refine Ext.setCell ?_ (fun h => by first | rfl | exact absurd h (by dsimp only; omega)) _)))) ?_
      simp only [pickOps, List.getD_cons_zero, List.getD_cons_succ]
      repeat (go_big_quiet_step (fail))
      refine wpQuiet_nil ?_
      refine wpAnyH_done (by kernel_rfl) (NoPanic.normal ?_) _
      clear hc0 hc1 hRd
      go_wp2_with fail
      go_roundw
      case rel => exact ⟨hnw.trans he45 (fun j hj hk => by have := (ho.at_ hk).1; omega), k + 1, A5, c5, by omega, by go_num, rfl, by rw [HX.out]; exact ho5.new (by (repeat (first | exact Ext.refl _ _ | assumption | apply Ext.alloc | apply Ext.drewN | apply Ext.drew | refine Ext.setCell ?_ (fun h => by first | rfl | exact absurd h (by dsimp only; omega)) _)))⟩
      case measure => simp [intOf]; omega
    · have d1 : decide ((k : Int) < n) = false := decide_eq_false (by omega)
      have d2 : decide (k < n) = false := decide_eq_false (by omega)
      obtain rfl : k = n := by omega
      have hfin : xs.take k = xs := List.take_of_length_le (by have := HL.out; omega)
      rw [hfin] at ho
      go_wp2_with fail
      go_ret
      exact ⟨A', c', rfl, ho.rd, hnw⟩
end Go.Proofs.Ytmonhhodbinagaa
