/- Walks: the document's packet of bytes. -/
import Derived.Test.YtdgleplmmbkgfaaV27
import Derived.Test.YtdgleplmmbkgfaaV12
import Derived.Test.YtdgleplmmbkgfaaV20
namespace Go.Proofs.Ytdgleplmmbkgfaa
open Go.RowKit
set_option maxRecDepth 100000

theorem add_lit (a : Addr) (j : Nat) (h : j ≠ 0) : a.add j = ⟨a.block, a.off + j, none⟩ := by unfold Addr.add; rw [if_neg h]
theorem nmAt_one (l : List Int) (k : Nat) (x : Int) (h : l[k]? = some x) : nmAt l k 1 = x := by
  unfold nmAt
  have e : (l.drop k).take 1 = [x] := by
    obtain ⟨h1, h2⟩ := List.getElem?_eq_some_iff.1 h
    rw [List.drop_eq_getElem_cons h1, h2]
    rfl
  rw [e]
  simp [getN]
set_option maxHeartbeats 16000000 in
theorem rdec_any (A : Option Addr) (n c : Nat) (l : List Int) (w : World) (hr : Rd w 1 A n c (bts l)) (hB : isB l) (hm : n ≤ 140737488355000) : Calls Try.prog 18 #[.slice A n c] w (DecR w l) := by
  have hlen : l.length = n := hr.lenn
  have hcap := hr.cap
  have htop := hr.top
  by_cases h36 : n < 36
  · have hE : dcE l = 6 := by unfold dcE; rw [if_pos (by omega)]
    have HE := hide hE
    have d1 : decide ((n : Int) < 36) = true := decide_eq_true (by omega)
    have d1n : decide (n < 36) = true := decide_eq_true (by omega)
    clear hE hlen
    go_enter Try.func18, Try.ntmps18
    go_wp2_with fail
    refine bodyPost_ret (v := .tuple #[.agg #[.int .i64 0, .int .i64 0, .int .i64 0, .int .i64 0, .int .i64 0, .int .i64 0, .int .i64 0, .int .i64 0, .slice none 0 0], .int .i64 6]) (by simp [results, Try.results18, go_sem]) rfl (DecR.no 6 HE.out (by omega) (by (repeat (first | exact Ext.refl _ _ | assumption | apply Ext.alloc | apply Ext.drewN | apply Ext.drew | refine Ext.setCell ?_ (fun h => by first | rfl | exact absurd h (by dsimp only; omega)) _))))
  have d1 : decide ((n : Int) < 36) = false := decide_eq_false (by omega)
  have d1n : decide (n < 36) = false := decide_eq_false (by omega)
  obtain ⟨N, hN⟩ : ∃ N, N = n - 36 := ⟨_, rfl⟩
  have hN1 : N + 36 ≤ n := by omega
  have hN2 : n ≤ N + 36 := by omega
  have s28 := run_cut (P := Try.prog) 23 5 1 Try.underlying23 size_u8 A n c 28 30 28 30 rfl rfl (by omega) (by omega) .i64 .i64
  simp only [Nat.reduceSub] at s28
  have s28r := hr.sub 28 30 (by omega) (by omega)
  simp only [Nat.reduceSub, Nat.mul_one, bts_drop, bts_take] at s28r
  have s32 := run_cut (P := Try.prog) 23 5 1 Try.underlying23 size_u8 A n c 32 36 32 36 rfl rfl (by omega) (by omega) .i64 .i64
  simp only [Nat.reduceSub] at s32
  have s32r := hr.sub 32 36 (by omega) (by omega)
  simp only [Nat.reduceSub, Nat.mul_one, bts_drop, bts_take] at s32r
  have s8 := run_cut (P := Try.prog) 23 5 1 Try.underlying23 size_u8 A n c 8 12 8 12 rfl rfl (by omega) (by omega) .i64 .i64
  simp only [Nat.reduceSub] at s8
  have s8r := hr.sub 8 12 (by omega) (by omega)
  simp only [Nat.reduceSub, Nat.mul_one, bts_drop, bts_take] at s8r
  have s12 := run_cut (P := Try.prog) 23 5 1 Try.underlying23 size_u8 A n c 12 20 12 20 rfl rfl (by omega) (by omega) .i64 .i64
  simp only [Nat.reduceSub] at s12
  have s12r := hr.sub 12 20 (by omega) (by omega)
  simp only [Nat.reduceSub, Nat.mul_one, bts_drop, bts_take] at s12r
  have s20 := run_cut (P := Try.prog) 23 5 1 Try.underlying23 size_u8 A n c 20 28 20 28 rfl rfl (by omega) (by omega) .i64 .i64
  simp only [Nat.reduceSub] at s20
  have s20r := hr.sub 20 28 (by omega) (by omega)
  simp only [Nat.reduceSub, Nat.mul_one, bts_drop, bts_take] at s20r
  have s1 := run_cut_h (P := Try.prog) 23 5 1 Try.underlying23 size_u8 A n c 32 32 rfl (by omega) .i64
  have s2 := run_cut_l (P := Try.prog) 23 5 1 Try.underlying23 size_u8 A n c 36 36 rfl (by omega) .i64
  rw [← hN] at s2
  have rd1 := hr.take 32 (by omega)
  have rd2 := hr.drop 36 (by omega)
  rw [Nat.mul_one, bts_take] at rd1
  rw [Nat.mul_one, bts_drop, ← hN] at rd2
  obtain ⟨ad, rfl⟩ := hr.some (by omega)
  have hBm : ∀ k s, isB ((l.drop k).take s) := fun k s x hx => hB x (List.mem_of_mem_drop (List.mem_of_mem_take hx))
  obtain ⟨x0, hx0⟩ : ∃ x, l[0]? = some x := ⟨_, List.getElem?_eq_getElem (by omega)⟩
  have hb0 := hB x0 (List.mem_of_getElem? hx0)
  obtain ⟨hb0l, hb0h⟩ := hb0
  have NM0 := hide (nmAt_one l 0 x0 hx0)
  obtain ⟨x1, hx1⟩ : ∃ x, l[1]? = some x := ⟨_, List.getElem?_eq_getElem (by omega)⟩
  have hb1 := hB x1 (List.mem_of_getElem? hx1)
  obtain ⟨hb1l, hb1h⟩ := hb1
  have NM1 := hide (nmAt_one l 1 x1 hx1)
  obtain ⟨x2, hx2⟩ : ∃ x, l[2]? = some x := ⟨_, List.getElem?_eq_getElem (by omega)⟩
  have hb2 := hB x2 (List.mem_of_getElem? hx2)
  obtain ⟨hb2l, hb2h⟩ := hb2
  have NM2 := hide (nmAt_one l 2 x2 hx2)
  obtain ⟨x3, hx3⟩ : ∃ x, l[3]? = some x := ⟨_, List.getElem?_eq_getElem (by omega)⟩
  have hb3 := hB x3 (List.mem_of_getElem? hx3)
  obtain ⟨hb3l, hb3h⟩ := hb3
  have NM3 := hide (nmAt_one l 3 x3 hx3)
  obtain ⟨x4, hx4⟩ : ∃ x, l[4]? = some x := ⟨_, List.getElem?_eq_getElem (by omega)⟩
  have hb4 := hB x4 (List.mem_of_getElem? hx4)
  obtain ⟨hb4l, hb4h⟩ := hb4
  have NM4 := hide (nmAt_one l 4 x4 hx4)
  obtain ⟨x5, hx5⟩ : ∃ x, l[5]? = some x := ⟨_, List.getElem?_eq_getElem (by omega)⟩
  have hb5 := hB x5 (List.mem_of_getElem? hx5)
  obtain ⟨hb5l, hb5h⟩ := hb5
  have NM5 := hide (nmAt_one l 5 x5 hx5)
  obtain ⟨x6, hx6⟩ : ∃ x, l[6]? = some x := ⟨_, List.getElem?_eq_getElem (by omega)⟩
  have hb6 := hB x6 (List.mem_of_getElem? hx6)
  obtain ⟨hb6l, hb6h⟩ := hb6
  have NM6 := hide (nmAt_one l 6 x6 hx6)
  obtain ⟨x7, hx7⟩ : ∃ x, l[7]? = some x := ⟨_, List.getElem?_eq_getElem (by omega)⟩
  have hb7 := hB x7 (List.mem_of_getElem? hx7)
  obtain ⟨hb7l, hb7h⟩ := hb7
  have NM7 := hide (nmAt_one l 7 x7 hx7)
  have HN := hide hN
  have HL := hide hlen
  have hn1 := New.alloc1 w (zeroP 25)
  have hR1 := blk_new w (zeroP 25)
  have hr1 := hr.new hn1
  have k0 : (w.alloc (zeroP 25)).cell? ad = some (.int .u8 x0) := by have := hr1.celln hx0; rwa [show ad.add 0 = ad by simp [Addr.add]] at this
  have k1 : (w.alloc (zeroP 25)).cell? ⟨ad.block, ad.off + 1, none⟩ = some (.int .u8 x1) := by have := hr1.celln hx1; rwa [add_lit _ _ (by omega)] at this
  have k2 : (w.alloc (zeroP 25)).cell? ⟨ad.block, ad.off + 2, none⟩ = some (.int .u8 x2) := by have := hr1.celln hx2; rwa [add_lit _ _ (by omega)] at this
  have k3 : (w.alloc (zeroP 25)).cell? ⟨ad.block, ad.off + 3, none⟩ = some (.int .u8 x3) := by have := hr1.celln hx3; rwa [add_lit _ _ (by omega)] at this
  have k4 : (w.alloc (zeroP 25)).cell? ⟨ad.block, ad.off + 4, none⟩ = some (.int .u8 x4) := by have := hr1.celln hx4; rwa [add_lit _ _ (by omega)] at this
  have k5 : (w.alloc (zeroP 25)).cell? ⟨ad.block, ad.off + 5, none⟩ = some (.int .u8 x5) := by have := hr1.celln hx5; rwa [add_lit _ _ (by omega)] at this
  have k6 : (w.alloc (zeroP 25)).cell? ⟨ad.block, ad.off + 6, none⟩ = some (.int .u8 x6) := by have := hr1.celln hx6; rwa [add_lit _ _ (by omega)] at this
  have k7 : (w.alloc (zeroP 25)).cell? ⟨ad.block, ad.off + 7, none⟩ = some (.int .u8 x7) := by have := hr1.celln hx7; rwa [add_lit _ _ (by omega)] at this
  have KS := hide (⟨hx0, hx1, hx2, hx3, hx4, hx5, hx6, hx7⟩ : l[0]? = some x0 ∧ l[1]? = some x1 ∧ l[2]? = some x2 ∧ l[3]? = some x3 ∧ l[4]? = some x4 ∧ l[5]? = some x5 ∧ l[6]? = some x6 ∧ l[7]? = some x7)
  clear hN hlen hx0 hx1 hx2 hx3 hx4 hx5 hx6 hx7
  go_enter Try.func18, Try.ntmps18
  obtain ⟨R, hR⟩ : ∃ R, R = w.heap.size := ⟨_, rfl⟩
  go_upto_region 3 with (fail)
  obtain ⟨w1, hw1⟩ : ∃ v, v = w.alloc (zeroP 25) := ⟨_, rfl⟩
  rw [← hw1] at hn1 hR1 hr1 k0 k1 k2 k3 k4 k5 k6 k7
  rw [← hR] at hR1
  rw [← hw1, ← hR]
  have hRw : w.heap.size ≤ R := by omega
  clear hw1 hR
  by_cases g0 : x0 = 78
  rotate_left
  · have b0 : (x0 != 78) = true := by simpa using g0
    have HE : Hid (dcE l = 30) := hide (by unfold dcE; rw [if_neg (by have := HL.out; omega), if_pos (by rw [NM0.out, NM1.out, NM2.out]; omega)])
    clear g0
    have r0 := (blk_cell hR1 0).trans rfl
    have f0 := blk_free hR1 0
    have r1 := (blk_cell hR1 1).trans rfl
    have f1 := blk_free hR1 1
    have r2 := (blk_cell hR1 2).trans rfl
    have f2 := blk_free hR1 2
    have r3 := (blk_cell hR1 3).trans rfl
    have f3 := blk_free hR1 3
    have r4 := (blk_cell hR1 4).trans rfl
    have f4 := blk_free hR1 4
    have r5 := (blk_cell hR1 5).trans rfl
    have f5 := blk_free hR1 5
    have r6 := (blk_cell hR1 6).trans rfl
    have f6 := blk_free hR1 6
    have r7 := (blk_cell hR1 7).trans rfl
    have f7 := blk_free hR1 7
    have r8 := (blk_cell hR1 8).trans rfl
    have f8 := blk_free hR1 8
    go_wp2_with fail
    obtain ⟨wz, hwz, Yz, Sz⟩ := set9 hR1 rfl (.int .i64 0) (.int .i64 0) (.int .i64 0) (.int .i64 0) (.int .i64 0) (.int .i64 0) (.int .i64 0) (.int .i64 0) (.slice none 0 0)
    rw [← hwz]
    clear hwz r0 f0 r1 f1 r2 f2 r3 f3 r4 f4 r5 f5 r6 f6 r7 f7 r8 f8
    have g0 := (blk_cell Yz 0).trans rfl
    have g1 := (blk_cell Yz 1).trans rfl
    have g2 := (blk_cell Yz 2).trans rfl
    have g3 := (blk_cell Yz 3).trans rfl
    have g4 := (blk_cell Yz 4).trans rfl
    have g5 := (blk_cell Yz 5).trans rfl
    have g6 := (blk_cell Yz 6).trans rfl
    have g7 := (blk_cell Yz 7).trans rfl
    have g8 := (blk_cell Yz 8).trans rfl
    refine bodyPost_ret (v := .tuple #[.agg #[.int .i64 0, .int .i64 0, .int .i64 0, .int .i64 0, .int .i64 0, .int .i64 0, .int .i64 0, .int .i64 0, .slice none 0 0], .int .i64 30]) (by simp [results, Try.results18, go_sem, g0, g1, g2, g3, g4, g5, g6, g7, g8]) rfl (DecR.no 30 HE.out (by omega) (hn1.trans Sz (fun j hj e => by omega)))
  have b0 : (x0 != 78) = false := by simpa using g0
  have G0 := hide g0
  clear g0
  by_cases g1 : x1 = 90
  rotate_left
  · have b1 : (x1 != 90) = true := by simpa using g1
    have HE : Hid (dcE l = 30) := hide (by unfold dcE; rw [if_neg (by have := HL.out; omega), if_pos (by rw [NM0.out, NM1.out, NM2.out]; omega)])
    clear g1
    have r0 := (blk_cell hR1 0).trans rfl
    have f0 := blk_free hR1 0
    have r1 := (blk_cell hR1 1).trans rfl
    have f1 := blk_free hR1 1
    have r2 := (blk_cell hR1 2).trans rfl
    have f2 := blk_free hR1 2
    have r3 := (blk_cell hR1 3).trans rfl
    have f3 := blk_free hR1 3
    have r4 := (blk_cell hR1 4).trans rfl
    have f4 := blk_free hR1 4
    have r5 := (blk_cell hR1 5).trans rfl
    have f5 := blk_free hR1 5
    have r6 := (blk_cell hR1 6).trans rfl
    have f6 := blk_free hR1 6
    have r7 := (blk_cell hR1 7).trans rfl
    have f7 := blk_free hR1 7
    have r8 := (blk_cell hR1 8).trans rfl
    have f8 := blk_free hR1 8
    go_wp2_with fail
    obtain ⟨wz, hwz, Yz, Sz⟩ := set9 hR1 rfl (.int .i64 0) (.int .i64 0) (.int .i64 0) (.int .i64 0) (.int .i64 0) (.int .i64 0) (.int .i64 0) (.int .i64 0) (.slice none 0 0)
    rw [← hwz]
    clear hwz r0 f0 r1 f1 r2 f2 r3 f3 r4 f4 r5 f5 r6 f6 r7 f7 r8 f8
    have g0 := (blk_cell Yz 0).trans rfl
    have g1 := (blk_cell Yz 1).trans rfl
    have g2 := (blk_cell Yz 2).trans rfl
    have g3 := (blk_cell Yz 3).trans rfl
    have g4 := (blk_cell Yz 4).trans rfl
    have g5 := (blk_cell Yz 5).trans rfl
    have g6 := (blk_cell Yz 6).trans rfl
    have g7 := (blk_cell Yz 7).trans rfl
    have g8 := (blk_cell Yz 8).trans rfl
    refine bodyPost_ret (v := .tuple #[.agg #[.int .i64 0, .int .i64 0, .int .i64 0, .int .i64 0, .int .i64 0, .int .i64 0, .int .i64 0, .int .i64 0, .slice none 0 0], .int .i64 30]) (by simp [results, Try.results18, go_sem, g0, g1, g2, g3, g4, g5, g6, g7, g8]) rfl (DecR.no 30 HE.out (by omega) (hn1.trans Sz (fun j hj e => by omega)))
  have b1 : (x1 != 90) = false := by simpa using g1
  have G1 := hide g1
  clear g1
  by_cases g2 : x2 = 1
  rotate_left
  · have b2 : (x2 != 1) = true := by simpa using g2
    have HE : Hid (dcE l = 30) := hide (by unfold dcE; rw [if_neg (by have := HL.out; omega), if_pos (by rw [NM0.out, NM1.out, NM2.out]; omega)])
    clear g2
    have r0 := (blk_cell hR1 0).trans rfl
    have f0 := blk_free hR1 0
    have r1 := (blk_cell hR1 1).trans rfl
    have f1 := blk_free hR1 1
    have r2 := (blk_cell hR1 2).trans rfl
    have f2 := blk_free hR1 2
    have r3 := (blk_cell hR1 3).trans rfl
    have f3 := blk_free hR1 3
    have r4 := (blk_cell hR1 4).trans rfl
    have f4 := blk_free hR1 4
    have r5 := (blk_cell hR1 5).trans rfl
    have f5 := blk_free hR1 5
    have r6 := (blk_cell hR1 6).trans rfl
    have f6 := blk_free hR1 6
    have r7 := (blk_cell hR1 7).trans rfl
    have f7 := blk_free hR1 7
    have r8 := (blk_cell hR1 8).trans rfl
    have f8 := blk_free hR1 8
    go_wp2_with fail
    obtain ⟨wz, hwz, Yz, Sz⟩ := set9 hR1 rfl (.int .i64 0) (.int .i64 0) (.int .i64 0) (.int .i64 0) (.int .i64 0) (.int .i64 0) (.int .i64 0) (.int .i64 0) (.slice none 0 0)
    rw [← hwz]
    clear hwz r0 f0 r1 f1 r2 f2 r3 f3 r4 f4 r5 f5 r6 f6 r7 f7 r8 f8
    have g0 := (blk_cell Yz 0).trans rfl
    have g1 := (blk_cell Yz 1).trans rfl
    have g2 := (blk_cell Yz 2).trans rfl
    have g3 := (blk_cell Yz 3).trans rfl
    have g4 := (blk_cell Yz 4).trans rfl
    have g5 := (blk_cell Yz 5).trans rfl
    have g6 := (blk_cell Yz 6).trans rfl
    have g7 := (blk_cell Yz 7).trans rfl
    have g8 := (blk_cell Yz 8).trans rfl
    refine bodyPost_ret (v := .tuple #[.agg #[.int .i64 0, .int .i64 0, .int .i64 0, .int .i64 0, .int .i64 0, .int .i64 0, .int .i64 0, .int .i64 0, .slice none 0 0], .int .i64 30]) (by simp [results, Try.results18, go_sem, g0, g1, g2, g3, g4, g5, g6, g7, g8]) rfl (DecR.no 30 HE.out (by omega) (hn1.trans Sz (fun j hj e => by omega)))
  have b2 : (x2 != 1) = false := by simpa using g2
  have G2 := hide g2
  clear g2
  go_wp2_with fail
  obtain ⟨v8, hv8⟩ : ∃ v, v = nmAt l 28 2 := ⟨_, rfl⟩
  have t8 : toI (getN ((l.drop 28).take 2)) = v8 := by rw [hv8]; exact toI_same (nmAt_b hB _ _ (by omega)).1 (nmAt_b hB _ _ (by omega)).2
  have H8 := hide hv8
  have T8 := hide t8
  clear hv8 t8
  refine (num_any _ 2 _ _ _ (s28r.new hn1) (hBm 28 2) (by omega) (by omega) v8 T8.out).mono ?_
  rintro e w2 ⟨rfl, hn2⟩
  have hR2 := hn2.keep hR1
  have N2 := hn1.then hn2
  by_cases g8 : v8 = (N : Int)
  rotate_left
  · have b8 : (v8 != (n : Int) - 36) = true := by simp; omega
    have HE : Hid (dcE l = 30) := hide (by unfold dcE; rw [if_neg (by have := HL.out; omega), if_pos (by rw [← H8.out]; have := HL.out; omega)])
    clear g8
    have r0 := (blk_cell hR2 0).trans rfl
    have f0 := blk_free hR2 0
    have r1 := (blk_cell hR2 1).trans rfl
    have f1 := blk_free hR2 1
    have r2 := (blk_cell hR2 2).trans rfl
    have f2 := blk_free hR2 2
    have r3 := (blk_cell hR2 3).trans rfl
    have f3 := blk_free hR2 3
    have r4 := (blk_cell hR2 4).trans rfl
    have f4 := blk_free hR2 4
    have r5 := (blk_cell hR2 5).trans rfl
    have f5 := blk_free hR2 5
    have r6 := (blk_cell hR2 6).trans rfl
    have f6 := blk_free hR2 6
    have r7 := (blk_cell hR2 7).trans rfl
    have f7 := blk_free hR2 7
    have r8 := (blk_cell hR2 8).trans rfl
    have f8 := blk_free hR2 8
    go_wp2_with fail
    obtain ⟨wz, hwz, Yz, Sz⟩ := set9 hR2 rfl (.int .i64 0) (.int .i64 0) (.int .i64 0) (.int .i64 0) (.int .i64 0) (.int .i64 0) (.int .i64 0) (.int .i64 0) (.slice none 0 0)
    rw [← hwz]
    clear hwz r0 f0 r1 f1 r2 f2 r3 f3 r4 f4 r5 f5 r6 f6 r7 f7 r8 f8
    have g0 := (blk_cell Yz 0).trans rfl
    have g1 := (blk_cell Yz 1).trans rfl
    have g2 := (blk_cell Yz 2).trans rfl
    have g3 := (blk_cell Yz 3).trans rfl
    have g4 := (blk_cell Yz 4).trans rfl
    have g5 := (blk_cell Yz 5).trans rfl
    have g6 := (blk_cell Yz 6).trans rfl
    have g7 := (blk_cell Yz 7).trans rfl
    have g8 := (blk_cell Yz 8).trans rfl
    refine bodyPost_ret (v := .tuple #[.agg #[.int .i64 0, .int .i64 0, .int .i64 0, .int .i64 0, .int .i64 0, .int .i64 0, .int .i64 0, .int .i64 0, .slice none 0 0], .int .i64 30]) (by simp [results, Try.results18, go_sem, g0, g1, g2, g3, g4, g5, g6, g7, g8]) rfl (DecR.no 30 HE.out (by omega) (N2.trans Sz (fun j hj e => by omega)))
  subst g8
  have b8 : ((N : Int) != (n : Int) - 36) = false := by simp; omega
  have HNM : Hid (¬ (nmAt l 0 1 ≠ 78 ∨ nmAt l 1 1 ≠ 90 ∨ nmAt l 2 1 ≠ 1 ∨ nmAt l 28 2 ≠ (l.length : Int) - 36)) := hide (by
    have h8' := H8.out; have hL := HL.out
    rw [NM0.out, NM1.out, NM2.out, G0.out, G1.out, G2.out]
    omega)
  clear k0 k1 k2
  have k3' : ∀ W, New w W → W.cell? ⟨ad.block, ad.off + 3, none⟩ = some (.int .u8 x3) := fun W hW => by have := (hr.new hW).celln (k := .u8) (i := 3) (x := x3) (by have := KS.out; simp only [this]); rwa [add_lit _ _ (by omega)] at this
  clear k3
  have k4' : ∀ W, New w W → W.cell? ⟨ad.block, ad.off + 4, none⟩ = some (.int .u8 x4) := fun W hW => by have := (hr.new hW).celln (k := .u8) (i := 4) (x := x4) (by have := KS.out; simp only [this]); rwa [add_lit _ _ (by omega)] at this
  clear k4
  have k5' : ∀ W, New w W → W.cell? ⟨ad.block, ad.off + 5, none⟩ = some (.int .u8 x5) := fun W hW => by have := (hr.new hW).celln (k := .u8) (i := 5) (x := x5) (by have := KS.out; simp only [this]); rwa [add_lit _ _ (by omega)] at this
  clear k5
  have k6' : ∀ W, New w W → W.cell? ⟨ad.block, ad.off + 6, none⟩ = some (.int .u8 x6) := fun W hW => by have := (hr.new hW).celln (k := .u8) (i := 6) (x := x6) (by have := KS.out; simp only [this]); rwa [add_lit _ _ (by omega)] at this
  clear k6
  have k7' : ∀ W, New w W → W.cell? ⟨ad.block, ad.off + 7, none⟩ = some (.int .u8 x7) := fun W hW => by have := (hr.new hW).celln (k := .u8) (i := 7) (x := x7) (by have := KS.out; simp only [this]); rwa [add_lit _ _ (by omega)] at this
  clear k7
  go_wp2_with fail
  obtain ⟨v9, hv9⟩ : ∃ v, v = nmAt l 32 4 := ⟨_, rfl⟩
  have t9 : toI (getN ((l.drop 32).take 4)) = v9 := by rw [hv9]; exact toI_same (nmAt_b hB _ _ (by omega)).1 (nmAt_b hB _ _ (by omega)).2
  have hv9b := nmAt_b hB 32 4 (by omega)
  rw [← hv9] at hv9b
  obtain ⟨hv90, hv91⟩ := hv9b
  have H9 := hide hv9
  have T9 := hide t9
  clear hv9 t9
  refine mix_start (fun _ => False) w2 (by kernel_rfl) ?_
  refine mix_batch [0, 1, 4, 5, 7, 8] (by kernel_rfl) 5 _ _ _ (by kernel_rfl) (lat_mem (by (repeat (first | exact Ext.refl _ _ | assumption | apply Ext.alloc | apply Ext.drewN | apply Ext.drew | refine Ext.setCell ?_ (fun h => by first | rfl | exact absurd h (by dsimp only; omega)) _)))) ?_
  simp only [pickOps, List.getD_cons_zero, List.getD_cons_succ]
  repeat (go_big_quiet_step (fail))
  refine wpQuiet_nil ?_
  refine mix_loud (i := 2) (by kernel_rfl) rfl (fun K hK => ?_)
  go_simp
  refine (num_any _ 4 _ _ _ (s32r.new (N2.then (show New w2 _ by (repeat (first | exact Ext.refl _ _ | assumption | apply Ext.alloc | apply Ext.drewN | apply Ext.drew | refine Ext.setCell ?_ (fun h => by first | rfl | exact absurd h (by dsimp only; omega)) _))))) (hBm 32 4) (by omega) (by omega) v9 T9.out).mono ?_
  rintro e w3 ⟨rfl, hn3⟩
  have N23 : New w2 w3 := (show New w2 w2.drew by (repeat (first | exact Ext.refl _ _ | assumption | apply Ext.alloc | apply Ext.drewN | apply Ext.drew | refine Ext.setCell ?_ (fun h => by first | rfl | exact absurd h (by dsimp only; omega)) _))).then hn3
  refine hK.out _ _ (lat_mem N23) ?_
  clear hK
  refine mix_batch [3] (by kernel_rfl) 3 _ _ _ (by kernel_rfl) (lat_mem (by (repeat (first | exact Ext.refl _ _ | assumption | apply Ext.alloc | apply Ext.drewN | apply Ext.drew | refine Ext.setCell ?_ (fun h => by first | rfl | exact absurd h (by dsimp only; omega)) _)))) ?_
  simp only [pickOps, List.getD_cons_zero, List.getD_cons_succ]
  repeat (go_big_quiet_step (fail))
  refine wpQuiet_nil ?_
  refine mix_loud (i := 6) (by kernel_rfl) rfl (fun K hK => ?_)
  go_simp
  refine (rof_any _ 32 _ (l.take 32) _ (rd1.new (N2.then N23)) (fun x hx => hB x (List.mem_of_mem_take hx))).mono ?_
  rintro e w4 ⟨rfl, rfl⟩
  refine hK.out _ _ (lat_mem N23) ?_
  clear hK
  refine mix_loud (i := 9) (by kernel_rfl) rfl (fun K hK => ?_)
  go_simp
  refine (ron_any _ (adf (1, 0) (l.take 32)) rfl (adf_ok ad_one _) _ N _ (l.drop 36) _ (rd2.new (N2.then N23)) (fun x hx => hB x (List.mem_of_mem_drop hx))).mono ?_
  rintro e w4 ⟨rfl, rfl⟩
  refine hK.out _ _ (lat_mem N23) ?_
  clear hK
  rw [show adsum (adf (adf (1, 0) (l.take 32)) (l.drop 36)) = ad2 (l.take 32) (l.drop 36) from rfl]
  obtain ⟨v10, hv10⟩ : ∃ v, v = ad2 (l.take 32) (l.drop 36) := ⟨_, rfl⟩
  obtain ⟨ha0, ha1⟩ := ad2_b (l.take 32) (l.drop 36)
  rw [← hv10] at ha0 ha1 ⊢
  have H10 := hide hv10
  clear hv10
  have N3 := N2.then N23
  have hR3 := N23.keep hR2
  by_cases g9 : v9 = v10
  rotate_left
  · have b9 : (v9 != v10) = true := by simpa using g9
    have HE : Hid (dcE l = 31) := hide (by
      unfold dcE
      rw [if_neg (by have := HL.out; omega), if_neg HNM.out, if_pos (by rw [← H9.out, ← H10.out]; exact g9)])
    refine mix_batch [10] (by kernel_rfl) 0 _ _ _ (by kernel_rfl) (lat_mem (by (repeat (first | exact Ext.refl _ _ | assumption | apply Ext.alloc | apply Ext.drewN | apply Ext.drew | refine Ext.setCell ?_ (fun h => by first | rfl | exact absurd h (by dsimp only; omega)) _)))) ?_
    simp only [pickOps, List.getD_cons_zero, List.getD_cons_succ]
    repeat (go_big_quiet_step (fail))
    refine wpQuiet_nil ?_
    refine wpAnyH_done (by kernel_rfl) (NoPanic.normal ?_) _
    clear g9
    have r0 := (blk_cell hR3 0).trans rfl
    have f0 := blk_free hR3 0
    have r1 := (blk_cell hR3 1).trans rfl
    have f1 := blk_free hR3 1
    have r2 := (blk_cell hR3 2).trans rfl
    have f2 := blk_free hR3 2
    have r3 := (blk_cell hR3 3).trans rfl
    have f3 := blk_free hR3 3
    have r4 := (blk_cell hR3 4).trans rfl
    have f4 := blk_free hR3 4
    have r5 := (blk_cell hR3 5).trans rfl
    have f5 := blk_free hR3 5
    have r6 := (blk_cell hR3 6).trans rfl
    have f6 := blk_free hR3 6
    have r7 := (blk_cell hR3 7).trans rfl
    have f7 := blk_free hR3 7
    have r8 := (blk_cell hR3 8).trans rfl
    have f8 := blk_free hR3 8
    go_wp2_with fail
    obtain ⟨wz, hwz, Yz, Sz⟩ := set9 hR3 rfl (.int .i64 0) (.int .i64 0) (.int .i64 0) (.int .i64 0) (.int .i64 0) (.int .i64 0) (.int .i64 0) (.int .i64 0) (.slice none 0 0)
    rw [← hwz]
    clear hwz r0 f0 r1 f1 r2 f2 r3 f3 r4 f4 r5 f5 r6 f6 r7 f7 r8 f8
    have g0 := (blk_cell Yz 0).trans rfl
    have g1 := (blk_cell Yz 1).trans rfl
    have g2 := (blk_cell Yz 2).trans rfl
    have g3 := (blk_cell Yz 3).trans rfl
    have g4 := (blk_cell Yz 4).trans rfl
    have g5 := (blk_cell Yz 5).trans rfl
    have g6 := (blk_cell Yz 6).trans rfl
    have g7 := (blk_cell Yz 7).trans rfl
    have g8 := (blk_cell Yz 8).trans rfl
    refine bodyPost_ret (v := .tuple #[.agg #[.int .i64 0, .int .i64 0, .int .i64 0, .int .i64 0, .int .i64 0, .int .i64 0, .int .i64 0, .int .i64 0, .slice none 0 0], .int .i64 31]) (by simp [results, Try.results18, go_sem, g0, g1, g2, g3, g4, g5, g6, g7, g8]) rfl (DecR.no 31 HE.out (by omega) (N3.trans Sz (fun j hj e => by omega)))
  have b9 : (v9 != v10) = false := by simpa using g9
  have HSM : Hid (nmAt l 32 4 = ad2 (l.take 32) (l.drop 36)) := hide (by rw [← H9.out, ← H10.out]; exact g9)
  refine mix_batch [10] (by kernel_rfl) 0 _ _ _ (by kernel_rfl) (lat_mem (by (repeat (first | exact Ext.refl _ _ | assumption | apply Ext.alloc | apply Ext.drewN | apply Ext.drew | refine Ext.setCell ?_ (fun h => by first | rfl | exact absurd h (by dsimp only; omega)) _)))) ?_
  simp only [pickOps, List.getD_cons_zero, List.getD_cons_succ]
  repeat (go_big_quiet_step (fail))
  refine wpQuiet_nil ?_
  refine wpAnyH_done (by kernel_rfl) (NoPanic.normal ?_) _
  clear b9 g9
  obtain ⟨v5, hv5⟩ : ∃ v, toI (getN ((l.drop 8).take 4)) = v := ⟨_, rfl⟩
  obtain ⟨v6, hv6⟩ : ∃ v, toI (getN ((l.drop 12).take 8)) = v := ⟨_, rfl⟩
  obtain ⟨v7, hv7⟩ : ∃ v, toI (getN ((l.drop 20).take 8)) = v := ⟨_, rfl⟩
  have HV5 := hide hv5
  have HV6 := hide hv6
  have HV7 := hide hv7
  clear hv5 hv6 hv7
  go_upto_region 7 with (fail)
  go_cut [4] (fun s4 wc => ∃ X, s4 = .pointer (some ⟨X, 0, none⟩) ∧ wc.heap[X]? = some (.cells #[.int .i64 x3, .int .i64 x4, .int .i64 x5, .int .i64 x6, .int .i64 x7, .int .i64 v5, .int .i64 v6, .int .i64 v7, .slice (sl (some ad) c 36 1) N (c - 36)] 25) ∧ New w wc ∧ wc.heap[R]? = some (zeroP 25) ∧ X ≠ R ∧ w.heap.size ≤ X)
  case first =>
    have k3 : ∀ y : Lat (fun _ => False) w3, y.W.cell? ⟨ad.block, ad.off + 3, none⟩ = some (.int .u8 x3) := fun y => k3' _ (N3.then y.ext)
    have k4 : ∀ y : Lat (fun _ => False) w3, y.W.cell? ⟨ad.block, ad.off + 4, none⟩ = some (.int .u8 x4) := fun y => k4' _ (N3.then y.ext)
    have k5 : ∀ y : Lat (fun _ => False) w3, y.W.cell? ⟨ad.block, ad.off + 5, none⟩ = some (.int .u8 x5) := fun y => k5' _ (N3.then y.ext)
    have k6 : ∀ y : Lat (fun _ => False) w3, y.W.cell? ⟨ad.block, ad.off + 6, none⟩ = some (.int .u8 x6) := fun y => k6' _ (N3.then y.ext)
    have k7 : ∀ y : Lat (fun _ => False) w3, y.W.cell? ⟨ad.block, ad.off + 7, none⟩ = some (.int .u8 x7) := fun y => k7' _ (N3.then y.ext)
    refine mix_start (fun _ => False) w3 (by kernel_rfl) ?_
    refine mix_batch [0, 1, 2, 3, 4, 5, 6, 7, 8, 9, 10, 11, 12, 13, 14, 15, 16, 17, 18, 19, 20, 21, 23, 24, 26, 27, 29, 30] (by kernel_rfl) 6 _ _ _ (by kernel_rfl) (lat_mem (by (repeat (first | exact Ext.refl _ _ | assumption | apply Ext.alloc | apply Ext.drewN | apply Ext.drew | refine Ext.setCell ?_ (fun h => by first | rfl | exact absurd h (by dsimp only; omega)) _)))) ?_
    simp only [pickOps, List.getD_cons_zero, List.getD_cons_succ]
    repeat (go_big_quiet_step (fail))
    refine wpQuiet_nil ?_
    clear k3 k4 k5 k6 k7
    obtain ⟨w6, hw6⟩ : ∃ v, v = w3.drew := ⟨_, rfl⟩
    rw [← hw6]
    have E6 : New w3 w6 := by rw [hw6]; exact (Ext.refl _ _).drew
    clear hw6
    refine mix_two (i := 22) (j := 32) (by kernel_rfl) rfl rfl (fun K hK => ?_) (fun K hK => ?_)
    · go_simp
      refine (num_any _ 4 _ _ _ (s8r.new (N3.then E6)) (hBm 8 4) (by omega) (by omega) v5 HV5.out).mono ?_
      rintro e w11 ⟨rfl, he11⟩
      have E11 := E6.then he11
      refine hK.out _ _ (lat_mem E11) ?_
      clear hK
      refine mix_two (i := 25) (j := 32) (by kernel_rfl) rfl rfl (fun K hK => ?_) (fun K hK => ?_)
      · go_simp
        refine (num_any _ 8 _ _ _ (s12r.new (N3.then E11)) (hBm 12 8) (by omega) (by omega) v6 HV6.out).mono ?_
        rintro e w12 ⟨rfl, he12⟩
        have E12 := E11.then he12
        refine hK.out _ _ (lat_mem E12) ?_
        clear hK
        refine mix_two (i := 28) (j := 32) (by kernel_rfl) rfl rfl (fun K hK => ?_) (fun K hK => ?_)
        · go_simp
          refine (num_any _ 8 _ _ _ (s20r.new (N3.then E12)) (hBm 20 8) (by omega) (by omega) v7 HV7.out).mono ?_
          rintro e w13 ⟨rfl, he13⟩
          have E13 := E12.then he13
          refine hK.out _ _ (lat_mem E13) ?_
          clear hK
          refine mix_batch [31] (by kernel_rfl) 2 _ _ _ (by kernel_rfl) (lat_mem (by (repeat (first | exact Ext.refl _ _ | assumption | apply Ext.alloc | apply Ext.drewN | apply Ext.drew | refine Ext.setCell ?_ (fun h => by first | rfl | exact absurd h (by dsimp only; omega)) _)))) ?_
          simp only [pickOps, List.getD_cons_zero, List.getD_cons_succ]
          repeat (go_big_quiet_step (fail))
          refine wpQuiet_nil ?_
          refine mix_loud (i := 32) (by kernel_rfl) rfl (fun K hK => ?_)
          go_simp
          obtain ⟨w14, hw14⟩ : ∃ v, v = w13.alloc (zeroP 25) := ⟨_, rfl⟩
          have X14 : w14.heap[w13.heap.size]? = some (zeroP 25) := by rw [hw14]; exact blk_new _ _
          have A14 : New w13 w14 := by rw [hw14]; exact New.alloc1 _ _
          have hXR : w13.heap.size ≠ R := fun e => by have := blk_lt (E13.keep hR3); omega
          rw [← hw14]
          have hXw : w.heap.size ≤ w13.heap.size := (N3.then E13).size
          have hX3 : w3.heap.size ≤ w13.heap.size := E13.size
          clear hw14
          have E14 := E13.then A14
          refine hK.out _ _ (lat_mem E14) ?_
          clear hK
          have x0' := (blk_cell X14 0).trans rfl
          have y0' := blk_free X14 0
          have x1' := (blk_cell X14 1).trans rfl
          have y1' := blk_free X14 1
          have x2' := (blk_cell X14 2).trans rfl
          have y2' := blk_free X14 2
          have x3' := (blk_cell X14 3).trans rfl
          have y3' := blk_free X14 3
          have x4' := (blk_cell X14 4).trans rfl
          have y4' := blk_free X14 4
          have x5' := (blk_cell X14 5).trans rfl
          have y5' := blk_free X14 5
          have x6' := (blk_cell X14 6).trans rfl
          have y6' := blk_free X14 6
          have x7' := (blk_cell X14 7).trans rfl
          have y7' := blk_free X14 7
          have x8' := (blk_cell X14 8).trans rfl
          have y8' := blk_free X14 8
          refine mix_loud (i := 33) (by kernel_rfl) rfl (fun K hK => ?_)
          go_simp
          obtain ⟨w15, hw15, Y15, S15⟩ := set9 X14 rfl (.int .i64 x3) (.int .i64 x4) (.int .i64 x5) (.int .i64 x6) (.int .i64 x7) (.int .i64 v5) (.int .i64 v6) (.int .i64 v7) (.slice (sl (some ad) c 36 1) N (c - 36))
          rw [← hw15]
          clear hw15
          have F15 : New w3 w15 := E14.trans S15 (fun j hj e => by omega)
          refine hK.out _ _ (lat_mem F15) ?_
          clear hK x0' y0' x1' y1' x2' y2' x3' y3' x4' y4' x5' y5' x6' y6' x7' y7' x8' y8'
          refine wpAnyH_done (by kernel_rfl) (NoPanic.normal ?_) _
          go_wp2_with fail
          go_meet
          exact ⟨_, rfl, Y15, N3.then F15, F15.keep hR3, hXR, hXw⟩
        · go_simp
          obtain ⟨w16, hw16⟩ : ∃ v, v = w12.alloc (zeroP 25) := ⟨_, rfl⟩
          have X16 : w16.heap[w12.heap.size]? = some (zeroP 25) := by rw [hw16]; exact blk_new _ _
          have A16 : New w12 w16 := by rw [hw16]; exact New.alloc1 _ _
          have hXR : w12.heap.size ≠ R := fun e => by have := blk_lt (E12.keep hR3); omega
          rw [← hw16]
          have hXw : w.heap.size ≤ w12.heap.size := (N3.then E12).size
          have hX3 : w3.heap.size ≤ w12.heap.size := E12.size
          clear hw16
          have E16 := E12.then A16
          refine hK.out _ _ (lat_mem E16) ?_
          clear hK
          refine mix_loud (i := 28) (by kernel_rfl) rfl (fun K hK => ?_)
          go_simp
          refine (num_any _ 8 _ _ _ (s20r.new (N3.then E16)) (hBm 20 8) (by omega) (by omega) v7 HV7.out).mono ?_
          rintro e w17 ⟨rfl, he17⟩
          have E17 := E16.then he17
          have X17 := he17.keep X16
          refine hK.out _ _ (lat_mem E17) ?_
          clear hK
          refine mix_batch [31] (by kernel_rfl) 1 _ _ _ (by kernel_rfl) (lat_mem (by (repeat (first | exact Ext.refl _ _ | assumption | apply Ext.alloc | apply Ext.drewN | apply Ext.drew | refine Ext.setCell ?_ (fun h => by first | rfl | exact absurd h (by dsimp only; omega)) _)))) ?_
          simp only [pickOps, List.getD_cons_zero, List.getD_cons_succ]
          repeat (go_big_quiet_step (fail))
          refine wpQuiet_nil ?_
          have x0' := (blk_cell X17 0).trans rfl
          have y0' := blk_free X17 0
          have x1' := (blk_cell X17 1).trans rfl
          have y1' := blk_free X17 1
          have x2' := (blk_cell X17 2).trans rfl
          have y2' := blk_free X17 2
          have x3' := (blk_cell X17 3).trans rfl
          have y3' := blk_free X17 3
          have x4' := (blk_cell X17 4).trans rfl
          have y4' := blk_free X17 4
          have x5' := (blk_cell X17 5).trans rfl
          have y5' := blk_free X17 5
          have x6' := (blk_cell X17 6).trans rfl
          have y6' := blk_free X17 6
          have x7' := (blk_cell X17 7).trans rfl
          have y7' := blk_free X17 7
          have x8' := (blk_cell X17 8).trans rfl
          have y8' := blk_free X17 8
          refine mix_loud (i := 33) (by kernel_rfl) rfl (fun K hK => ?_)
          go_simp
          obtain ⟨w18, hw18, Y18, S18⟩ := set9 X17 rfl (.int .i64 x3) (.int .i64 x4) (.int .i64 x5) (.int .i64 x6) (.int .i64 x7) (.int .i64 v5) (.int .i64 v6) (.int .i64 v7) (.slice (sl (some ad) c 36 1) N (c - 36))
          rw [← hw18]
          clear hw18
          have F18 : New w3 w18 := E17.trans S18 (fun j hj e => by omega)
          refine hK.out _ _ (lat_mem F18) ?_
          clear hK x0' y0' x1' y1' x2' y2' x3' y3' x4' y4' x5' y5' x6' y6' x7' y7' x8' y8'
          refine wpAnyH_done (by kernel_rfl) (NoPanic.normal ?_) _
          go_wp2_with fail
          go_meet
          exact ⟨_, rfl, Y18, N3.then F18, F18.keep hR3, hXR, hXw⟩
      · go_simp
        obtain ⟨w19, hw19⟩ : ∃ v, v = w11.alloc (zeroP 25) := ⟨_, rfl⟩
        have X19 : w19.heap[w11.heap.size]? = some (zeroP 25) := by rw [hw19]; exact blk_new _ _
        have A19 : New w11 w19 := by rw [hw19]; exact New.alloc1 _ _
        have hXR : w11.heap.size ≠ R := fun e => by have := blk_lt (E11.keep hR3); omega
        rw [← hw19]
        have hXw : w.heap.size ≤ w11.heap.size := (N3.then E11).size
        have hX3 : w3.heap.size ≤ w11.heap.size := E11.size
        clear hw19
        have E19 := E11.then A19
        refine hK.out _ _ (lat_mem E19) ?_
        clear hK
        refine mix_loud (i := 25) (by kernel_rfl) rfl (fun K hK => ?_)
        go_simp
        refine (num_any _ 8 _ _ _ (s12r.new (N3.then E19)) (hBm 12 8) (by omega) (by omega) v6 HV6.out).mono ?_
        rintro e w20 ⟨rfl, he20⟩
        have E20 := E19.then he20
        have X20 := he20.keep X19
        refine hK.out _ _ (lat_mem E20) ?_
        clear hK
        refine mix_loud (i := 28) (by kernel_rfl) rfl (fun K hK => ?_)
        go_simp
        refine (num_any _ 8 _ _ _ (s20r.new (N3.then E20)) (hBm 20 8) (by omega) (by omega) v7 HV7.out).mono ?_
        rintro e w21 ⟨rfl, he21⟩
        have E21 := E20.then he21
        have X21 := he21.keep X20
        refine hK.out _ _ (lat_mem E21) ?_
        clear hK
        refine mix_batch [31] (by kernel_rfl) 1 _ _ _ (by kernel_rfl) (lat_mem (by (repeat (first | exact Ext.refl _ _ | assumption | apply Ext.alloc | apply Ext.drewN | apply Ext.drew | refine Ext.setCell ?_ (fun h => by first | rfl | exact absurd h (by dsimp only; omega)) _)))) ?_
        simp only [pickOps, List.getD_cons_zero, List.getD_cons_succ]
        repeat (go_big_quiet_step (fail))
        refine wpQuiet_nil ?_
        have x0' := (blk_cell X21 0).trans rfl
        have y0' := blk_free X21 0
        have x1' := (blk_cell X21 1).trans rfl
        have y1' := blk_free X21 1
        have x2' := (blk_cell X21 2).trans rfl
        have y2' := blk_free X21 2
        have x3' := (blk_cell X21 3).trans rfl
        have y3' := blk_free X21 3
        have x4' := (blk_cell X21 4).trans rfl
        have y4' := blk_free X21 4
        have x5' := (blk_cell X21 5).trans rfl
        have y5' := blk_free X21 5
        have x6' := (blk_cell X21 6).trans rfl
        have y6' := blk_free X21 6
        have x7' := (blk_cell X21 7).trans rfl
        have y7' := blk_free X21 7
        have x8' := (blk_cell X21 8).trans rfl
        have y8' := blk_free X21 8
        refine mix_loud (i := 33) (by kernel_rfl) rfl (fun K hK => ?_)
        go_simp
        obtain ⟨w22, hw22, Y22, S22⟩ := set9 X21 rfl (.int .i64 x3) (.int .i64 x4) (.int .i64 x5) (.int .i64 x6) (.int .i64 x7) (.int .i64 v5) (.int .i64 v6) (.int .i64 v7) (.slice (sl (some ad) c 36 1) N (c - 36))
        rw [← hw22]
        clear hw22
        have F22 : New w3 w22 := E21.trans S22 (fun j hj e => by omega)
        refine hK.out _ _ (lat_mem F22) ?_
        clear hK x0' y0' x1' y1' x2' y2' x3' y3' x4' y4' x5' y5' x6' y6' x7' y7' x8' y8'
        refine wpAnyH_done (by kernel_rfl) (NoPanic.normal ?_) _
        go_wp2_with fail
        go_meet
        exact ⟨_, rfl, Y22, N3.then F22, F22.keep hR3, hXR, hXw⟩
    · go_simp
      obtain ⟨w23, hw23⟩ : ∃ v, v = w6.alloc (zeroP 25) := ⟨_, rfl⟩
      have X23 : w23.heap[w6.heap.size]? = some (zeroP 25) := by rw [hw23]; exact blk_new _ _
      have A23 : New w6 w23 := by rw [hw23]; exact New.alloc1 _ _
      have hXR : w6.heap.size ≠ R := fun e => by have := blk_lt (E6.keep hR3); omega
      rw [← hw23]
      have hXw : w.heap.size ≤ w6.heap.size := (N3.then E6).size
      have hX3 : w3.heap.size ≤ w6.heap.size := E6.size
      clear hw23
      have E23 := E6.then A23
      refine hK.out _ _ (lat_mem E23) ?_
      clear hK
      refine mix_loud (i := 22) (by kernel_rfl) rfl (fun K hK => ?_)
      go_simp
      refine (num_any _ 4 _ _ _ (s8r.new (N3.then E23)) (hBm 8 4) (by omega) (by omega) v5 HV5.out).mono ?_
      rintro e w24 ⟨rfl, he24⟩
      have E24 := E23.then he24
      have X24 := he24.keep X23
      refine hK.out _ _ (lat_mem E24) ?_
      clear hK
      refine mix_loud (i := 25) (by kernel_rfl) rfl (fun K hK => ?_)
      go_simp
      refine (num_any _ 8 _ _ _ (s12r.new (N3.then E24)) (hBm 12 8) (by omega) (by omega) v6 HV6.out).mono ?_
      rintro e w25 ⟨rfl, he25⟩
      have E25 := E24.then he25
      have X25 := he25.keep X24
      refine hK.out _ _ (lat_mem E25) ?_
      clear hK
      refine mix_loud (i := 28) (by kernel_rfl) rfl (fun K hK => ?_)
      go_simp
      refine (num_any _ 8 _ _ _ (s20r.new (N3.then E25)) (hBm 20 8) (by omega) (by omega) v7 HV7.out).mono ?_
      rintro e w26 ⟨rfl, he26⟩
      have E26 := E25.then he26
      have X26 := he26.keep X25
      refine hK.out _ _ (lat_mem E26) ?_
      clear hK
      refine mix_batch [31] (by kernel_rfl) 1 _ _ _ (by kernel_rfl) (lat_mem (by (repeat (first | exact Ext.refl _ _ | assumption | apply Ext.alloc | apply Ext.drewN | apply Ext.drew | refine Ext.setCell ?_ (fun h => by first | rfl | exact absurd h (by dsimp only; omega)) _)))) ?_
      simp only [pickOps, List.getD_cons_zero, List.getD_cons_succ]
      repeat (go_big_quiet_step (fail))
      refine wpQuiet_nil ?_
      have x0' := (blk_cell X26 0).trans rfl
      have y0' := blk_free X26 0
      have x1' := (blk_cell X26 1).trans rfl
      have y1' := blk_free X26 1
      have x2' := (blk_cell X26 2).trans rfl
      have y2' := blk_free X26 2
      have x3' := (blk_cell X26 3).trans rfl
      have y3' := blk_free X26 3
      have x4' := (blk_cell X26 4).trans rfl
      have y4' := blk_free X26 4
      have x5' := (blk_cell X26 5).trans rfl
      have y5' := blk_free X26 5
      have x6' := (blk_cell X26 6).trans rfl
      have y6' := blk_free X26 6
      have x7' := (blk_cell X26 7).trans rfl
      have y7' := blk_free X26 7
      have x8' := (blk_cell X26 8).trans rfl
      have y8' := blk_free X26 8
      refine mix_loud (i := 33) (by kernel_rfl) rfl (fun K hK => ?_)
      go_simp
      obtain ⟨w27, hw27, Y27, S27⟩ := set9 X26 rfl (.int .i64 x3) (.int .i64 x4) (.int .i64 x5) (.int .i64 x6) (.int .i64 x7) (.int .i64 v5) (.int .i64 v6) (.int .i64 v7) (.slice (sl (some ad) c 36 1) N (c - 36))
      rw [← hw27]
      clear hw27
      have F27 : New w3 w27 := E26.trans S27 (fun j hj e => by omega)
      refine hK.out _ _ (lat_mem F27) ?_
      clear hK x0' y0' x1' y1' x2' y2' x3' y3' x4' y4' x5' y5' x6' y6' x7' y7' x8' y8'
      refine wpAnyH_done (by kernel_rfl) (NoPanic.normal ?_) _
      go_wp2_with fail
      go_meet
      exact ⟨_, rfl, Y27, N3.then F27, F27.keep hR3, hXR, hXw⟩
  case rest =>
    obtain ⟨X, rfl, hX, hnw, hR, hXR, hXw⟩ := hcut
    clear hR3 hR2 hR1
    have hdP : Hid (dcP l = ⟨x3, x4, x5, x6, x7, v5, v6, v7, l.drop 36⟩) := hide (by
      unfold dcP
      rw [NM3.out, NM4.out, NM5.out, NM6.out, NM7.out, ← HV5.out, ← HV6.out, ← HV7.out]
      rw [show toI (getN ((l.drop 8).take 4)) = nmAt l 8 4 from toI_same (nmAt_b hB 8 4 (by omega)).1 (nmAt_b hB 8 4 (by omega)).2]
      rfl)
    have hlen36 : (l.drop 36).length = N := by rw [List.length_drop, HL.out]; exact HN.out.symm
    have HL36 := hide hlen36
    clear hlen36
    have HE0 : Hid (dcE l = if okB ⟨x3, x4, x5, x6, x7, v5, v6, v7, l.drop 36⟩ = true ∧ enL ⟨x3, x4, x5, x6, x7, v5, v6, v7, l.drop 36⟩ = l then 0 else 30) := hide (by
      unfold dcE
      rw [if_neg (by have := HL.out; omega), if_neg HNM.out, if_neg (fun h => h HSM.out), hdP.out])
    have hBd : isB (l.drop 36) := fun x hx => hB x (List.mem_of_mem_drop hx)
    have hrd := rd2.new hnw
    have z0 := (blk_cell hX 0).trans rfl
    have z1 := (blk_cell hX 1).trans rfl
    have z2 := (blk_cell hX 2).trans rfl
    have z3 := (blk_cell hX 3).trans rfl
    have z4 := (blk_cell hX 4).trans rfl
    have z5 := (blk_cell hX 5).trans rfl
    have z6 := (blk_cell hX 6).trans rfl
    have z7 := (blk_cell hX 7).trans rfl
    have z8 := (blk_cell hX 8).trans rfl
    go_wp2_with fail
    cases hok : okB ⟨x3, x4, x5, x6, x7, v5, v6, v7, l.drop 36⟩
    · have HOK := hide hok
      have HE : Hid (dcE l = 30) := hide (by rw [HE0.out, if_neg (fun h => by rw [hok] at h; exact absurd h.1 (by decide))])
      clear hok
      refine (renc_no ⟨x3, x4, x5, x6, x7, v5, v6, v7, l.drop 36⟩ _ N _ _ HL36.out HOK.out).mono ?_
      rintro e w15 ⟨rfl, hn15⟩
      have hR15 := hn15.keep hR
      have N15 := hnw.then hn15
      clear z0 z1 z2 z3 z4 z5 z6 z7 z8
      have r0 := (blk_cell hR15 0).trans rfl
      have f0 := blk_free hR15 0
      have r1 := (blk_cell hR15 1).trans rfl
      have f1 := blk_free hR15 1
      have r2 := (blk_cell hR15 2).trans rfl
      have f2 := blk_free hR15 2
      have r3 := (blk_cell hR15 3).trans rfl
      have f3 := blk_free hR15 3
      have r4 := (blk_cell hR15 4).trans rfl
      have f4 := blk_free hR15 4
      have r5 := (blk_cell hR15 5).trans rfl
      have f5 := blk_free hR15 5
      have r6 := (blk_cell hR15 6).trans rfl
      have f6 := blk_free hR15 6
      have r7 := (blk_cell hR15 7).trans rfl
      have f7 := blk_free hR15 7
      have r8 := (blk_cell hR15 8).trans rfl
      have f8 := blk_free hR15 8
      go_wp2_with fail
      obtain ⟨wz, hwz, Yz, Sz⟩ := set9 hR15 rfl (.int .i64 0) (.int .i64 0) (.int .i64 0) (.int .i64 0) (.int .i64 0) (.int .i64 0) (.int .i64 0) (.int .i64 0) (.slice none 0 0)
      rw [← hwz]
      clear hwz r0 f0 r1 f1 r2 f2 r3 f3 r4 f4 r5 f5 r6 f6 r7 f7 r8 f8
      have g0 := (blk_cell Yz 0).trans rfl
      have g1 := (blk_cell Yz 1).trans rfl
      have g2 := (blk_cell Yz 2).trans rfl
      have g3 := (blk_cell Yz 3).trans rfl
      have g4 := (blk_cell Yz 4).trans rfl
      have g5 := (blk_cell Yz 5).trans rfl
      have g6 := (blk_cell Yz 6).trans rfl
      have g7 := (blk_cell Yz 7).trans rfl
      have g8 := (blk_cell Yz 8).trans rfl
      refine bodyPost_ret (v := .tuple #[.agg #[.int .i64 0, .int .i64 0, .int .i64 0, .int .i64 0, .int .i64 0, .int .i64 0, .int .i64 0, .int .i64 0, .slice none 0 0], .int .i64 30]) (by simp [results, Try.results18, go_sem, g0, g1, g2, g3, g4, g5, g6, g7, g8]) rfl (DecR.no 30 HE.out (by omega) (N15.trans Sz (fun j hj e => by omega)))
    · have HOK := hide hok
      have hbd := ok_bnd hok
      clear hok
      refine (renc_yes ⟨x3, x4, x5, x6, x7, v5, v6, v7, l.drop 36⟩ _ N _ _ HL36.out HOK.out hrd hBd).mono ?_
      rintro e w15 ⟨A5, c5, rfl, ho5, hn15⟩
      have hR15 := hn15.keep hR
      have N15 := hnw.then hn15
      have hX15 := hn15.keep hX
      have hrd15 := hrd.new hn15
      clear z0 z1 z2 z3 z4 z5 z6 z7 z8
      have q1 : (convert 23 9 (.slice A5 (36 + N) c5)).run Try.prog w15 = .ok (.string (strOfNums (enL ⟨x3, x4, x5, x6, x7, v5, v6, v7, l.drop 36⟩))) w15 := Str.of ho5.rd
      have q2 : (convert 23 9 (.slice (some ad) n c)).run Try.prog w15 = .ok (.string (strOfNums l)) w15 := Str.of (hr.new N15)
      have heB := enL_isB hbd hBd
      obtain ⟨S, hS⟩ : ∃ S, S = strOfNums (enL ⟨x3, x4, x5, x6, x7, v5, v6, v7, l.drop 36⟩) := ⟨_, rfl⟩
      obtain ⟨S', hS'⟩ : ∃ S, S = strOfNums l := ⟨_, rfl⟩
      rw [← hS] at q1
      rw [← hS'] at q2
      by_cases heq : enL ⟨x3, x4, x5, x6, x7, v5, v6, v7, l.drop 36⟩ = l
      · have HE : Hid (dcE l = 0) := hide (by rw [HE0.out, if_pos ⟨HOK.out, heq⟩])
        have hse : (S.toList == S'.toList) = true := by rw [hS, hS', heq]; simp
        have hse2 : (S.toList != S'.toList) = false := by rw [bne, hse]; rfl
        clear heq hS hS'
        have z0 := (blk_cell hX15 0).trans rfl
        have z1 := (blk_cell hX15 1).trans rfl
        have z2 := (blk_cell hX15 2).trans rfl
        have z3 := (blk_cell hX15 3).trans rfl
        have z4 := (blk_cell hX15 4).trans rfl
        have z5 := (blk_cell hX15 5).trans rfl
        have z6 := (blk_cell hX15 6).trans rfl
        have z7 := (blk_cell hX15 7).trans rfl
        have z8 := (blk_cell hX15 8).trans rfl
        have r0 := (blk_cell hR15 0).trans rfl
        have f0 := blk_free hR15 0
        have r1 := (blk_cell hR15 1).trans rfl
        have f1 := blk_free hR15 1
        have r2 := (blk_cell hR15 2).trans rfl
        have f2 := blk_free hR15 2
        have r3 := (blk_cell hR15 3).trans rfl
        have f3 := blk_free hR15 3
        have r4 := (blk_cell hR15 4).trans rfl
        have f4 := blk_free hR15 4
        have r5 := (blk_cell hR15 5).trans rfl
        have f5 := blk_free hR15 5
        have r6 := (blk_cell hR15 6).trans rfl
        have f6 := blk_free hR15 6
        have r7 := (blk_cell hR15 7).trans rfl
        have f7 := blk_free hR15 7
        have r8 := (blk_cell hR15 8).trans rfl
        have f8 := blk_free hR15 8
        go_wp2_with fail
        obtain ⟨wz, hwz, Yz, Sz⟩ := set9 hR15 rfl (.int .i64 x3) (.int .i64 x4) (.int .i64 x5) (.int .i64 x6) (.int .i64 x7) (.int .i64 v5) (.int .i64 v6) (.int .i64 v7) (.slice (sl (some ad) c 36 1) N (c - 36))
        rw [← hwz]
        clear hwz r0 f0 r1 f1 r2 f2 r3 f3 r4 f4 r5 f5 r6 f6 r7 f7 r8 f8 z0 z1 z2 z3 z4 z5 z6 z7 z8
        have g0 := (blk_cell Yz 0).trans rfl
        have g1 := (blk_cell Yz 1).trans rfl
        have g2 := (blk_cell Yz 2).trans rfl
        have g3 := (blk_cell Yz 3).trans rfl
        have g4 := (blk_cell Yz 4).trans rfl
        have g5 := (blk_cell Yz 5).trans rfl
        have g6 := (blk_cell Yz 6).trans rfl
        have g7 := (blk_cell Yz 7).trans rfl
        have g8 := (blk_cell Yz 8).trans rfl
        have hAR : ∀ j, inA (sl (some ad) c 36 1) j → N = 0 ∨ j ≠ R := fun j hj => by
          by_cases h0 : N = 0
          · exact .inl h0
          · exact .inr (fun e => by have := rd2.lt (by omega) (by omega) hj; omega)
        have hrz : Rd wz 1 (sl (some ad) c 36 1) N (c - 36) (bts (l.drop 36)) := by
          by_cases h0 : N = 0
          · have e : l.drop 36 = [] := List.eq_nil_of_length_eq_zero (by rw [HL36.out, h0])
            rw [e] at hrd15 ⊢
            exact ⟨hrd15.len, hrd15.cap, hrd15.top, hrd15.none_, hrd15.one, fun _ _ _ _ hu => by simp [bts] at hu⟩
          · exact hrd15.keep Sz (fun j hj e => ((hAR j hj).resolve_left h0) e)
        refine bodyPost_ret (v := .tuple #[.agg #[.int .i64 x3, .int .i64 x4, .int .i64 x5, .int .i64 x6, .int .i64 x7, .int .i64 v5, .int .i64 v6, .int .i64 v7, .slice (sl (some ad) c 36 1) N (c - 36)], .int .i64 0]) (by simp [results, Try.results18, go_sem, g0, g1, g2, g3, g4, g5, g6, g7, g8]) rfl ⟨N15.trans Sz (fun j hj e => by omega), .inl ⟨HE.out, _, N, _, by rw [hdP.out], hrz⟩⟩
      · have HE : Hid (dcE l = 30) := hide (by rw [HE0.out, if_neg (fun h => heq h.2)])
        have hse : (S.toList == S'.toList) = false := by rw [hS, hS']; exact str_ne (fun hh => heq (strOf_inj heB hB hh))
        have hse2 : (S.toList != S'.toList) = true := by rw [bne, hse]; rfl
        clear heq hS hS'
        have r0 := (blk_cell hR15 0).trans rfl
        have f0 := blk_free hR15 0
        have r1 := (blk_cell hR15 1).trans rfl
        have f1 := blk_free hR15 1
        have r2 := (blk_cell hR15 2).trans rfl
        have f2 := blk_free hR15 2
        have r3 := (blk_cell hR15 3).trans rfl
        have f3 := blk_free hR15 3
        have r4 := (blk_cell hR15 4).trans rfl
        have f4 := blk_free hR15 4
        have r5 := (blk_cell hR15 5).trans rfl
        have f5 := blk_free hR15 5
        have r6 := (blk_cell hR15 6).trans rfl
        have f6 := blk_free hR15 6
        have r7 := (blk_cell hR15 7).trans rfl
        have f7 := blk_free hR15 7
        have r8 := (blk_cell hR15 8).trans rfl
        have f8 := blk_free hR15 8
        go_wp2_with fail
        obtain ⟨wz, hwz, Yz, Sz⟩ := set9 hR15 rfl (.int .i64 0) (.int .i64 0) (.int .i64 0) (.int .i64 0) (.int .i64 0) (.int .i64 0) (.int .i64 0) (.int .i64 0) (.slice none 0 0)
        rw [← hwz]
        clear hwz r0 f0 r1 f1 r2 f2 r3 f3 r4 f4 r5 f5 r6 f6 r7 f7 r8 f8
        have g0 := (blk_cell Yz 0).trans rfl
        have g1 := (blk_cell Yz 1).trans rfl
        have g2 := (blk_cell Yz 2).trans rfl
        have g3 := (blk_cell Yz 3).trans rfl
        have g4 := (blk_cell Yz 4).trans rfl
        have g5 := (blk_cell Yz 5).trans rfl
        have g6 := (blk_cell Yz 6).trans rfl
        have g7 := (blk_cell Yz 7).trans rfl
        have g8 := (blk_cell Yz 8).trans rfl
        refine bodyPost_ret (v := .tuple #[.agg #[.int .i64 0, .int .i64 0, .int .i64 0, .int .i64 0, .int .i64 0, .int .i64 0, .int .i64 0, .int .i64 0, .slice none 0 0], .int .i64 30]) (by simp [results, Try.results18, go_sem, g0, g1, g2, g3, g4, g5, g6, g7, g8]) rfl (DecR.no 30 HE.out (by omega) (N15.trans Sz (fun j hj e => by omega)))
end Go.Proofs.Ytdgleplmmbkgfaa
