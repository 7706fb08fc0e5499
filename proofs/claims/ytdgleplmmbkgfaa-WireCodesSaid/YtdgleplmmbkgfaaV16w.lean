/- Walks: data without its payload; a header that goes back. -/
import Derived.Test.YtdgleplmmbkgfaaV15
namespace Go.Proofs.Ytdgleplmmbkgfaa
open Go.RowKit
set_option maxRecDepth 100000

set_option maxHeartbeats 8000000 in
theorem trim_b (P : Pk) (A : Option Addr) (n c : Nat) (w : World) (hn : P.b.length = n) (b : Bool) (h : trB P = b) : Calls Try.prog 11 #[pkV P A n c] w fun e w' => e = .returned (.tuple #[bif b then pkV (trP P) none 0 0 else pkV P A n c, .bool b]) ∧ New w w' := by
  have hn1 := New.alloc1 w (pkO P A n c 25)
  have hb1 := blk_new w (pkO P A n c 25)
  have hn2 := New.alloc1 (w.alloc (pkO P A n c 25)) (zeroP 25)
  have hr2 := blk_new (w.alloc (pkO P A n c 25)) (zeroP 25)
  have hb2 := hn2.keep hb1
  have N2 := hn1.then hn2
  rw [World.size_alloc] at hr2
  obtain ⟨v, hv⟩ : ∃ v, okB P = v := ⟨_, rfl⟩
  have HV := hide hv
  have HN := hide hn
  have HB := hide h
  clear hv hn h hn1 hb1 hn2
  go_enter Try.func11, Try.ntmps11
  go_wp2_with fail
  refine (check_b P A n c v _ HN.out HV.out).mono ?_
  rintro e w3 ⟨rfl, hn3⟩
  have hb3 := hn3.keep hb2
  have hr3 := hn3.keep hr2
  have N3 := N2.then hn3
  clear hn3 hb2 hr2
  obtain ⟨R, hR⟩ : ∃ R, R = w.heap.size + 1 := ⟨_, rfl⟩
  obtain ⟨X, hX⟩ : ∃ X, X = w.heap.size := ⟨_, rfl⟩
  rw [← hR] at hr3
  rw [← hX] at hb3
  rw [← hR, ← hX]
  have hRX : X < R := by omega
  have hXw : w.heap.size ≤ X := by omega
  clear hR hX
  obtain ⟨kd, fl, pa, sr, ds, cn, sq, pl, bb⟩ := P
  dsimp only [pkO] at hb3
  have c0 := (blk_cell hb3 0).trans rfl
  have d0 := blk_free hb3 0
  have c1 := (blk_cell hb3 1).trans rfl
  have d1 := blk_free hb3 1
  have c2 := (blk_cell hb3 2).trans rfl
  have d2 := blk_free hb3 2
  have c3 := (blk_cell hb3 3).trans rfl
  have d3 := blk_free hb3 3
  have c4 := (blk_cell hb3 4).trans rfl
  have d4 := blk_free hb3 4
  have c5 := (blk_cell hb3 5).trans rfl
  have d5 := blk_free hb3 5
  have c6 := (blk_cell hb3 6).trans rfl
  have d6 := blk_free hb3 6
  have c7 := (blk_cell hb3 7).trans rfl
  have d7 := blk_free hb3 7
  have c8 := (blk_cell hb3 8).trans rfl
  have d8 := blk_free hb3 8
  have r0 := (blk_cell hr3 0).trans rfl
  have f0 := blk_free hr3 0
  have r1 := (blk_cell hr3 1).trans rfl
  have f1 := blk_free hr3 1
  have r2 := (blk_cell hr3 2).trans rfl
  have f2 := blk_free hr3 2
  have r3 := (blk_cell hr3 3).trans rfl
  have f3 := blk_free hr3 3
  have r4 := (blk_cell hr3 4).trans rfl
  have f4 := blk_free hr3 4
  have r5 := (blk_cell hr3 5).trans rfl
  have f5 := blk_free hr3 5
  have r6 := (blk_cell hr3 6).trans rfl
  have f6 := blk_free hr3 6
  have r7 := (blk_cell hr3 7).trans rfl
  have f7 := blk_free hr3 7
  have r8 := (blk_cell hr3 8).trans rfl
  have f8 := blk_free hr3 8
  cases v
  · have hb : b = false := by have := HB.out; unfold trB at this; rw [HV.out] at this; simpa using this.symm
    subst hb
    go_wp2_with fail
    obtain ⟨wz, hwz, Yz, Sz⟩ := set9 hr3 rfl (.int .i64 kd) (.int .i64 fl) (.int .i64 pa) (.int .i64 sr) (.int .i64 ds) (.int .i64 cn) (.int .i64 sq) (.int .i64 pl) (.slice A n c)
    rw [← hwz]
    clear hwz c0 c1 c2 c3 c4 c5 c6 c7 c8 d0 d1 d2 d3 d4 d5 d6 d7 d8 r0 r1 r2 r3 r4 r5 r6 r7 r8 f0 f1 f2 f3 f4 f5 f6 f7 f8
    have g0 := (blk_cell Yz 0).trans rfl
    have g1 := (blk_cell Yz 1).trans rfl
    have g2 := (blk_cell Yz 2).trans rfl
    have g3 := (blk_cell Yz 3).trans rfl
    have g4 := (blk_cell Yz 4).trans rfl
    have g5 := (blk_cell Yz 5).trans rfl
    have g6 := (blk_cell Yz 6).trans rfl
    have g7 := (blk_cell Yz 7).trans rfl
    have g8 := (blk_cell Yz 8).trans rfl
    refine bodyPost_ret (v := .tuple #[.agg #[.int .i64 kd, .int .i64 fl, .int .i64 pa, .int .i64 sr, .int .i64 ds, .int .i64 cn, .int .i64 sq, .int .i64 pl, .slice A n c], .bool false]) (by simp [results, Try.results11, go_sem, g0, g1, g2, g3, g4, g5, g6, g7, g8]) rfl ⟨rfl, N3.trans Sz (fun j hj e => by omega)⟩
  by_cases k1 : kd = 1
  rotate_left
  · have e1 : (kd != 1) = true := by simpa using k1
    have hb : b = false := by have := HB.out; unfold trB at this; rw [HV.out, decide_eq_false k1] at this; simpa using this.symm
    subst hb
    clear k1
    go_wp2_with fail
    obtain ⟨wz, hwz, Yz, Sz⟩ := set9 hr3 rfl (.int .i64 kd) (.int .i64 fl) (.int .i64 pa) (.int .i64 sr) (.int .i64 ds) (.int .i64 cn) (.int .i64 sq) (.int .i64 pl) (.slice A n c)
    rw [← hwz]
    clear hwz c0 c1 c2 c3 c4 c5 c6 c7 c8 d0 d1 d2 d3 d4 d5 d6 d7 d8 r0 r1 r2 r3 r4 r5 r6 r7 r8 f0 f1 f2 f3 f4 f5 f6 f7 f8
    have g0 := (blk_cell Yz 0).trans rfl
    have g1 := (blk_cell Yz 1).trans rfl
    have g2 := (blk_cell Yz 2).trans rfl
    have g3 := (blk_cell Yz 3).trans rfl
    have g4 := (blk_cell Yz 4).trans rfl
    have g5 := (blk_cell Yz 5).trans rfl
    have g6 := (blk_cell Yz 6).trans rfl
    have g7 := (blk_cell Yz 7).trans rfl
    have g8 := (blk_cell Yz 8).trans rfl
    refine bodyPost_ret (v := .tuple #[.agg #[.int .i64 kd, .int .i64 fl, .int .i64 pa, .int .i64 sr, .int .i64 ds, .int .i64 cn, .int .i64 sq, .int .i64 pl, .slice A n c], .bool false]) (by simp [results, Try.results11, go_sem, g0, g1, g2, g3, g4, g5, g6, g7, g8]) rfl ⟨rfl, N3.trans Sz (fun j hj e => by omega)⟩
  subst k1
  obtain ⟨hf0, hf1⟩ := (ok_bnd HV.out).fl
  dsimp only at hf0 hf1
  cases k8 : hs fl 8
  · have hb : b = true := by have := HB.out; unfold trB at this; rw [HV.out] at this; simp only [k8] at this; simpa using this.symm
    subst hb
    have hor := or_8 fl hf0 hf1 k8
    have K8 := hide k8
    clear k8
    go_wp2_with fail
    refine (has_b fl 8 false _ hf0 hf1 (by omega) K8.out).mono ?_
    rintro e w4 ⟨rfl, rfl⟩
    have E4 : Ext (fun j => j = X) w3 ((w3.setCell ⟨X, 8, none⟩ (.slice none 0 0)).setCell ⟨X, 1, none⟩ (.int .i64 (fl + 8))) := ((Ext.refl _ _).set (by rfl)).set (by rfl)
    have hb4 := blk_set (blk_set hb3 8 (.slice none 0 0)) 1 (.int .i64 (fl + 8))
    have hr4 := E4.keep hr3 (by omega)
    have s1 : fl + 8 = fl + 8 := rfl
    clear s1
    go_upto_region 5 with (fail)
    have N4 := N3.trans E4 (fun j hj e => by omega)
    generalize (w3.setCell ⟨X, 8, none⟩ (.slice none 0 0)).setCell ⟨X, 1, none⟩ (.int .i64 (fl + 8)) = w5 at *
    clear c0 c1 c2 c3 c4 c5 c6 c7 c8 d0 d1 d2 d3 d4 d5 d6 d7 d8 r0 r1 r2 r3 r4 r5 r6 r7 r8 f0 f1 f2 f3 f4 f5 f6 f7 f8
    have c0 := (blk_cell hb4 0).trans rfl
    have c1 := (blk_cell hb4 1).trans rfl
    have c2 := (blk_cell hb4 2).trans rfl
    have c3 := (blk_cell hb4 3).trans rfl
    have c4 := (blk_cell hb4 4).trans rfl
    have c5 := (blk_cell hb4 5).trans rfl
    have c6 := (blk_cell hb4 6).trans rfl
    have c7 := (blk_cell hb4 7).trans rfl
    have c8 := (blk_cell hb4 8).trans rfl
    have r0 := (blk_cell hr4 0).trans rfl
    have f0 := blk_free hr4 0
    have r1 := (blk_cell hr4 1).trans rfl
    have f1 := blk_free hr4 1
    have r2 := (blk_cell hr4 2).trans rfl
    have f2 := blk_free hr4 2
    have r3 := (blk_cell hr4 3).trans rfl
    have f3 := blk_free hr4 3
    have r4 := (blk_cell hr4 4).trans rfl
    have f4 := blk_free hr4 4
    have r5 := (blk_cell hr4 5).trans rfl
    have f5 := blk_free hr4 5
    have r6 := (blk_cell hr4 6).trans rfl
    have f6 := blk_free hr4 6
    have r7 := (blk_cell hr4 7).trans rfl
    have f7 := blk_free hr4 7
    have r8 := (blk_cell hr4 8).trans rfl
    have f8 := blk_free hr4 8
    go_wp2_with fail
    obtain ⟨wz, hwz, Yz, Sz⟩ := set9 hr4 rfl (.int .i64 1) (.int .i64 (fl + 8)) (.int .i64 pa) (.int .i64 sr) (.int .i64 ds) (.int .i64 cn) (.int .i64 sq) (.int .i64 pl) (.slice none 0 0)
    rw [← hwz]
    clear hwz c0 c1 c2 c3 c4 c5 c6 c7 c8 r0 r1 r2 r3 r4 r5 r6 r7 r8 f0 f1 f2 f3 f4 f5 f6 f7 f8
    have g0 := (blk_cell Yz 0).trans rfl
    have g1 := (blk_cell Yz 1).trans rfl
    have g2 := (blk_cell Yz 2).trans rfl
    have g3 := (blk_cell Yz 3).trans rfl
    have g4 := (blk_cell Yz 4).trans rfl
    have g5 := (blk_cell Yz 5).trans rfl
    have g6 := (blk_cell Yz 6).trans rfl
    have g7 := (blk_cell Yz 7).trans rfl
    have g8 := (blk_cell Yz 8).trans rfl
    refine bodyPost_ret (v := .tuple #[.agg #[.int .i64 1, .int .i64 (fl + 8), .int .i64 pa, .int .i64 sr, .int .i64 ds, .int .i64 cn, .int .i64 sq, .int .i64 pl, .slice none 0 0], .bool true]) (by simp [results, Try.results11, go_sem, g0, g1, g2, g3, g4, g5, g6, g7, g8]) rfl ⟨rfl, N4.trans Sz (fun j hj e => by omega)⟩
  · have hb : b = false := by have := HB.out; unfold trB at this; rw [HV.out] at this; simp only [k8] at this; simpa using this.symm
    subst hb
    have K8 := hide k8
    clear k8
    go_wp2_with fail
    refine (has_b fl 8 true _ hf0 hf1 (by omega) K8.out).mono ?_
    rintro e w4 ⟨rfl, rfl⟩
    go_wp2_with fail
    obtain ⟨wz, hwz, Yz, Sz⟩ := set9 hr3 rfl (.int .i64 1) (.int .i64 fl) (.int .i64 pa) (.int .i64 sr) (.int .i64 ds) (.int .i64 cn) (.int .i64 sq) (.int .i64 pl) (.slice A n c)
    rw [← hwz]
    clear hwz c0 c1 c2 c3 c4 c5 c6 c7 c8 d0 d1 d2 d3 d4 d5 d6 d7 d8 r0 r1 r2 r3 r4 r5 r6 r7 r8 f0 f1 f2 f3 f4 f5 f6 f7 f8
    have g0 := (blk_cell Yz 0).trans rfl
    have g1 := (blk_cell Yz 1).trans rfl
    have g2 := (blk_cell Yz 2).trans rfl
    have g3 := (blk_cell Yz 3).trans rfl
    have g4 := (blk_cell Yz 4).trans rfl
    have g5 := (blk_cell Yz 5).trans rfl
    have g6 := (blk_cell Yz 6).trans rfl
    have g7 := (blk_cell Yz 7).trans rfl
    have g8 := (blk_cell Yz 8).trans rfl
    refine bodyPost_ret (v := .tuple #[.agg #[.int .i64 1, .int .i64 fl, .int .i64 pa, .int .i64 sr, .int .i64 ds, .int .i64 cn, .int .i64 sq, .int .i64 pl, .slice A n c], .bool false]) (by simp [results, Try.results11, go_sem, g0, g1, g2, g3, g4, g5, g6, g7, g8]) rfl ⟨rfl, N3.trans Sz (fun j hj e => by omega)⟩
set_option maxHeartbeats 8000000 in
theorem bounce_b (P : Pk) (A : Option Addr) (n c : Nat) (w : World) (hn : P.b.length = n) (b : Bool) (h : boB P = b) : Calls Try.prog 13 #[pkV P A n c] w fun e w' => e = .returned (.tuple #[bif b then pkV (boP P) A n c else pkV P A n c, .bool b]) ∧ New w w' := by
  have hn1 := New.alloc1 w (pkO P A n c 25)
  have hb1 := blk_new w (pkO P A n c 25)
  have hn2 := New.alloc1 (w.alloc (pkO P A n c 25)) (zeroP 25)
  have hr2 := blk_new (w.alloc (pkO P A n c 25)) (zeroP 25)
  have hb2 := hn2.keep hb1
  have N2 := hn1.then hn2
  rw [World.size_alloc] at hr2
  obtain ⟨v, hv⟩ : ∃ v, okB P = v := ⟨_, rfl⟩
  have HV := hide hv
  have HN := hide hn
  have HB := hide h
  clear hv hn h hn1 hb1 hn2
  go_enter Try.func13, Try.ntmps13
  go_wp2_with fail
  refine (check_b P A n c v _ HN.out HV.out).mono ?_
  rintro e w3 ⟨rfl, hn3⟩
  have hb3 := hn3.keep hb2
  have hr3 := hn3.keep hr2
  have N3 := N2.then hn3
  clear hn3 hb2 hr2
  obtain ⟨R, hR⟩ : ∃ R, R = w.heap.size + 1 := ⟨_, rfl⟩
  obtain ⟨X, hX⟩ : ∃ X, X = w.heap.size := ⟨_, rfl⟩
  rw [← hR] at hr3
  rw [← hX] at hb3
  rw [← hR, ← hX]
  have hRX : X < R := by omega
  have hXw : w.heap.size ≤ X := by omega
  clear hR hX
  obtain ⟨kd, fl, pa, sr, ds, cn, sq, pl, bb⟩ := P
  dsimp only [pkO] at hb3
  have c0 := (blk_cell hb3 0).trans rfl
  have d0 := blk_free hb3 0
  have c1 := (blk_cell hb3 1).trans rfl
  have d1 := blk_free hb3 1
  have c2 := (blk_cell hb3 2).trans rfl
  have d2 := blk_free hb3 2
  have c3 := (blk_cell hb3 3).trans rfl
  have d3 := blk_free hb3 3
  have c4 := (blk_cell hb3 4).trans rfl
  have d4 := blk_free hb3 4
  have c5 := (blk_cell hb3 5).trans rfl
  have d5 := blk_free hb3 5
  have c6 := (blk_cell hb3 6).trans rfl
  have d6 := blk_free hb3 6
  have c7 := (blk_cell hb3 7).trans rfl
  have d7 := blk_free hb3 7
  have c8 := (blk_cell hb3 8).trans rfl
  have d8 := blk_free hb3 8
  have r0 := (blk_cell hr3 0).trans rfl
  have f0 := blk_free hr3 0
  have r1 := (blk_cell hr3 1).trans rfl
  have f1 := blk_free hr3 1
  have r2 := (blk_cell hr3 2).trans rfl
  have f2 := blk_free hr3 2
  have r3 := (blk_cell hr3 3).trans rfl
  have f3 := blk_free hr3 3
  have r4 := (blk_cell hr3 4).trans rfl
  have f4 := blk_free hr3 4
  have r5 := (blk_cell hr3 5).trans rfl
  have f5 := blk_free hr3 5
  have r6 := (blk_cell hr3 6).trans rfl
  have f6 := blk_free hr3 6
  have r7 := (blk_cell hr3 7).trans rfl
  have f7 := blk_free hr3 7
  have r8 := (blk_cell hr3 8).trans rfl
  have f8 := blk_free hr3 8
  cases v
  · have hb : b = false := by have := HB.out; unfold boB at this; rw [HV.out] at this; simpa using this.symm
    subst hb
    go_wp2_with fail
    obtain ⟨wz, hwz, Yz, Sz⟩ := set9 hr3 rfl (.int .i64 kd) (.int .i64 fl) (.int .i64 pa) (.int .i64 sr) (.int .i64 ds) (.int .i64 cn) (.int .i64 sq) (.int .i64 pl) (.slice A n c)
    rw [← hwz]
    clear hwz c0 c1 c2 c3 c4 c5 c6 c7 c8 d0 d1 d2 d3 d4 d5 d6 d7 d8 r0 r1 r2 r3 r4 r5 r6 r7 r8 f0 f1 f2 f3 f4 f5 f6 f7 f8
    have g0 := (blk_cell Yz 0).trans rfl
    have g1 := (blk_cell Yz 1).trans rfl
    have g2 := (blk_cell Yz 2).trans rfl
    have g3 := (blk_cell Yz 3).trans rfl
    have g4 := (blk_cell Yz 4).trans rfl
    have g5 := (blk_cell Yz 5).trans rfl
    have g6 := (blk_cell Yz 6).trans rfl
    have g7 := (blk_cell Yz 7).trans rfl
    have g8 := (blk_cell Yz 8).trans rfl
    refine bodyPost_ret (v := .tuple #[.agg #[.int .i64 kd, .int .i64 fl, .int .i64 pa, .int .i64 sr, .int .i64 ds, .int .i64 cn, .int .i64 sq, .int .i64 pl, .slice A n c], .bool false]) (by simp [results, Try.results13, go_sem, g0, g1, g2, g3, g4, g5, g6, g7, g8]) rfl ⟨rfl, N3.trans Sz (fun j hj e => by omega)⟩
  by_cases k1 : kd = 1
  rotate_left
  · have e1 : (kd != 1) = true := by simpa using k1
    have hb : b = false := by have := HB.out; unfold boB at this; rw [HV.out, decide_eq_false k1] at this; simpa using this.symm
    subst hb
    clear k1
    go_wp2_with fail
    obtain ⟨wz, hwz, Yz, Sz⟩ := set9 hr3 rfl (.int .i64 kd) (.int .i64 fl) (.int .i64 pa) (.int .i64 sr) (.int .i64 ds) (.int .i64 cn) (.int .i64 sq) (.int .i64 pl) (.slice A n c)
    rw [← hwz]
    clear hwz c0 c1 c2 c3 c4 c5 c6 c7 c8 d0 d1 d2 d3 d4 d5 d6 d7 d8 r0 r1 r2 r3 r4 r5 r6 r7 r8 f0 f1 f2 f3 f4 f5 f6 f7 f8
    have g0 := (blk_cell Yz 0).trans rfl
    have g1 := (blk_cell Yz 1).trans rfl
    have g2 := (blk_cell Yz 2).trans rfl
    have g3 := (blk_cell Yz 3).trans rfl
    have g4 := (blk_cell Yz 4).trans rfl
    have g5 := (blk_cell Yz 5).trans rfl
    have g6 := (blk_cell Yz 6).trans rfl
    have g7 := (blk_cell Yz 7).trans rfl
    have g8 := (blk_cell Yz 8).trans rfl
    refine bodyPost_ret (v := .tuple #[.agg #[.int .i64 kd, .int .i64 fl, .int .i64 pa, .int .i64 sr, .int .i64 ds, .int .i64 cn, .int .i64 sq, .int .i64 pl, .slice A n c], .bool false]) (by simp [results, Try.results13, go_sem, g0, g1, g2, g3, g4, g5, g6, g7, g8]) rfl ⟨rfl, N3.trans Sz (fun j hj e => by omega)⟩
  subst k1
  obtain ⟨hf0, hf1⟩ := (ok_bnd HV.out).fl
  dsimp only at hf0 hf1
  cases k8 : hs fl 8
  · have hb : b = false := by have := HB.out; unfold boB at this; rw [HV.out] at this; simp only [k8] at this; simpa using this.symm
    subst hb
    have K8 := hide k8
    clear k8
    go_wp2_with fail
    refine (has_b fl 8 false _ hf0 hf1 (by omega) K8.out).mono ?_
    rintro e w4 ⟨rfl, rfl⟩
    go_wp2_with fail
    obtain ⟨wz, hwz, Yz, Sz⟩ := set9 hr3 rfl (.int .i64 1) (.int .i64 fl) (.int .i64 pa) (.int .i64 sr) (.int .i64 ds) (.int .i64 cn) (.int .i64 sq) (.int .i64 pl) (.slice A n c)
    rw [← hwz]
    clear hwz c0 c1 c2 c3 c4 c5 c6 c7 c8 d0 d1 d2 d3 d4 d5 d6 d7 d8 r0 r1 r2 r3 r4 r5 r6 r7 r8 f0 f1 f2 f3 f4 f5 f6 f7 f8
    have g0 := (blk_cell Yz 0).trans rfl
    have g1 := (blk_cell Yz 1).trans rfl
    have g2 := (blk_cell Yz 2).trans rfl
    have g3 := (blk_cell Yz 3).trans rfl
    have g4 := (blk_cell Yz 4).trans rfl
    have g5 := (blk_cell Yz 5).trans rfl
    have g6 := (blk_cell Yz 6).trans rfl
    have g7 := (blk_cell Yz 7).trans rfl
    have g8 := (blk_cell Yz 8).trans rfl
    refine bodyPost_ret (v := .tuple #[.agg #[.int .i64 1, .int .i64 fl, .int .i64 pa, .int .i64 sr, .int .i64 ds, .int .i64 cn, .int .i64 sq, .int .i64 pl, .slice A n c], .bool false]) (by simp [results, Try.results13, go_sem, g0, g1, g2, g3, g4, g5, g6, g7, g8]) rfl ⟨rfl, N3.trans Sz (fun j hj e => by omega)⟩
  cases k16 : hs fl 16
  rotate_left
  · have hb : b = false := by have := HB.out; unfold boB at this; rw [HV.out] at this; simp only [k8, k16] at this; simpa using this.symm
    subst hb
    have K8 := hide k8
    have K16 := hide k16
    clear k8 k16
    go_wp2_with fail
    refine (has_b fl 8 true _ hf0 hf1 (by omega) K8.out).mono ?_
    rintro e w4 ⟨rfl, rfl⟩
    go_wp2_with fail
    refine (has_b fl 16 true _ hf0 hf1 (by omega) K16.out).mono ?_
    rintro e w4 ⟨rfl, rfl⟩
    go_wp2_with fail
    obtain ⟨wz, hwz, Yz, Sz⟩ := set9 hr3 rfl (.int .i64 1) (.int .i64 fl) (.int .i64 pa) (.int .i64 sr) (.int .i64 ds) (.int .i64 cn) (.int .i64 sq) (.int .i64 pl) (.slice A n c)
    rw [← hwz]
    clear hwz c0 c1 c2 c3 c4 c5 c6 c7 c8 d0 d1 d2 d3 d4 d5 d6 d7 d8 r0 r1 r2 r3 r4 r5 r6 r7 r8 f0 f1 f2 f3 f4 f5 f6 f7 f8
    have g0 := (blk_cell Yz 0).trans rfl
    have g1 := (blk_cell Yz 1).trans rfl
    have g2 := (blk_cell Yz 2).trans rfl
    have g3 := (blk_cell Yz 3).trans rfl
    have g4 := (blk_cell Yz 4).trans rfl
    have g5 := (blk_cell Yz 5).trans rfl
    have g6 := (blk_cell Yz 6).trans rfl
    have g7 := (blk_cell Yz 7).trans rfl
    have g8 := (blk_cell Yz 8).trans rfl
    refine bodyPost_ret (v := .tuple #[.agg #[.int .i64 1, .int .i64 fl, .int .i64 pa, .int .i64 sr, .int .i64 ds, .int .i64 cn, .int .i64 sq, .int .i64 pl, .slice A n c], .bool false]) (by simp [results, Try.results13, go_sem, g0, g1, g2, g3, g4, g5, g6, g7, g8]) rfl ⟨rfl, N3.trans Sz (fun j hj e => by omega)⟩
  · have hb : b = true := by have := HB.out; unfold boB at this; rw [HV.out] at this; simp only [k8, k16] at this; simpa using this.symm
    subst hb
    have hor := or_16 fl hf0 hf1 k16
    have K8 := hide k8
    have K16 := hide k16
    clear k8 k16
    go_wp2_with fail
    refine (has_b fl 8 true _ hf0 hf1 (by omega) K8.out).mono ?_
    rintro e w4 ⟨rfl, rfl⟩
    go_wp2_with fail
    refine (has_b fl 16 false _ hf0 hf1 (by omega) K16.out).mono ?_
    rintro e w4 ⟨rfl, rfl⟩
    have E4 : Ext (fun j => j = X) w3 (((w3.setCell ⟨X, 3, none⟩ (.int .i64 ds)).setCell ⟨X, 4, none⟩ (.int .i64 sr)).setCell ⟨X, 1, none⟩ (.int .i64 (fl + 16))) := (((Ext.refl _ _).set (by rfl)).set (by rfl)).set (by rfl)
    have hb4 := blk_set (blk_set (blk_set hb3 3 (.int .i64 ds)) 4 (.int .i64 sr)) 1 (.int .i64 (fl + 16))
    have hr4 := E4.keep hr3 (by omega)
    go_upto_region 5 with (fail)
    have N4 := N3.trans E4 (fun j hj e => by omega)
    generalize ((w3.setCell ⟨X, 3, none⟩ (.int .i64 ds)).setCell ⟨X, 4, none⟩ (.int .i64 sr)).setCell ⟨X, 1, none⟩ (.int .i64 (fl + 16)) = w5 at *
    clear c0 c1 c2 c3 c4 c5 c6 c7 c8 d0 d1 d2 d3 d4 d5 d6 d7 d8 r0 r1 r2 r3 r4 r5 r6 r7 r8 f0 f1 f2 f3 f4 f5 f6 f7 f8
    have c0 := (blk_cell hb4 0).trans rfl
    have c1 := (blk_cell hb4 1).trans rfl
    have c2 := (blk_cell hb4 2).trans rfl
    have c3 := (blk_cell hb4 3).trans rfl
    have c4 := (blk_cell hb4 4).trans rfl
    have c5 := (blk_cell hb4 5).trans rfl
    have c6 := (blk_cell hb4 6).trans rfl
    have c7 := (blk_cell hb4 7).trans rfl
    have c8 := (blk_cell hb4 8).trans rfl
    have r0 := (blk_cell hr4 0).trans rfl
    have f0 := blk_free hr4 0
    have r1 := (blk_cell hr4 1).trans rfl
    have f1 := blk_free hr4 1
    have r2 := (blk_cell hr4 2).trans rfl
    have f2 := blk_free hr4 2
    have r3 := (blk_cell hr4 3).trans rfl
    have f3 := blk_free hr4 3
    have r4 := (blk_cell hr4 4).trans rfl
    have f4 := blk_free hr4 4
    have r5 := (blk_cell hr4 5).trans rfl
    have f5 := blk_free hr4 5
    have r6 := (blk_cell hr4 6).trans rfl
    have f6 := blk_free hr4 6
    have r7 := (blk_cell hr4 7).trans rfl
    have f7 := blk_free hr4 7
    have r8 := (blk_cell hr4 8).trans rfl
    have f8 := blk_free hr4 8
    go_wp2_with fail
    obtain ⟨wz, hwz, Yz, Sz⟩ := set9 hr4 rfl (.int .i64 1) (.int .i64 (fl + 16)) (.int .i64 pa) (.int .i64 ds) (.int .i64 sr) (.int .i64 cn) (.int .i64 sq) (.int .i64 pl) (.slice A n c)
    rw [← hwz]
    clear hwz c0 c1 c2 c3 c4 c5 c6 c7 c8 r0 r1 r2 r3 r4 r5 r6 r7 r8 f0 f1 f2 f3 f4 f5 f6 f7 f8
    have g0 := (blk_cell Yz 0).trans rfl
    have g1 := (blk_cell Yz 1).trans rfl
    have g2 := (blk_cell Yz 2).trans rfl
    have g3 := (blk_cell Yz 3).trans rfl
    have g4 := (blk_cell Yz 4).trans rfl
    have g5 := (blk_cell Yz 5).trans rfl
    have g6 := (blk_cell Yz 6).trans rfl
    have g7 := (blk_cell Yz 7).trans rfl
    have g8 := (blk_cell Yz 8).trans rfl
    refine bodyPost_ret (v := .tuple #[.agg #[.int .i64 1, .int .i64 (fl + 16), .int .i64 pa, .int .i64 ds, .int .i64 sr, .int .i64 cn, .int .i64 sq, .int .i64 pl, .slice A n c], .bool true]) (by simp [results, Try.results13, go_sem, g0, g1, g2, g3, g4, g5, g6, g7, g8]) rfl ⟨rfl, N4.trans Sz (fun j hj e => by omega)⟩
end Go.Proofs.Ytdgleplmmbkgfaa
