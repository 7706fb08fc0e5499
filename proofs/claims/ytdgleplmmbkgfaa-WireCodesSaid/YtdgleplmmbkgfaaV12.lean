/- Walks: a packet of bytes. -/
import Derived.Test.YtdgleplmmbkgfaaV11
namespace Go.Proofs.Ytdgleplmmbkgfaa
open Go.RowKit
set_option maxRecDepth 100000

/-- The packet that bytes make, as it is read. -/
def dcP (l : List Int) : Pk := ⟨nmAt l 3 1, nmAt l 4 1, nmAt l 5 1, nmAt l 6 1, nmAt l 7 1, nmAt l 8 4, toI (nmAt l 12 8), toI (nmAt l 20 8), l.drop 36⟩
/-- What is wrong with bytes. -/
def dcE (l : List Int) : Int :=
  if l.length < 36 then 6
  else if nmAt l 0 1 ≠ 78 ∨ nmAt l 1 1 ≠ 90 ∨ nmAt l 2 1 ≠ 1 ∨ nmAt l 28 2 ≠ (l.length : Int) - 36 then 30
  else if nmAt l 32 4 ≠ ad2 (l.take 32) (l.drop 36) then 31
  else if okB (dcP l) = true ∧ enL (dcP l) = l then 0 else 30
/-- What Decode tells. -/
def DecR (w : World) (l : List Int) (e : Ending) (w' : World) : Prop := New w w' ∧
  ((dcE l = 0 ∧ ∃ A n c, e = .returned (.tuple #[pkV (dcP l) A n c, .int .i64 0]) ∧ Rd w' 1 A n c (bts (l.drop 36))) ∨
   (dcE l ≠ 0 ∧ e = .returned (.tuple #[.agg #[.int .i64 0, .int .i64 0, .int .i64 0, .int .i64 0, .int .i64 0, .int .i64 0, .int .i64 0, .int .i64 0, .slice none 0 0], .int .i64 (dcE l)])))
theorem DecR.no {w w' : World} {l : List Int} (v : Int) (hv : dcE l = v) (h0 : v ≠ 0) (hn : New w w') : DecR w l (.returned (.tuple #[.agg #[.int .i64 0, .int .i64 0, .int .i64 0, .int .i64 0, .int .i64 0, .int .i64 0, .int .i64 0, .int .i64 0, .slice none 0 0], .int .i64 v])) w' :=
  ⟨hn, .inr ⟨by rw [hv]; exact h0, by rw [hv]⟩⟩
/-- Behind the fields. -/
def DMid (w wc : World) (q F R : Nat) (A : Option Addr) (n : Nat) (l : List Int) (X : Nat) (v0 v1 v2 v3 v4 v5 v6 v7 : Int) : Prop :=
  DS w wc q F R A n l 28 ∧ wc.heap[X]? = some (.cells #[.int .i64 v0, .int .i64 v1, .int .i64 v2, .int .i64 v3, .int .i64 v4, .int .i64 v5, .int .i64 v6, .int .i64 v7, .slice none 0 0] 25) ∧ X ≠ q ∧ X ≠ F ∧ X ≠ R ∧ w.heap.size ≤ X
/-- Behind the payload. -/
def DecP (w wc : World) (q F R : Nat) (A : Option Addr) (n : Nat) (l : List Int) (X : Nat) (v0 v1 v2 v3 v4 v5 v6 v7 : Int) (A' : Option Addr) (N c' : Nat) : Prop :=
  wc.heap[X]? = some (.cells #[.int .i64 v0, .int .i64 v1, .int .i64 v2, .int .i64 v3, .int .i64 v4, .int .i64 v5, .int .i64 v6, .int .i64 v7, .slice A' N c'] 25) ∧ Rd wc 1 A' N c' (bts (l.drop 36)) ∧ wc.heap[R]? = some (zeroP 25) ∧ New w wc ∧ X ≠ R ∧ w.heap.size ≤ X ∧ (∀ j, inA A' j → j ≠ R ∧ j ≠ X)
set_option maxHeartbeats 16000000 in
theorem dec_any (A : Option Addr) (n c : Nat) (l : List Int) (w : World) (hr : Rd w 1 A n c (bts l)) (hB : isB l) (hm : n ≤ 140737488355000) : Calls Try.prog 10 #[.slice A n c] w (DecR w l) := by
  have hlen : l.length = n := hr.lenn
  have hcap := hr.cap
  have htop := hr.top
  by_cases h36 : n < 36
  · have hE : dcE l = 6 := by unfold dcE; rw [if_pos (by omega)]
    have HE := hide hE
    have d1 : decide ((n : Int) < 36) = true := decide_eq_true (by omega)
    have d1n : decide (n < 36) = true := decide_eq_true (by omega)
    clear hE hlen
    go_enter Try.func10, Try.ntmps10
    go_wp2_with fail
    refine bodyPost_ret (v := .tuple #[.agg #[.int .i64 0, .int .i64 0, .int .i64 0, .int .i64 0, .int .i64 0, .int .i64 0, .int .i64 0, .int .i64 0, .slice none 0 0], .int .i64 6]) (by simp [results, Try.results10, go_sem]) rfl (DecR.no 6 HE.out (by omega) (by (repeat (first | exact Ext.refl _ _ | assumption | apply Ext.alloc | apply Ext.drewN | apply Ext.drew | refine Ext.setCell ?_ (fun h => by first | rfl | exact absurd h (by dsimp only; omega)) _))))
  have d1 : decide ((n : Int) < 36) = false := decide_eq_false (by omega)
  have d1n : decide (n < 36) = false := decide_eq_false (by omega)
  have hlA : ∀ j, inA A j → j < w.heap.size := fun j hj => hr.lt (by omega) (by omega) hj
  have HL := hide hlen
  clear hlen
  obtain ⟨N, hN⟩ : ∃ N, N = n - 36 := ⟨_, rfl⟩
  have hN1 : N + 36 ≤ n := by omega
  have hN2 : n ≤ N + 36 := by omega
  have s1 := run_cut_h (P := Try.prog) 23 5 1 Try.underlying23 size_u8 A n c 32 32 rfl (by omega) .i64
  have s2 := run_cut_l (P := Try.prog) 23 5 1 Try.underlying23 size_u8 A n c 36 36 rfl (by omega) .i64
  rw [← hN] at s2
  have rd1 := hr.take 32 (by omega)
  have rd2 := hr.drop 36 (by omega)
  rw [Nat.mul_one, bts_take] at rd1
  rw [Nat.mul_one, bts_drop, ← hN] at rd2
  have HN := hide hN
  clear hN
  go_enter Try.func10, Try.ntmps10
  have hn1 := New.alloc1 w (zeroP 25)
  have hb1 := blk_new w (zeroP 25)
  go_wp2_with fail
  refine (new_any A n c _).mono ?_
  rintro e w2 ⟨q, rfl, hq2, hr2, hn2⟩
  have hn3 := New.alloc1 w2 (.cells #[.pointer (some ⟨q, 0, none⟩)] 54)
  have hf3 := blk_new w2 (.cells #[.pointer (some ⟨q, 0, none⟩)] 54)
  have hqlt := blk_lt hr2
  have hq1 : w.heap.size + 1 ≤ q := by simpa using hq2
  have h3 : DS w (w2.alloc (.cells #[.pointer (some ⟨q, 0, none⟩)] 54)) q w2.heap.size w.heap.size A n l 0 :=
    ⟨⟨A, c, hr2.keep hn3 (fun h => h), (hr.new (hn1.then hn2)).new hn3, fun _ h => h, by omega, HL.out⟩, hf3, hn3.keep (hn2.keep hb1), (hn1.then hn2).then hn3, by omega, by have := (hn1.then hn2).size; omega, Nat.le_refl _, by omega, by omega, by rw [World.size_alloc]; omega, fun j hj e => by have := hlA j hj; omega, hlA⟩
  go_wp2_with fail
  generalize (w2.alloc (.cells #[.pointer (some ⟨q, 0, none⟩)] 54)) = w3 at *
  obtain ⟨F, hF⟩ : ∃ F, F = w2.heap.size := ⟨_, rfl⟩
  obtain ⟨R, hR⟩ : ∃ R, R = w.heap.size := ⟨_, rfl⟩
  rw [← hF] at h3 ⊢
  rw [show DS w w3 q F w.heap.size A n l 0 = DS w w3 q F R A n l 0 by rw [hR]] at h3
  rw [← hR]
  have HR := hide hR
  have hRw : w.heap.size ≤ R := by omega
  clear hF hR hf3 hn3 hr2 hn2 hq2 hqlt hn1 hb1 hq1
  obtain ⟨m0, hm0⟩ : ∃ v, v = nmAt l 0 1 := ⟨_, rfl⟩
  obtain ⟨m1, hm1⟩ : ∃ v, v = nmAt l 1 1 := ⟨_, rfl⟩
  obtain ⟨m2, hm2⟩ : ∃ v, v = nmAt l 2 1 := ⟨_, rfl⟩
  have e0 : toI (nmAt l 0 1) = m0 := by rw [hm0]; exact toI_same (nmAt_b hB _ _ (by omega)).1 (nmAt_b hB _ _ (by omega)).2
  have e1 : toI (nmAt l 1 1) = m1 := by rw [hm1]; exact toI_same (nmAt_b hB _ _ (by omega)).1 (nmAt_b hB _ _ (by omega)).2
  have e2 : toI (nmAt l 2 1) = m2 := by rw [hm2]; exact toI_same (nmAt_b hB _ _ (by omega)).1 (nmAt_b hB _ _ (by omega)).2
  have M0 := hide hm0
  have M1 := hide hm1
  have M2 := hide hm2
  have T0 := hide e0
  have T1 := hide e1
  have T2 := hide e2
  clear hm0 hm1 hm2 e0 e1 e2
  refine (int_at h3.rd hB h3.qA 1 1 rfl (by omega) (by omega) (by omega) 1 rfl m0 T0.out).mono ?_
  rintro e wa ⟨rfl, rd0, he0⟩
  have ha := h3.step rd0 he0
  clear rd0 he0
  by_cases g0 : m0 = 78
  rotate_left
  · have b0 : (m0 != 78) = true := by simpa using g0
    have HE : Hid (dcE l = 30) := hide (by unfold dcE; rw [if_neg (by have := HL.out; omega), if_pos (by rw [← M0.out, ← M1.out, ← M2.out]; omega)])
    clear g0
    have r0 := (blk_cell ha.r 0).trans rfl
    have f0 := blk_free ha.r 0
    have r1 := (blk_cell ha.r 1).trans rfl
    have f1 := blk_free ha.r 1
    have r2 := (blk_cell ha.r 2).trans rfl
    have f2 := blk_free ha.r 2
    have r3 := (blk_cell ha.r 3).trans rfl
    have f3 := blk_free ha.r 3
    have r4 := (blk_cell ha.r 4).trans rfl
    have f4 := blk_free ha.r 4
    have r5 := (blk_cell ha.r 5).trans rfl
    have f5 := blk_free ha.r 5
    have r6 := (blk_cell ha.r 6).trans rfl
    have f6 := blk_free ha.r 6
    have r7 := (blk_cell ha.r 7).trans rfl
    have f7 := blk_free ha.r 7
    have r8 := (blk_cell ha.r 8).trans rfl
    have f8 := blk_free ha.r 8
    go_wp2_with fail
    obtain ⟨wz, hwz, Yz, Sz⟩ := set9 ha.r rfl (.int .i64 0) (.int .i64 0) (.int .i64 0) (.int .i64 0) (.int .i64 0) (.int .i64 0) (.int .i64 0) (.int .i64 0) (.slice none 0 0)
    rw [← hwz]
    clear hwz r0 f0 r1 f1 r2 f2 r3 f3 r4 f4 r5 f5 r6 f6 r7 f7 r8 f8
    have g0 := (blk_cell Yz 0).trans rfl
    have g1 := (blk_cell Yz 1).trans rfl
    have g2 := (blk_cell Yz 2).trans rfl
    have g3 := (blk_cell Yz 3).trans rfl
    have g4 := (blk_cell Yz 4).trans rfl
    have g5 := (blk_cell Yz 5).trans rfl
    have g6 := (blk_cell Yz 6).trans rfl
    have g7 := (blk_cell Yz 7).trans rfl
    have g8 := (blk_cell Yz 8).trans rfl
    refine bodyPost_ret (v := .tuple #[.agg #[.int .i64 0, .int .i64 0, .int .i64 0, .int .i64 0, .int .i64 0, .int .i64 0, .int .i64 0, .int .i64 0, .slice none 0 0], .int .i64 30]) (by simp [results, Try.results10, go_sem, g0, g1, g2, g3, g4, g5, g6, g7, g8]) rfl (DecR.no 30 HE.out (by omega) (ha.n.trans Sz (fun j hj e => by omega)))
  have b0 : (m0 != 78) = false := by simpa using g0
  have cf0 := ha.cf
  go_wp2_with fail
  refine (int_at ha.rd hB h3.qA 1 1 rfl (by omega) (by omega) (by omega) 2 rfl m1 T1.out).mono ?_
  rintro e wb ⟨rfl, rd1, he1⟩
  have hb := ha.step rd1 he1
  clear rd1 he1
  by_cases g1 : m1 = 90
  rotate_left
  · have b1 : (m1 != 90) = true := by simpa using g1
    have HE : Hid (dcE l = 30) := hide (by unfold dcE; rw [if_neg (by have := HL.out; omega), if_pos (by rw [← M0.out, ← M1.out, ← M2.out]; omega)])
    clear g1
    have r0 := (blk_cell hb.r 0).trans rfl
    have f0 := blk_free hb.r 0
    have r1 := (blk_cell hb.r 1).trans rfl
    have f1 := blk_free hb.r 1
    have r2 := (blk_cell hb.r 2).trans rfl
    have f2 := blk_free hb.r 2
    have r3 := (blk_cell hb.r 3).trans rfl
    have f3 := blk_free hb.r 3
    have r4 := (blk_cell hb.r 4).trans rfl
    have f4 := blk_free hb.r 4
    have r5 := (blk_cell hb.r 5).trans rfl
    have f5 := blk_free hb.r 5
    have r6 := (blk_cell hb.r 6).trans rfl
    have f6 := blk_free hb.r 6
    have r7 := (blk_cell hb.r 7).trans rfl
    have f7 := blk_free hb.r 7
    have r8 := (blk_cell hb.r 8).trans rfl
    have f8 := blk_free hb.r 8
    go_wp2_with fail
    obtain ⟨wz, hwz, Yz, Sz⟩ := set9 hb.r rfl (.int .i64 0) (.int .i64 0) (.int .i64 0) (.int .i64 0) (.int .i64 0) (.int .i64 0) (.int .i64 0) (.int .i64 0) (.slice none 0 0)
    rw [← hwz]
    clear hwz r0 f0 r1 f1 r2 f2 r3 f3 r4 f4 r5 f5 r6 f6 r7 f7 r8 f8
    have g0 := (blk_cell Yz 0).trans rfl
    have g1 := (blk_cell Yz 1).trans rfl
    have g2 := (blk_cell Yz 2).trans rfl
    have g3 := (blk_cell Yz 3).trans rfl
    have g4 := (blk_cell Yz 4).trans rfl
    have g5 := (blk_cell Yz 5).trans rfl
    have g6 := (blk_cell Yz 6).trans rfl
    have g7 := (blk_cell Yz 7).trans rfl
    have g8 := (blk_cell Yz 8).trans rfl
    refine bodyPost_ret (v := .tuple #[.agg #[.int .i64 0, .int .i64 0, .int .i64 0, .int .i64 0, .int .i64 0, .int .i64 0, .int .i64 0, .int .i64 0, .slice none 0 0], .int .i64 30]) (by simp [results, Try.results10, go_sem, g0, g1, g2, g3, g4, g5, g6, g7, g8]) rfl (DecR.no 30 HE.out (by omega) (hb.n.trans Sz (fun j hj e => by omega)))
  have b1 : (m1 != 90) = false := by simpa using g1
  have cf1 := hb.cf
  go_wp2_with fail
  refine (int_at hb.rd hB h3.qA 1 1 rfl (by omega) (by omega) (by omega) 3 rfl m2 T2.out).mono ?_
  rintro e w5 ⟨rfl, rd2, he2⟩
  have h5 := hb.step rd2 he2
  clear rd2 he2
  by_cases g2 : m2 = 1
  rotate_left
  · have b2 : (m2 != 1) = true := by simpa using g2
    have HE : Hid (dcE l = 30) := hide (by unfold dcE; rw [if_neg (by have := HL.out; omega), if_pos (by rw [← M0.out, ← M1.out, ← M2.out]; omega)])
    clear g2
    have r0 := (blk_cell h5.r 0).trans rfl
    have f0 := blk_free h5.r 0
    have r1 := (blk_cell h5.r 1).trans rfl
    have f1 := blk_free h5.r 1
    have r2 := (blk_cell h5.r 2).trans rfl
    have f2 := blk_free h5.r 2
    have r3 := (blk_cell h5.r 3).trans rfl
    have f3 := blk_free h5.r 3
    have r4 := (blk_cell h5.r 4).trans rfl
    have f4 := blk_free h5.r 4
    have r5 := (blk_cell h5.r 5).trans rfl
    have f5 := blk_free h5.r 5
    have r6 := (blk_cell h5.r 6).trans rfl
    have f6 := blk_free h5.r 6
    have r7 := (blk_cell h5.r 7).trans rfl
    have f7 := blk_free h5.r 7
    have r8 := (blk_cell h5.r 8).trans rfl
    have f8 := blk_free h5.r 8
    go_wp2_with fail
    obtain ⟨wz, hwz, Yz, Sz⟩ := set9 h5.r rfl (.int .i64 0) (.int .i64 0) (.int .i64 0) (.int .i64 0) (.int .i64 0) (.int .i64 0) (.int .i64 0) (.int .i64 0) (.slice none 0 0)
    rw [← hwz]
    clear hwz r0 f0 r1 f1 r2 f2 r3 f3 r4 f4 r5 f5 r6 f6 r7 f7 r8 f8
    have g0 := (blk_cell Yz 0).trans rfl
    have g1 := (blk_cell Yz 1).trans rfl
    have g2 := (blk_cell Yz 2).trans rfl
    have g3 := (blk_cell Yz 3).trans rfl
    have g4 := (blk_cell Yz 4).trans rfl
    have g5 := (blk_cell Yz 5).trans rfl
    have g6 := (blk_cell Yz 6).trans rfl
    have g7 := (blk_cell Yz 7).trans rfl
    have g8 := (blk_cell Yz 8).trans rfl
    refine bodyPost_ret (v := .tuple #[.agg #[.int .i64 0, .int .i64 0, .int .i64 0, .int .i64 0, .int .i64 0, .int .i64 0, .int .i64 0, .int .i64 0, .slice none 0 0], .int .i64 30]) (by simp [results, Try.results10, go_sem, g0, g1, g2, g3, g4, g5, g6, g7, g8]) rfl (DecR.no 30 HE.out (by omega) (h5.n.trans Sz (fun j hj e => by omega)))
  have b2 : (m2 != 1) = false := by simpa using g2
  have cf2 := h5.cf
  go_wp2_with fail
  obtain ⟨v0, hv0⟩ : ∃ v, toI (nmAt l 3 1) = v := ⟨_, rfl⟩
  have HV0 := hide hv0
  clear hv0
  obtain ⟨v1, hv1⟩ : ∃ v, toI (nmAt l 4 1) = v := ⟨_, rfl⟩
  have HV1 := hide hv1
  clear hv1
  obtain ⟨v2, hv2⟩ : ∃ v, toI (nmAt l 5 1) = v := ⟨_, rfl⟩
  have HV2 := hide hv2
  clear hv2
  obtain ⟨v3, hv3⟩ : ∃ v, toI (nmAt l 6 1) = v := ⟨_, rfl⟩
  have HV3 := hide hv3
  clear hv3
  obtain ⟨v4, hv4⟩ : ∃ v, toI (nmAt l 7 1) = v := ⟨_, rfl⟩
  have HV4 := hide hv4
  clear hv4
  obtain ⟨v5, hv5⟩ : ∃ v, toI (nmAt l 8 4) = v := ⟨_, rfl⟩
  have HV5 := hide hv5
  clear hv5
  obtain ⟨v6, hv6⟩ : ∃ v, toI (nmAt l 12 8) = v := ⟨_, rfl⟩
  have HV6 := hide hv6
  clear hv6
  obtain ⟨v7, hv7⟩ : ∃ v, toI (nmAt l 20 8) = v := ⟨_, rfl⟩
  have HV7 := hide hv7
  clear hv7
  clear b0 b1 b2 cf0 cf1 cf2
  go_cut [5] (fun s5 wc => ∃ X, s5 = .pointer (some ⟨X, 0, none⟩) ∧ DMid w wc q F R A n l X v0 v1 v2 v3 v4 v5 v6 v7)
  case first =>
    have q0 : ∀ y : Lat (fun j => j = q) w5, y.W.cell? ⟨F, 0, none⟩ = some (.pointer (some ⟨q, 0, none⟩)) := fun y => (blk_cell (y.ext.keep h5.f h5.qF) 0).trans rfl
    refine mix_start (fun j => j = q) w5 (by kernel_rfl) ?_
    refine mix_batch [0, 2, 4, 6, 8, 10, 12, 14] (by kernel_rfl) 11 _ _ _ (by kernel_rfl) (lat_mem (by (repeat (first | exact Ext.refl _ _ | assumption | apply Ext.alloc | apply Ext.drewN | apply Ext.drew | refine Ext.setCell ?_ (fun h => by first | rfl | exact absurd h (by dsimp only; omega)) _)))) ?_
    simp only [pickOps, List.getD_cons_zero, List.getD_cons_succ]
    repeat (go_big_quiet_step (fail))
    refine wpQuiet_nil ?_
    clear q0
    obtain ⟨w6, hw6⟩ : ∃ v, v = w5.drew := ⟨_, rfl⟩
    rw [← hw6]
    have N6 : New w5 w6 := by rw [hw6]; exact (Ext.refl _ _).drew
    clear hw6
    have h6 := h5.new N6
    have E6 : Ext (fun j => j = q) w5 w6 := N6.to
    refine mix_two (i := 1) (j := 17) (by kernel_rfl) rfl rfl (fun K hK => ?_) (fun K hK => ?_)
    · go_simp
      refine (int_at h6.rd hB h5.qA 1 1 rfl (by omega) (by omega) (by omega) 4 rfl v0 HV0.out).mono ?_
      rintro e w11 ⟨rfl, rd11, he11⟩
      have h11 := h6.step rd11 he11
      have E11 := E6.trans he11 (fun _ _ h => h)
      refine hK.out _ _ (lat_mem E11) ?_
      clear hK
      refine mix_two (i := 3) (j := 17) (by kernel_rfl) rfl rfl (fun K hK => ?_) (fun K hK => ?_)
      · go_simp
        refine (int_at h11.rd hB h5.qA 1 1 rfl (by omega) (by omega) (by omega) 5 rfl v1 HV1.out).mono ?_
        rintro e w12 ⟨rfl, rd12, he12⟩
        have h12 := h11.step rd12 he12
        have E12 := E11.trans he12 (fun _ _ h => h)
        refine hK.out _ _ (lat_mem E12) ?_
        clear hK
        refine mix_two (i := 5) (j := 17) (by kernel_rfl) rfl rfl (fun K hK => ?_) (fun K hK => ?_)
        · go_simp
          refine (int_at h12.rd hB h5.qA 1 1 rfl (by omega) (by omega) (by omega) 6 rfl v2 HV2.out).mono ?_
          rintro e w13 ⟨rfl, rd13, he13⟩
          have h13 := h12.step rd13 he13
          have E13 := E12.trans he13 (fun _ _ h => h)
          refine hK.out _ _ (lat_mem E13) ?_
          clear hK
          refine mix_two (i := 7) (j := 17) (by kernel_rfl) rfl rfl (fun K hK => ?_) (fun K hK => ?_)
          · go_simp
            refine (int_at h13.rd hB h5.qA 1 1 rfl (by omega) (by omega) (by omega) 7 rfl v3 HV3.out).mono ?_
            rintro e w14 ⟨rfl, rd14, he14⟩
            have h14 := h13.step rd14 he14
            have E14 := E13.trans he14 (fun _ _ h => h)
            refine hK.out _ _ (lat_mem E14) ?_
            clear hK
            refine mix_two (i := 9) (j := 17) (by kernel_rfl) rfl rfl (fun K hK => ?_) (fun K hK => ?_)
            · go_simp
              refine (int_at h14.rd hB h5.qA 1 1 rfl (by omega) (by omega) (by omega) 8 rfl v4 HV4.out).mono ?_
              rintro e w15 ⟨rfl, rd15, he15⟩
              have h15 := h14.step rd15 he15
              have E15 := E14.trans he15 (fun _ _ h => h)
              refine hK.out _ _ (lat_mem E15) ?_
              clear hK
              refine mix_two (i := 11) (j := 17) (by kernel_rfl) rfl rfl (fun K hK => ?_) (fun K hK => ?_)
              · go_simp
                refine (int_at h15.rd hB h5.qA 4 4 rfl (by omega) (by omega) (by omega) 12 rfl v5 HV5.out).mono ?_
                rintro e w16 ⟨rfl, rd16, he16⟩
                have h16 := h15.step rd16 he16
                have E16 := E15.trans he16 (fun _ _ h => h)
                refine hK.out _ _ (lat_mem E16) ?_
                clear hK
                refine mix_two (i := 13) (j := 17) (by kernel_rfl) rfl rfl (fun K hK => ?_) (fun K hK => ?_)
                · go_simp
                  refine (int_at h16.rd hB h5.qA 8 8 rfl (by omega) (by omega) (by omega) 20 rfl v6 HV6.out).mono ?_
                  rintro e w17 ⟨rfl, rd17, he17⟩
                  have h17 := h16.step rd17 he17
                  have E17 := E16.trans he17 (fun _ _ h => h)
                  refine hK.out _ _ (lat_mem E17) ?_
                  clear hK
                  refine mix_two (i := 15) (j := 17) (by kernel_rfl) rfl rfl (fun K hK => ?_) (fun K hK => ?_)
                  · go_simp
                    refine (int_at h17.rd hB h5.qA 8 8 rfl (by omega) (by omega) (by omega) 28 rfl v7 HV7.out).mono ?_
                    rintro e w18 ⟨rfl, rd18, he18⟩
                    have h18 := h17.step rd18 he18
                    have E18 := E17.trans he18 (fun _ _ h => h)
                    refine hK.out _ _ (lat_mem E18) ?_
                    clear hK
                    refine mix_batch [16] (by kernel_rfl) 2 _ _ _ (by kernel_rfl) (lat_mem (by (repeat (first | exact Ext.refl _ _ | assumption | apply Ext.alloc | apply Ext.drewN | apply Ext.drew | refine Ext.setCell ?_ (fun h => by first | rfl | exact absurd h (by dsimp only; omega)) _)))) ?_
                    simp only [pickOps, List.getD_cons_zero, List.getD_cons_succ]
                    repeat (go_big_quiet_step (fail))
                    refine wpQuiet_nil ?_
                    refine mix_loud (i := 17) (by kernel_rfl) rfl (fun K hK => ?_)
                    go_simp
                    obtain ⟨w19, hw19⟩ : ∃ v, v = w18.alloc (.cells #[.int .i64 0, .int .i64 0, .int .i64 0, .int .i64 0, .int .i64 0, .int .i64 0, .int .i64 0, .int .i64 0, .slice none 0 0] 25) := ⟨_, rfl⟩
                    have X19 : w19.heap[w18.heap.size]? = some (.cells #[.int .i64 0, .int .i64 0, .int .i64 0, .int .i64 0, .int .i64 0, .int .i64 0, .int .i64 0, .int .i64 0, .slice none 0 0] 25) := by rw [hw19]; exact blk_new _ _
                    have A19 : New w18 w19 := by rw [hw19]; exact New.alloc1 _ _
                    have hXq : w18.heap.size ≠ q := fun e => by have := h18.qlt; omega
                    rw [← hw19]
                    have hXs : w5.heap.size ≤ w18.heap.size := E18.size
                    have hXw : w.heap.size ≤ w18.heap.size := by have := h18.n.size; omega
                    have hXF : w18.heap.size ≠ F := fun e => by have := h18.flt; omega
                    have hXR : w18.heap.size ≠ R := fun e => by have := h18.rlt; omega
                    clear hw19
                    have h19 := h18.new A19
                    have E19 := E18.trans A19.to (fun _ _ h => h)
                    have hX19l : w18.heap.size < w19.heap.size := blk_lt X19
                    refine hK.out _ _ (lat_mem E19) ?_
                    clear hK
                    have x0 := (blk_cell X19 0).trans rfl
                    have y0 := blk_free X19 0
                    have x1 := (blk_cell X19 1).trans rfl
                    have y1 := blk_free X19 1
                    have x2 := (blk_cell X19 2).trans rfl
                    have y2 := blk_free X19 2
                    have x3 := (blk_cell X19 3).trans rfl
                    have y3 := blk_free X19 3
                    have x4 := (blk_cell X19 4).trans rfl
                    have y4 := blk_free X19 4
                    have x5 := (blk_cell X19 5).trans rfl
                    have y5 := blk_free X19 5
                    have x6 := (blk_cell X19 6).trans rfl
                    have y6 := blk_free X19 6
                    have x7 := (blk_cell X19 7).trans rfl
                    have y7 := blk_free X19 7
                    have x8 := (blk_cell X19 8).trans rfl
                    have y8 := blk_free X19 8
                    refine mix_loud (i := 18) (by kernel_rfl) rfl (fun K hK => ?_)
                    go_simp
                    obtain ⟨w20, hw20, Y20, S20⟩ := set9 X19 rfl (.int .i64 v0) (.int .i64 v1) (.int .i64 v2) (.int .i64 v3) (.int .i64 v4) (.int .i64 v5) (.int .i64 v6) (.int .i64 v7) (.slice none 0 0)
                    rw [← hw20]
                    clear hw20
                    refine hK.out _ _ (lat_mem (E19.trans S20 (fun j hj e => by omega))) ?_
                    clear hK x0 x1 x2 x3 x4 x5 x6 x7 x8 y0 y1 y2 y3 y4 y5 y6 y7 y8
                    refine wpAnyH_done (by kernel_rfl) (NoPanic.normal ?_) _
                    go_wp2_with fail
                    go_meet
                    exact ⟨_, rfl, h19.keepX S20 hXw hXq hXF hXR, Y20, hXq, hXF, hXR, hXw⟩
                  · go_simp
                    obtain ⟨w21, hw21⟩ : ∃ v, v = w17.alloc (.cells #[.int .i64 0, .int .i64 0, .int .i64 0, .int .i64 0, .int .i64 0, .int .i64 0, .int .i64 0, .int .i64 0, .slice none 0 0] 25) := ⟨_, rfl⟩
                    have X21 : w21.heap[w17.heap.size]? = some (.cells #[.int .i64 0, .int .i64 0, .int .i64 0, .int .i64 0, .int .i64 0, .int .i64 0, .int .i64 0, .int .i64 0, .slice none 0 0] 25) := by rw [hw21]; exact blk_new _ _
                    have A21 : New w17 w21 := by rw [hw21]; exact New.alloc1 _ _
                    have hXq : w17.heap.size ≠ q := fun e => by have := h17.qlt; omega
                    rw [← hw21]
                    have hXs : w5.heap.size ≤ w17.heap.size := E17.size
                    have hXw : w.heap.size ≤ w17.heap.size := by have := h17.n.size; omega
                    have hXF : w17.heap.size ≠ F := fun e => by have := h17.flt; omega
                    have hXR : w17.heap.size ≠ R := fun e => by have := h17.rlt; omega
                    clear hw21
                    have h21 := h17.new A21
                    have E21 := E17.trans A21.to (fun _ _ h => h)
                    have hX21l : w17.heap.size < w21.heap.size := blk_lt X21
                    refine hK.out _ _ (lat_mem E21) ?_
                    clear hK
                    refine mix_loud (i := 15) (by kernel_rfl) rfl (fun K hK => ?_)
                    go_simp
                    refine (int_at h21.rd hB h5.qA 8 8 rfl (by omega) (by omega) (by omega) 28 rfl v7 HV7.out).mono ?_
                    rintro e w22 ⟨rfl, rd22, he22⟩
                    have h22 := h21.step rd22 he22
                    have E22 := E21.trans he22 (fun _ _ h => h)
                    have X22 := he22.keep X21 hXq
                    refine hK.out _ _ (lat_mem E22) ?_
                    clear hK
                    refine mix_batch [16] (by kernel_rfl) 1 _ _ _ (by kernel_rfl) (lat_mem (by (repeat (first | exact Ext.refl _ _ | assumption | apply Ext.alloc | apply Ext.drewN | apply Ext.drew | refine Ext.setCell ?_ (fun h => by first | rfl | exact absurd h (by dsimp only; omega)) _)))) ?_
                    simp only [pickOps, List.getD_cons_zero, List.getD_cons_succ]
                    repeat (go_big_quiet_step (fail))
                    refine wpQuiet_nil ?_
                    have x0 := (blk_cell X22 0).trans rfl
                    have y0 := blk_free X22 0
                    have x1 := (blk_cell X22 1).trans rfl
                    have y1 := blk_free X22 1
                    have x2 := (blk_cell X22 2).trans rfl
                    have y2 := blk_free X22 2
                    have x3 := (blk_cell X22 3).trans rfl
                    have y3 := blk_free X22 3
                    have x4 := (blk_cell X22 4).trans rfl
                    have y4 := blk_free X22 4
                    have x5 := (blk_cell X22 5).trans rfl
                    have y5 := blk_free X22 5
                    have x6 := (blk_cell X22 6).trans rfl
                    have y6 := blk_free X22 6
                    have x7 := (blk_cell X22 7).trans rfl
                    have y7 := blk_free X22 7
                    have x8 := (blk_cell X22 8).trans rfl
                    have y8 := blk_free X22 8
                    refine mix_loud (i := 18) (by kernel_rfl) rfl (fun K hK => ?_)
                    go_simp
                    obtain ⟨w23, hw23, Y23, S23⟩ := set9 X22 rfl (.int .i64 v0) (.int .i64 v1) (.int .i64 v2) (.int .i64 v3) (.int .i64 v4) (.int .i64 v5) (.int .i64 v6) (.int .i64 v7) (.slice none 0 0)
                    rw [← hw23]
                    clear hw23
                    refine hK.out _ _ (lat_mem (E22.trans S23 (fun j hj e => by omega))) ?_
                    clear hK x0 x1 x2 x3 x4 x5 x6 x7 x8 y0 y1 y2 y3 y4 y5 y6 y7 y8
                    refine wpAnyH_done (by kernel_rfl) (NoPanic.normal ?_) _
                    go_wp2_with fail
                    go_meet
                    exact ⟨_, rfl, h22.keepX S23 hXw hXq hXF hXR, Y23, hXq, hXF, hXR, hXw⟩
                · go_simp
                  obtain ⟨w24, hw24⟩ : ∃ v, v = w16.alloc (.cells #[.int .i64 0, .int .i64 0, .int .i64 0, .int .i64 0, .int .i64 0, .int .i64 0, .int .i64 0, .int .i64 0, .slice none 0 0] 25) := ⟨_, rfl⟩
                  have X24 : w24.heap[w16.heap.size]? = some (.cells #[.int .i64 0, .int .i64 0, .int .i64 0, .int .i64 0, .int .i64 0, .int .i64 0, .int .i64 0, .int .i64 0, .slice none 0 0] 25) := by rw [hw24]; exact blk_new _ _
                  have A24 : New w16 w24 := by rw [hw24]; exact New.alloc1 _ _
                  have hXq : w16.heap.size ≠ q := fun e => by have := h16.qlt; omega
                  rw [← hw24]
                  have hXs : w5.heap.size ≤ w16.heap.size := E16.size
                  have hXw : w.heap.size ≤ w16.heap.size := by have := h16.n.size; omega
                  have hXF : w16.heap.size ≠ F := fun e => by have := h16.flt; omega
                  have hXR : w16.heap.size ≠ R := fun e => by have := h16.rlt; omega
                  clear hw24
                  have h24 := h16.new A24
                  have E24 := E16.trans A24.to (fun _ _ h => h)
                  have hX24l : w16.heap.size < w24.heap.size := blk_lt X24
                  refine hK.out _ _ (lat_mem E24) ?_
                  clear hK
                  refine mix_loud (i := 13) (by kernel_rfl) rfl (fun K hK => ?_)
                  go_simp
                  refine (int_at h24.rd hB h5.qA 8 8 rfl (by omega) (by omega) (by omega) 20 rfl v6 HV6.out).mono ?_
                  rintro e w25 ⟨rfl, rd25, he25⟩
                  have h25 := h24.step rd25 he25
                  have E25 := E24.trans he25 (fun _ _ h => h)
                  have X25 := he25.keep X24 hXq
                  refine hK.out _ _ (lat_mem E25) ?_
                  clear hK
                  refine mix_loud (i := 15) (by kernel_rfl) rfl (fun K hK => ?_)
                  go_simp
                  refine (int_at h25.rd hB h5.qA 8 8 rfl (by omega) (by omega) (by omega) 28 rfl v7 HV7.out).mono ?_
                  rintro e w26 ⟨rfl, rd26, he26⟩
                  have h26 := h25.step rd26 he26
                  have E26 := E25.trans he26 (fun _ _ h => h)
                  have X26 := he26.keep X25 hXq
                  refine hK.out _ _ (lat_mem E26) ?_
                  clear hK
                  refine mix_batch [16] (by kernel_rfl) 1 _ _ _ (by kernel_rfl) (lat_mem (by (repeat (first | exact Ext.refl _ _ | assumption | apply Ext.alloc | apply Ext.drewN | apply Ext.drew | refine Ext.setCell ?_ (fun h => by first | rfl | exact absurd h (by dsimp only; omega)) _)))) ?_
                  simp only [pickOps, List.getD_cons_zero, List.getD_cons_succ]
                  repeat (go_big_quiet_step (fail))
                  refine wpQuiet_nil ?_
                  have x0 := (blk_cell X26 0).trans rfl
                  have y0 := blk_free X26 0
                  have x1 := (blk_cell X26 1).trans rfl
                  have y1 := blk_free X26 1
                  have x2 := (blk_cell X26 2).trans rfl
                  have y2 := blk_free X26 2
                  have x3 := (blk_cell X26 3).trans rfl
                  have y3 := blk_free X26 3
                  have x4 := (blk_cell X26 4).trans rfl
                  have y4 := blk_free X26 4
                  have x5 := (blk_cell X26 5).trans rfl
                  have y5 := blk_free X26 5
                  have x6 := (blk_cell X26 6).trans rfl
                  have y6 := blk_free X26 6
                  have x7 := (blk_cell X26 7).trans rfl
                  have y7 := blk_free X26 7
                  have x8 := (blk_cell X26 8).trans rfl
                  have y8 := blk_free X26 8
                  refine mix_loud (i := 18) (by kernel_rfl) rfl (fun K hK => ?_)
                  go_simp
                  obtain ⟨w27, hw27, Y27, S27⟩ := set9 X26 rfl (.int .i64 v0) (.int .i64 v1) (.int .i64 v2) (.int .i64 v3) (.int .i64 v4) (.int .i64 v5) (.int .i64 v6) (.int .i64 v7) (.slice none 0 0)
                  rw [← hw27]
                  clear hw27
                  refine hK.out _ _ (lat_mem (E26.trans S27 (fun j hj e => by omega))) ?_
                  clear hK x0 x1 x2 x3 x4 x5 x6 x7 x8 y0 y1 y2 y3 y4 y5 y6 y7 y8
                  refine wpAnyH_done (by kernel_rfl) (NoPanic.normal ?_) _
                  go_wp2_with fail
                  go_meet
                  exact ⟨_, rfl, h26.keepX S27 hXw hXq hXF hXR, Y27, hXq, hXF, hXR, hXw⟩
              · go_simp
                obtain ⟨w28, hw28⟩ : ∃ v, v = w15.alloc (.cells #[.int .i64 0, .int .i64 0, .int .i64 0, .int .i64 0, .int .i64 0, .int .i64 0, .int .i64 0, .int .i64 0, .slice none 0 0] 25) := ⟨_, rfl⟩
                have X28 : w28.heap[w15.heap.size]? = some (.cells #[.int .i64 0, .int .i64 0, .int .i64 0, .int .i64 0, .int .i64 0, .int .i64 0, .int .i64 0, .int .i64 0, .slice none 0 0] 25) := by rw [hw28]; exact blk_new _ _
                have A28 : New w15 w28 := by rw [hw28]; exact New.alloc1 _ _
                have hXq : w15.heap.size ≠ q := fun e => by have := h15.qlt; omega
                rw [← hw28]
                have hXs : w5.heap.size ≤ w15.heap.size := E15.size
                have hXw : w.heap.size ≤ w15.heap.size := by have := h15.n.size; omega
                have hXF : w15.heap.size ≠ F := fun e => by have := h15.flt; omega
                have hXR : w15.heap.size ≠ R := fun e => by have := h15.rlt; omega
                clear hw28
                have h28 := h15.new A28
                have E28 := E15.trans A28.to (fun _ _ h => h)
                have hX28l : w15.heap.size < w28.heap.size := blk_lt X28
                refine hK.out _ _ (lat_mem E28) ?_
                clear hK
                refine mix_loud (i := 11) (by kernel_rfl) rfl (fun K hK => ?_)
                go_simp
                refine (int_at h28.rd hB h5.qA 4 4 rfl (by omega) (by omega) (by omega) 12 rfl v5 HV5.out).mono ?_
                rintro e w29 ⟨rfl, rd29, he29⟩
                have h29 := h28.step rd29 he29
                have E29 := E28.trans he29 (fun _ _ h => h)
                have X29 := he29.keep X28 hXq
                refine hK.out _ _ (lat_mem E29) ?_
                clear hK
                refine mix_loud (i := 13) (by kernel_rfl) rfl (fun K hK => ?_)
                go_simp
                refine (int_at h29.rd hB h5.qA 8 8 rfl (by omega) (by omega) (by omega) 20 rfl v6 HV6.out).mono ?_
                rintro e w30 ⟨rfl, rd30, he30⟩
                have h30 := h29.step rd30 he30
                have E30 := E29.trans he30 (fun _ _ h => h)
                have X30 := he30.keep X29 hXq
                refine hK.out _ _ (lat_mem E30) ?_
                clear hK
                refine mix_loud (i := 15) (by kernel_rfl) rfl (fun K hK => ?_)
                go_simp
                refine (int_at h30.rd hB h5.qA 8 8 rfl (by omega) (by omega) (by omega) 28 rfl v7 HV7.out).mono ?_
                rintro e w31 ⟨rfl, rd31, he31⟩
                have h31 := h30.step rd31 he31
                have E31 := E30.trans he31 (fun _ _ h => h)
                have X31 := he31.keep X30 hXq
                refine hK.out _ _ (lat_mem E31) ?_
                clear hK
                refine mix_batch [16] (by kernel_rfl) 1 _ _ _ (by kernel_rfl) (lat_mem (by (repeat (first | exact Ext.refl _ _ | assumption | apply Ext.alloc | apply Ext.drewN | apply Ext.drew | refine Ext.setCell ?_ (fun h => by first | rfl | exact absurd h (by dsimp only; omega)) _)))) ?_
                simp only [pickOps, List.getD_cons_zero, List.getD_cons_succ]
                repeat (go_big_quiet_step (fail))
                refine wpQuiet_nil ?_
                have x0 := (blk_cell X31 0).trans rfl
                have y0 := blk_free X31 0
                have x1 := (blk_cell X31 1).trans rfl
                have y1 := blk_free X31 1
                have x2 := (blk_cell X31 2).trans rfl
                have y2 := blk_free X31 2
                have x3 := (blk_cell X31 3).trans rfl
                have y3 := blk_free X31 3
                have x4 := (blk_cell X31 4).trans rfl
                have y4 := blk_free X31 4
                have x5 := (blk_cell X31 5).trans rfl
                have y5 := blk_free X31 5
                have x6 := (blk_cell X31 6).trans rfl
                have y6 := blk_free X31 6
                have x7 := (blk_cell X31 7).trans rfl
                have y7 := blk_free X31 7
                have x8 := (blk_cell X31 8).trans rfl
                have y8 := blk_free X31 8
                refine mix_loud (i := 18) (by kernel_rfl) rfl (fun K hK => ?_)
                go_simp
                obtain ⟨w32, hw32, Y32, S32⟩ := set9 X31 rfl (.int .i64 v0) (.int .i64 v1) (.int .i64 v2) (.int .i64 v3) (.int .i64 v4) (.int .i64 v5) (.int .i64 v6) (.int .i64 v7) (.slice none 0 0)
                rw [← hw32]
                clear hw32
                refine hK.out _ _ (lat_mem (E31.trans S32 (fun j hj e => by omega))) ?_
                clear hK x0 x1 x2 x3 x4 x5 x6 x7 x8 y0 y1 y2 y3 y4 y5 y6 y7 y8
                refine wpAnyH_done (by kernel_rfl) (NoPanic.normal ?_) _
                go_wp2_with fail
                go_meet
                exact ⟨_, rfl, h31.keepX S32 hXw hXq hXF hXR, Y32, hXq, hXF, hXR, hXw⟩
            · go_simp
              obtain ⟨w33, hw33⟩ : ∃ v, v = w14.alloc (.cells #[.int .i64 0, .int .i64 0, .int .i64 0, .int .i64 0, .int .i64 0, .int .i64 0, .int .i64 0, .int .i64 0, .slice none 0 0] 25) := ⟨_, rfl⟩
              have X33 : w33.heap[w14.heap.size]? = some (.cells #[.int .i64 0, .int .i64 0, .int .i64 0, .int .i64 0, .int .i64 0, .int .i64 0, .int .i64 0, .int .i64 0, .slice none 0 0] 25) := by rw [hw33]; exact blk_new _ _
              have A33 : New w14 w33 := by rw [hw33]; exact New.alloc1 _ _
              have hXq : w14.heap.size ≠ q := fun e => by have := h14.qlt; omega
              rw [← hw33]
              have hXs : w5.heap.size ≤ w14.heap.size := E14.size
              have hXw : w.heap.size ≤ w14.heap.size := by have := h14.n.size; omega
              have hXF : w14.heap.size ≠ F := fun e => by have := h14.flt; omega
              have hXR : w14.heap.size ≠ R := fun e => by have := h14.rlt; omega
              clear hw33
              have h33 := h14.new A33
              have E33 := E14.trans A33.to (fun _ _ h => h)
              have hX33l : w14.heap.size < w33.heap.size := blk_lt X33
              refine hK.out _ _ (lat_mem E33) ?_
              clear hK
              refine mix_loud (i := 9) (by kernel_rfl) rfl (fun K hK => ?_)
              go_simp
              refine (int_at h33.rd hB h5.qA 1 1 rfl (by omega) (by omega) (by omega) 8 rfl v4 HV4.out).mono ?_
              rintro e w34 ⟨rfl, rd34, he34⟩
              have h34 := h33.step rd34 he34
              have E34 := E33.trans he34 (fun _ _ h => h)
              have X34 := he34.keep X33 hXq
              refine hK.out _ _ (lat_mem E34) ?_
              clear hK
              refine mix_loud (i := 11) (by kernel_rfl) rfl (fun K hK => ?_)
              go_simp
              refine (int_at h34.rd hB h5.qA 4 4 rfl (by omega) (by omega) (by omega) 12 rfl v5 HV5.out).mono ?_
              rintro e w35 ⟨rfl, rd35, he35⟩
              have h35 := h34.step rd35 he35
              have E35 := E34.trans he35 (fun _ _ h => h)
              have X35 := he35.keep X34 hXq
              refine hK.out _ _ (lat_mem E35) ?_
              clear hK
              refine mix_loud (i := 13) (by kernel_rfl) rfl (fun K hK => ?_)
              go_simp
              refine (int_at h35.rd hB h5.qA 8 8 rfl (by omega) (by omega) (by omega) 20 rfl v6 HV6.out).mono ?_
              rintro e w36 ⟨rfl, rd36, he36⟩
              have h36 := h35.step rd36 he36
              have E36 := E35.trans he36 (fun _ _ h => h)
              have X36 := he36.keep X35 hXq
              refine hK.out _ _ (lat_mem E36) ?_
              clear hK
              refine mix_loud (i := 15) (by kernel_rfl) rfl (fun K hK => ?_)
              go_simp
              refine (int_at h36.rd hB h5.qA 8 8 rfl (by omega) (by omega) (by omega) 28 rfl v7 HV7.out).mono ?_
              rintro e w37 ⟨rfl, rd37, he37⟩
              have h37 := h36.step rd37 he37
              have E37 := E36.trans he37 (fun _ _ h => h)
              have X37 := he37.keep X36 hXq
              refine hK.out _ _ (lat_mem E37) ?_
              clear hK
              refine mix_batch [16] (by kernel_rfl) 1 _ _ _ (by kernel_rfl) (lat_mem (by (repeat (first | exact Ext.refl _ _ | assumption | apply Ext.alloc | apply Ext.drewN | apply Ext.drew | refine Ext.setCell ?_ (fun h => by first | rfl | exact absurd h (by dsimp only; omega)) _)))) ?_
              simp only [pickOps, List.getD_cons_zero, List.getD_cons_succ]
              repeat (go_big_quiet_step (fail))
              refine wpQuiet_nil ?_
              have x0 := (blk_cell X37 0).trans rfl
              have y0 := blk_free X37 0
              have x1 := (blk_cell X37 1).trans rfl
              have y1 := blk_free X37 1
              have x2 := (blk_cell X37 2).trans rfl
              have y2 := blk_free X37 2
              have x3 := (blk_cell X37 3).trans rfl
              have y3 := blk_free X37 3
              have x4 := (blk_cell X37 4).trans rfl
              have y4 := blk_free X37 4
              have x5 := (blk_cell X37 5).trans rfl
              have y5 := blk_free X37 5
              have x6 := (blk_cell X37 6).trans rfl
              have y6 := blk_free X37 6
              have x7 := (blk_cell X37 7).trans rfl
              have y7 := blk_free X37 7
              have x8 := (blk_cell X37 8).trans rfl
              have y8 := blk_free X37 8
              refine mix_loud (i := 18) (by kernel_rfl) rfl (fun K hK => ?_)
              go_simp
              obtain ⟨w38, hw38, Y38, S38⟩ := set9 X37 rfl (.int .i64 v0) (.int .i64 v1) (.int .i64 v2) (.int .i64 v3) (.int .i64 v4) (.int .i64 v5) (.int .i64 v6) (.int .i64 v7) (.slice none 0 0)
              rw [← hw38]
              clear hw38
              refine hK.out _ _ (lat_mem (E37.trans S38 (fun j hj e => by omega))) ?_
              clear hK x0 x1 x2 x3 x4 x5 x6 x7 x8 y0 y1 y2 y3 y4 y5 y6 y7 y8
              refine wpAnyH_done (by kernel_rfl) (NoPanic.normal ?_) _
              go_wp2_with fail
              go_meet
              exact ⟨_, rfl, h37.keepX S38 hXw hXq hXF hXR, Y38, hXq, hXF, hXR, hXw⟩
          · go_simp
            obtain ⟨w39, hw39⟩ : ∃ v, v = w13.alloc (.cells #[.int .i64 0, .int .i64 0, .int .i64 0, .int .i64 0, .int .i64 0, .int .i64 0, .int .i64 0, .int .i64 0, .slice none 0 0] 25) := ⟨_, rfl⟩
            have X39 : w39.heap[w13.heap.size]? = some (.cells #[.int .i64 0, .int .i64 0, .int .i64 0, .int .i64 0, .int .i64 0, .int .i64 0, .int .i64 0, .int .i64 0, .slice none 0 0] 25) := by rw [hw39]; exact blk_new _ _
            have A39 : New w13 w39 := by rw [hw39]; exact New.alloc1 _ _
            have hXq : w13.heap.size ≠ q := fun e => by have := h13.qlt; omega
            rw [← hw39]
            have hXs : w5.heap.size ≤ w13.heap.size := E13.size
            have hXw : w.heap.size ≤ w13.heap.size := by have := h13.n.size; omega
            have hXF : w13.heap.size ≠ F := fun e => by have := h13.flt; omega
            have hXR : w13.heap.size ≠ R := fun e => by have := h13.rlt; omega
            clear hw39
            have h39 := h13.new A39
            have E39 := E13.trans A39.to (fun _ _ h => h)
            have hX39l : w13.heap.size < w39.heap.size := blk_lt X39
            refine hK.out _ _ (lat_mem E39) ?_
            clear hK
            refine mix_loud (i := 7) (by kernel_rfl) rfl (fun K hK => ?_)
            go_simp
            refine (int_at h39.rd hB h5.qA 1 1 rfl (by omega) (by omega) (by omega) 7 rfl v3 HV3.out).mono ?_
            rintro e w40 ⟨rfl, rd40, he40⟩
            have h40 := h39.step rd40 he40
            have E40 := E39.trans he40 (fun _ _ h => h)
            have X40 := he40.keep X39 hXq
            refine hK.out _ _ (lat_mem E40) ?_
            clear hK
            refine mix_loud (i := 9) (by kernel_rfl) rfl (fun K hK => ?_)
            go_simp
            refine (int_at h40.rd hB h5.qA 1 1 rfl (by omega) (by omega) (by omega) 8 rfl v4 HV4.out).mono ?_
            rintro e w41 ⟨rfl, rd41, he41⟩
            have h41 := h40.step rd41 he41
            have E41 := E40.trans he41 (fun _ _ h => h)
            have X41 := he41.keep X40 hXq
            refine hK.out _ _ (lat_mem E41) ?_
            clear hK
            refine mix_loud (i := 11) (by kernel_rfl) rfl (fun K hK => ?_)
            go_simp
            refine (int_at h41.rd hB h5.qA 4 4 rfl (by omega) (by omega) (by omega) 12 rfl v5 HV5.out).mono ?_
            rintro e w42 ⟨rfl, rd42, he42⟩
            have h42 := h41.step rd42 he42
            have E42 := E41.trans he42 (fun _ _ h => h)
            have X42 := he42.keep X41 hXq
            refine hK.out _ _ (lat_mem E42) ?_
            clear hK
            refine mix_loud (i := 13) (by kernel_rfl) rfl (fun K hK => ?_)
            go_simp
            refine (int_at h42.rd hB h5.qA 8 8 rfl (by omega) (by omega) (by omega) 20 rfl v6 HV6.out).mono ?_
            rintro e w43 ⟨rfl, rd43, he43⟩
            have h43 := h42.step rd43 he43
            have E43 := E42.trans he43 (fun _ _ h => h)
            have X43 := he43.keep X42 hXq
            refine hK.out _ _ (lat_mem E43) ?_
            clear hK
            refine mix_loud (i := 15) (by kernel_rfl) rfl (fun K hK => ?_)
            go_simp
            refine (int_at h43.rd hB h5.qA 8 8 rfl (by omega) (by omega) (by omega) 28 rfl v7 HV7.out).mono ?_
            rintro e w44 ⟨rfl, rd44, he44⟩
            have h44 := h43.step rd44 he44
            have E44 := E43.trans he44 (fun _ _ h => h)
            have X44 := he44.keep X43 hXq
            refine hK.out _ _ (lat_mem E44) ?_
            clear hK
            refine mix_batch [16] (by kernel_rfl) 1 _ _ _ (by kernel_rfl) (lat_mem (by (repeat (first | exact Ext.refl _ _ | assumption | apply Ext.alloc | apply Ext.drewN | apply Ext.drew | refine Ext.setCell ?_ (fun h => by first | rfl | exact absurd h (by dsimp only; omega)) _)))) ?_
            simp only [pickOps, List.getD_cons_zero, List.getD_cons_succ]
            repeat (go_big_quiet_step (fail))
            refine wpQuiet_nil ?_
            have x0 := (blk_cell X44 0).trans rfl
            have y0 := blk_free X44 0
            have x1 := (blk_cell X44 1).trans rfl
            have y1 := blk_free X44 1
            have x2 := (blk_cell X44 2).trans rfl
            have y2 := blk_free X44 2
            have x3 := (blk_cell X44 3).trans rfl
            have y3 := blk_free X44 3
            have x4 := (blk_cell X44 4).trans rfl
            have y4 := blk_free X44 4
            have x5 := (blk_cell X44 5).trans rfl
            have y5 := blk_free X44 5
            have x6 := (blk_cell X44 6).trans rfl
            have y6 := blk_free X44 6
            have x7 := (blk_cell X44 7).trans rfl
            have y7 := blk_free X44 7
            have x8 := (blk_cell X44 8).trans rfl
            have y8 := blk_free X44 8
            refine mix_loud (i := 18) (by kernel_rfl) rfl (fun K hK => ?_)
            go_simp
            obtain ⟨w45, hw45, Y45, S45⟩ := set9 X44 rfl (.int .i64 v0) (.int .i64 v1) (.int .i64 v2) (.int .i64 v3) (.int .i64 v4) (.int .i64 v5) (.int .i64 v6) (.int .i64 v7) (.slice none 0 0)
            rw [← hw45]
            clear hw45
            refine hK.out _ _ (lat_mem (E44.trans S45 (fun j hj e => by omega))) ?_
            clear hK x0 x1 x2 x3 x4 x5 x6 x7 x8 y0 y1 y2 y3 y4 y5 y6 y7 y8
            refine wpAnyH_done (by kernel_rfl) (NoPanic.normal ?_) _
            go_wp2_with fail
            go_meet
            exact ⟨_, rfl, h44.keepX S45 hXw hXq hXF hXR, Y45, hXq, hXF, hXR, hXw⟩
        · go_simp
          obtain ⟨w46, hw46⟩ : ∃ v, v = w12.alloc (.cells #[.int .i64 0, .int .i64 0, .int .i64 0, .int .i64 0, .int .i64 0, .int .i64 0, .int .i64 0, .int .i64 0, .slice none 0 0] 25) := ⟨_, rfl⟩
          have X46 : w46.heap[w12.heap.size]? = some (.cells #[.int .i64 0, .int .i64 0, .int .i64 0, .int .i64 0, .int .i64 0, .int .i64 0, .int .i64 0, .int .i64 0, .slice none 0 0] 25) := by rw [hw46]; exact blk_new _ _
          have A46 : New w12 w46 := by rw [hw46]; exact New.alloc1 _ _
          have hXq : w12.heap.size ≠ q := fun e => by have := h12.qlt; omega
          rw [← hw46]
          have hXs : w5.heap.size ≤ w12.heap.size := E12.size
          have hXw : w.heap.size ≤ w12.heap.size := by have := h12.n.size; omega
          have hXF : w12.heap.size ≠ F := fun e => by have := h12.flt; omega
          have hXR : w12.heap.size ≠ R := fun e => by have := h12.rlt; omega
          clear hw46
          have h46 := h12.new A46
          have E46 := E12.trans A46.to (fun _ _ h => h)
          have hX46l : w12.heap.size < w46.heap.size := blk_lt X46
          refine hK.out _ _ (lat_mem E46) ?_
          clear hK
          refine mix_loud (i := 5) (by kernel_rfl) rfl (fun K hK => ?_)
          go_simp
          refine (int_at h46.rd hB h5.qA 1 1 rfl (by omega) (by omega) (by omega) 6 rfl v2 HV2.out).mono ?_
          rintro e w47 ⟨rfl, rd47, he47⟩
          have h47 := h46.step rd47 he47
          have E47 := E46.trans he47 (fun _ _ h => h)
          have X47 := he47.keep X46 hXq
          refine hK.out _ _ (lat_mem E47) ?_
          clear hK
          refine mix_loud (i := 7) (by kernel_rfl) rfl (fun K hK => ?_)
          go_simp
          refine (int_at h47.rd hB h5.qA 1 1 rfl (by omega) (by omega) (by omega) 7 rfl v3 HV3.out).mono ?_
          rintro e w48 ⟨rfl, rd48, he48⟩
          have h48 := h47.step rd48 he48
          have E48 := E47.trans he48 (fun _ _ h => h)
          have X48 := he48.keep X47 hXq
          refine hK.out _ _ (lat_mem E48) ?_
          clear hK
          refine mix_loud (i := 9) (by kernel_rfl) rfl (fun K hK => ?_)
          go_simp
          refine (int_at h48.rd hB h5.qA 1 1 rfl (by omega) (by omega) (by omega) 8 rfl v4 HV4.out).mono ?_
          rintro e w49 ⟨rfl, rd49, he49⟩
          have h49 := h48.step rd49 he49
          have E49 := E48.trans he49 (fun _ _ h => h)
          have X49 := he49.keep X48 hXq
          refine hK.out _ _ (lat_mem E49) ?_
          clear hK
          refine mix_loud (i := 11) (by kernel_rfl) rfl (fun K hK => ?_)
          go_simp
          refine (int_at h49.rd hB h5.qA 4 4 rfl (by omega) (by omega) (by omega) 12 rfl v5 HV5.out).mono ?_
          rintro e w50 ⟨rfl, rd50, he50⟩
          have h50 := h49.step rd50 he50
          have E50 := E49.trans he50 (fun _ _ h => h)
          have X50 := he50.keep X49 hXq
          refine hK.out _ _ (lat_mem E50) ?_
          clear hK
          refine mix_loud (i := 13) (by kernel_rfl) rfl (fun K hK => ?_)
          go_simp
          refine (int_at h50.rd hB h5.qA 8 8 rfl (by omega) (by omega) (by omega) 20 rfl v6 HV6.out).mono ?_
          rintro e w51 ⟨rfl, rd51, he51⟩
          have h51 := h50.step rd51 he51
          have E51 := E50.trans he51 (fun _ _ h => h)
          have X51 := he51.keep X50 hXq
          refine hK.out _ _ (lat_mem E51) ?_
          clear hK
          refine mix_loud (i := 15) (by kernel_rfl) rfl (fun K hK => ?_)
          go_simp
          refine (int_at h51.rd hB h5.qA 8 8 rfl (by omega) (by omega) (by omega) 28 rfl v7 HV7.out).mono ?_
          rintro e w52 ⟨rfl, rd52, he52⟩
          have h52 := h51.step rd52 he52
          have E52 := E51.trans he52 (fun _ _ h => h)
          have X52 := he52.keep X51 hXq
          refine hK.out _ _ (lat_mem E52) ?_
          clear hK
          refine mix_batch [16] (by kernel_rfl) 1 _ _ _ (by kernel_rfl) (lat_mem (by (repeat (first | exact Ext.refl _ _ | assumption | apply Ext.alloc | apply Ext.drewN | apply Ext.drew | refine Ext.setCell ?_ (fun h => by first | rfl | exact absurd h (by dsimp only; omega)) _)))) ?_
          simp only [pickOps, List.getD_cons_zero, List.getD_cons_succ]
          repeat (go_big_quiet_step (fail))
          refine wpQuiet_nil ?_
          have x0 := (blk_cell X52 0).trans rfl
          have y0 := blk_free X52 0
          have x1 := (blk_cell X52 1).trans rfl
          have y1 := blk_free X52 1
          have x2 := (blk_cell X52 2).trans rfl
          have y2 := blk_free X52 2
          have x3 := (blk_cell X52 3).trans rfl
          have y3 := blk_free X52 3
          have x4 := (blk_cell X52 4).trans rfl
          have y4 := blk_free X52 4
          have x5 := (blk_cell X52 5).trans rfl
          have y5 := blk_free X52 5
          have x6 := (blk_cell X52 6).trans rfl
          have y6 := blk_free X52 6
          have x7 := (blk_cell X52 7).trans rfl
          have y7 := blk_free X52 7
          have x8 := (blk_cell X52 8).trans rfl
          have y8 := blk_free X52 8
          refine mix_loud (i := 18) (by kernel_rfl) rfl (fun K hK => ?_)
          go_simp
          obtain ⟨w53, hw53, Y53, S53⟩ := set9 X52 rfl (.int .i64 v0) (.int .i64 v1) (.int .i64 v2) (.int .i64 v3) (.int .i64 v4) (.int .i64 v5) (.int .i64 v6) (.int .i64 v7) (.slice none 0 0)
          rw [← hw53]
          clear hw53
          refine hK.out _ _ (lat_mem (E52.trans S53 (fun j hj e => by omega))) ?_
          clear hK x0 x1 x2 x3 x4 x5 x6 x7 x8 y0 y1 y2 y3 y4 y5 y6 y7 y8
          refine wpAnyH_done (by kernel_rfl) (NoPanic.normal ?_) _
          go_wp2_with fail
          go_meet
          exact ⟨_, rfl, h52.keepX S53 hXw hXq hXF hXR, Y53, hXq, hXF, hXR, hXw⟩
      · go_simp
        obtain ⟨w54, hw54⟩ : ∃ v, v = w11.alloc (.cells #[.int .i64 0, .int .i64 0, .int .i64 0, .int .i64 0, .int .i64 0, .int .i64 0, .int .i64 0, .int .i64 0, .slice none 0 0] 25) := ⟨_, rfl⟩
        have X54 : w54.heap[w11.heap.size]? = some (.cells #[.int .i64 0, .int .i64 0, .int .i64 0, .int .i64 0, .int .i64 0, .int .i64 0, .int .i64 0, .int .i64 0, .slice none 0 0] 25) := by rw [hw54]; exact blk_new _ _
        have A54 : New w11 w54 := by rw [hw54]; exact New.alloc1 _ _
        have hXq : w11.heap.size ≠ q := fun e => by have := h11.qlt; omega
        rw [← hw54]
        have hXs : w5.heap.size ≤ w11.heap.size := E11.size
        have hXw : w.heap.size ≤ w11.heap.size := by have := h11.n.size; omega
        have hXF : w11.heap.size ≠ F := fun e => by have := h11.flt; omega
        have hXR : w11.heap.size ≠ R := fun e => by have := h11.rlt; omega
        clear hw54
        have h54 := h11.new A54
        have E54 := E11.trans A54.to (fun _ _ h => h)
        have hX54l : w11.heap.size < w54.heap.size := blk_lt X54
        refine hK.out _ _ (lat_mem E54) ?_
        clear hK
        refine mix_loud (i := 3) (by kernel_rfl) rfl (fun K hK => ?_)
        go_simp
        refine (int_at h54.rd hB h5.qA 1 1 rfl (by omega) (by omega) (by omega) 5 rfl v1 HV1.out).mono ?_
        rintro e w55 ⟨rfl, rd55, he55⟩
        have h55 := h54.step rd55 he55
        have E55 := E54.trans he55 (fun _ _ h => h)
        have X55 := he55.keep X54 hXq
        refine hK.out _ _ (lat_mem E55) ?_
        clear hK
        refine mix_loud (i := 5) (by kernel_rfl) rfl (fun K hK => ?_)
        go_simp
        refine (int_at h55.rd hB h5.qA 1 1 rfl (by omega) (by omega) (by omega) 6 rfl v2 HV2.out).mono ?_
        rintro e w56 ⟨rfl, rd56, he56⟩
        have h56 := h55.step rd56 he56
        have E56 := E55.trans he56 (fun _ _ h => h)
        have X56 := he56.keep X55 hXq
        refine hK.out _ _ (lat_mem E56) ?_
        clear hK
        refine mix_loud (i := 7) (by kernel_rfl) rfl (fun K hK => ?_)
        go_simp
        refine (int_at h56.rd hB h5.qA 1 1 rfl (by omega) (by omega) (by omega) 7 rfl v3 HV3.out).mono ?_
        rintro e w57 ⟨rfl, rd57, he57⟩
        have h57 := h56.step rd57 he57
        have E57 := E56.trans he57 (fun _ _ h => h)
        have X57 := he57.keep X56 hXq
        refine hK.out _ _ (lat_mem E57) ?_
        clear hK
        refine mix_loud (i := 9) (by kernel_rfl) rfl (fun K hK => ?_)
        go_simp
        refine (int_at h57.rd hB h5.qA 1 1 rfl (by omega) (by omega) (by omega) 8 rfl v4 HV4.out).mono ?_
        rintro e w58 ⟨rfl, rd58, he58⟩
        have h58 := h57.step rd58 he58
        have E58 := E57.trans he58 (fun _ _ h => h)
        have X58 := he58.keep X57 hXq
        refine hK.out _ _ (lat_mem E58) ?_
        clear hK
        refine mix_loud (i := 11) (by kernel_rfl) rfl (fun K hK => ?_)
        go_simp
        refine (int_at h58.rd hB h5.qA 4 4 rfl (by omega) (by omega) (by omega) 12 rfl v5 HV5.out).mono ?_
        rintro e w59 ⟨rfl, rd59, he59⟩
        have h59 := h58.step rd59 he59
        have E59 := E58.trans he59 (fun _ _ h => h)
        have X59 := he59.keep X58 hXq
        refine hK.out _ _ (lat_mem E59) ?_
        clear hK
        refine mix_loud (i := 13) (by kernel_rfl) rfl (fun K hK => ?_)
        go_simp
        refine (int_at h59.rd hB h5.qA 8 8 rfl (by omega) (by omega) (by omega) 20 rfl v6 HV6.out).mono ?_
        rintro e w60 ⟨rfl, rd60, he60⟩
        have h60 := h59.step rd60 he60
        have E60 := E59.trans he60 (fun _ _ h => h)
        have X60 := he60.keep X59 hXq
        refine hK.out _ _ (lat_mem E60) ?_
        clear hK
        refine mix_loud (i := 15) (by kernel_rfl) rfl (fun K hK => ?_)
        go_simp
        refine (int_at h60.rd hB h5.qA 8 8 rfl (by omega) (by omega) (by omega) 28 rfl v7 HV7.out).mono ?_
        rintro e w61 ⟨rfl, rd61, he61⟩
        have h61 := h60.step rd61 he61
        have E61 := E60.trans he61 (fun _ _ h => h)
        have X61 := he61.keep X60 hXq
        refine hK.out _ _ (lat_mem E61) ?_
        clear hK
        refine mix_batch [16] (by kernel_rfl) 1 _ _ _ (by kernel_rfl) (lat_mem (by (repeat (first | exact Ext.refl _ _ | assumption | apply Ext.alloc | apply Ext.drewN | apply Ext.drew | refine Ext.setCell ?_ (fun h => by first | rfl | exact absurd h (by dsimp only; omega)) _)))) ?_
        simp only [pickOps, List.getD_cons_zero, List.getD_cons_succ]
        repeat (go_big_quiet_step (fail))
        refine wpQuiet_nil ?_
        have x0 := (blk_cell X61 0).trans rfl
        have y0 := blk_free X61 0
        have x1 := (blk_cell X61 1).trans rfl
        have y1 := blk_free X61 1
        have x2 := (blk_cell X61 2).trans rfl
        have y2 := blk_free X61 2
        have x3 := (blk_cell X61 3).trans rfl
        have y3 := blk_free X61 3
        have x4 := (blk_cell X61 4).trans rfl
        have y4 := blk_free X61 4
        have x5 := (blk_cell X61 5).trans rfl
        have y5 := blk_free X61 5
        have x6 := (blk_cell X61 6).trans rfl
        have y6 := blk_free X61 6
        have x7 := (blk_cell X61 7).trans rfl
        have y7 := blk_free X61 7
        have x8 := (blk_cell X61 8).trans rfl
        have y8 := blk_free X61 8
        refine mix_loud (i := 18) (by kernel_rfl) rfl (fun K hK => ?_)
        go_simp
        obtain ⟨w62, hw62, Y62, S62⟩ := set9 X61 rfl (.int .i64 v0) (.int .i64 v1) (.int .i64 v2) (.int .i64 v3) (.int .i64 v4) (.int .i64 v5) (.int .i64 v6) (.int .i64 v7) (.slice none 0 0)
        rw [← hw62]
        clear hw62
        refine hK.out _ _ (lat_mem (E61.trans S62 (fun j hj e => by omega))) ?_
        clear hK x0 x1 x2 x3 x4 x5 x6 x7 x8 y0 y1 y2 y3 y4 y5 y6 y7 y8
        refine wpAnyH_done (by kernel_rfl) (NoPanic.normal ?_) _
        go_wp2_with fail
        go_meet
        exact ⟨_, rfl, h61.keepX S62 hXw hXq hXF hXR, Y62, hXq, hXF, hXR, hXw⟩
    · go_simp
      obtain ⟨w63, hw63⟩ : ∃ v, v = w6.alloc (.cells #[.int .i64 0, .int .i64 0, .int .i64 0, .int .i64 0, .int .i64 0, .int .i64 0, .int .i64 0, .int .i64 0, .slice none 0 0] 25) := ⟨_, rfl⟩
      have X63 : w63.heap[w6.heap.size]? = some (.cells #[.int .i64 0, .int .i64 0, .int .i64 0, .int .i64 0, .int .i64 0, .int .i64 0, .int .i64 0, .int .i64 0, .slice none 0 0] 25) := by rw [hw63]; exact blk_new _ _
      have A63 : New w6 w63 := by rw [hw63]; exact New.alloc1 _ _
      have hXq : w6.heap.size ≠ q := fun e => by have := h6.qlt; omega
      rw [← hw63]
      have hXs : w5.heap.size ≤ w6.heap.size := E6.size
      have hXw : w.heap.size ≤ w6.heap.size := by have := h6.n.size; omega
      have hXF : w6.heap.size ≠ F := fun e => by have := h6.flt; omega
      have hXR : w6.heap.size ≠ R := fun e => by have := h6.rlt; omega
      clear hw63
      have h63 := h6.new A63
      have E63 := E6.trans A63.to (fun _ _ h => h)
      have hX63l : w6.heap.size < w63.heap.size := blk_lt X63
      refine hK.out _ _ (lat_mem E63) ?_
      clear hK
      refine mix_loud (i := 1) (by kernel_rfl) rfl (fun K hK => ?_)
      go_simp
      refine (int_at h63.rd hB h5.qA 1 1 rfl (by omega) (by omega) (by omega) 4 rfl v0 HV0.out).mono ?_
      rintro e w64 ⟨rfl, rd64, he64⟩
      have h64 := h63.step rd64 he64
      have E64 := E63.trans he64 (fun _ _ h => h)
      have X64 := he64.keep X63 hXq
      refine hK.out _ _ (lat_mem E64) ?_
      clear hK
      refine mix_loud (i := 3) (by kernel_rfl) rfl (fun K hK => ?_)
      go_simp
      refine (int_at h64.rd hB h5.qA 1 1 rfl (by omega) (by omega) (by omega) 5 rfl v1 HV1.out).mono ?_
      rintro e w65 ⟨rfl, rd65, he65⟩
      have h65 := h64.step rd65 he65
      have E65 := E64.trans he65 (fun _ _ h => h)
      have X65 := he65.keep X64 hXq
      refine hK.out _ _ (lat_mem E65) ?_
      clear hK
      refine mix_loud (i := 5) (by kernel_rfl) rfl (fun K hK => ?_)
      go_simp
      refine (int_at h65.rd hB h5.qA 1 1 rfl (by omega) (by omega) (by omega) 6 rfl v2 HV2.out).mono ?_
      rintro e w66 ⟨rfl, rd66, he66⟩
      have h66 := h65.step rd66 he66
      have E66 := E65.trans he66 (fun _ _ h => h)
      have X66 := he66.keep X65 hXq
      refine hK.out _ _ (lat_mem E66) ?_
      clear hK
      refine mix_loud (i := 7) (by kernel_rfl) rfl (fun K hK => ?_)
      go_simp
      refine (int_at h66.rd hB h5.qA 1 1 rfl (by omega) (by omega) (by omega) 7 rfl v3 HV3.out).mono ?_
      rintro e w67 ⟨rfl, rd67, he67⟩
      have h67 := h66.step rd67 he67
      have E67 := E66.trans he67 (fun _ _ h => h)
      have X67 := he67.keep X66 hXq
      refine hK.out _ _ (lat_mem E67) ?_
      clear hK
      refine mix_loud (i := 9) (by kernel_rfl) rfl (fun K hK => ?_)
      go_simp
      refine (int_at h67.rd hB h5.qA 1 1 rfl (by omega) (by omega) (by omega) 8 rfl v4 HV4.out).mono ?_
      rintro e w68 ⟨rfl, rd68, he68⟩
      have h68 := h67.step rd68 he68
      have E68 := E67.trans he68 (fun _ _ h => h)
      have X68 := he68.keep X67 hXq
      refine hK.out _ _ (lat_mem E68) ?_
      clear hK
      refine mix_loud (i := 11) (by kernel_rfl) rfl (fun K hK => ?_)
      go_simp
      refine (int_at h68.rd hB h5.qA 4 4 rfl (by omega) (by omega) (by omega) 12 rfl v5 HV5.out).mono ?_
      rintro e w69 ⟨rfl, rd69, he69⟩
      have h69 := h68.step rd69 he69
      have E69 := E68.trans he69 (fun _ _ h => h)
      have X69 := he69.keep X68 hXq
      refine hK.out _ _ (lat_mem E69) ?_
      clear hK
      refine mix_loud (i := 13) (by kernel_rfl) rfl (fun K hK => ?_)
      go_simp
      refine (int_at h69.rd hB h5.qA 8 8 rfl (by omega) (by omega) (by omega) 20 rfl v6 HV6.out).mono ?_
      rintro e w70 ⟨rfl, rd70, he70⟩
      have h70 := h69.step rd70 he70
      have E70 := E69.trans he70 (fun _ _ h => h)
      have X70 := he70.keep X69 hXq
      refine hK.out _ _ (lat_mem E70) ?_
      clear hK
      refine mix_loud (i := 15) (by kernel_rfl) rfl (fun K hK => ?_)
      go_simp
      refine (int_at h70.rd hB h5.qA 8 8 rfl (by omega) (by omega) (by omega) 28 rfl v7 HV7.out).mono ?_
      rintro e w71 ⟨rfl, rd71, he71⟩
      have h71 := h70.step rd71 he71
      have E71 := E70.trans he71 (fun _ _ h => h)
      have X71 := he71.keep X70 hXq
      refine hK.out _ _ (lat_mem E71) ?_
      clear hK
      refine mix_batch [16] (by kernel_rfl) 1 _ _ _ (by kernel_rfl) (lat_mem (by (repeat (first | exact Ext.refl _ _ | assumption | apply Ext.alloc | apply Ext.drewN | apply Ext.drew | refine Ext.setCell ?_ (fun h => by first | rfl | exact absurd h (by dsimp only; omega)) _)))) ?_
      simp only [pickOps, List.getD_cons_zero, List.getD_cons_succ]
      repeat (go_big_quiet_step (fail))
      refine wpQuiet_nil ?_
      have x0 := (blk_cell X71 0).trans rfl
      have y0 := blk_free X71 0
      have x1 := (blk_cell X71 1).trans rfl
      have y1 := blk_free X71 1
      have x2 := (blk_cell X71 2).trans rfl
      have y2 := blk_free X71 2
      have x3 := (blk_cell X71 3).trans rfl
      have y3 := blk_free X71 3
      have x4 := (blk_cell X71 4).trans rfl
      have y4 := blk_free X71 4
      have x5 := (blk_cell X71 5).trans rfl
      have y5 := blk_free X71 5
      have x6 := (blk_cell X71 6).trans rfl
      have y6 := blk_free X71 6
      have x7 := (blk_cell X71 7).trans rfl
      have y7 := blk_free X71 7
      have x8 := (blk_cell X71 8).trans rfl
      have y8 := blk_free X71 8
      refine mix_loud (i := 18) (by kernel_rfl) rfl (fun K hK => ?_)
      go_simp
      obtain ⟨w72, hw72, Y72, S72⟩ := set9 X71 rfl (.int .i64 v0) (.int .i64 v1) (.int .i64 v2) (.int .i64 v3) (.int .i64 v4) (.int .i64 v5) (.int .i64 v6) (.int .i64 v7) (.slice none 0 0)
      rw [← hw72]
      clear hw72
      refine hK.out _ _ (lat_mem (E71.trans S72 (fun j hj e => by omega))) ?_
      clear hK x0 x1 x2 x3 x4 x5 x6 x7 x8 y0 y1 y2 y3 y4 y5 y6 y7 y8
      refine wpAnyH_done (by kernel_rfl) (NoPanic.normal ?_) _
      go_wp2_with fail
      go_meet
      exact ⟨_, rfl, h71.keepX S72 hXw hXq hXF hXR, Y72, hXq, hXF, hXR, hXw⟩
  case rest =>
    obtain ⟨X, rfl, h7, hX7, hXq, hXF, hXR, hXw⟩ := hcut
    have cf := h7.cf
    go_wp2_with fail
    obtain ⟨v8, hv8⟩ : ∃ v, v = nmAt l 28 2 := ⟨_, rfl⟩
    have t8 : toI (nmAt l 28 2) = v8 := by rw [hv8]; exact toI_same (nmAt_b hB _ _ (by omega)).1 (nmAt_b hB _ _ (by omega)).2
    have H8 := hide hv8
    have T8 := hide t8
    clear hv8 t8
    refine (int_at h7.rd hB h7.qA 2 2 rfl (by omega) (by omega) (by omega) 30 rfl v8 T8.out).mono ?_
    rintro e w8 ⟨rfl, rd8, he8⟩
    have h8 := h7.step rd8 he8
    have hX8 := he8.keep hX7 hXq
    clear rd8 cf
    by_cases g8 : v8 = (N : Int)
    rotate_left
    · have b8 : (v8 != (n : Int) - 36) = true := by simp; omega
      have HE : Hid (dcE l = 30) := hide (by unfold dcE; rw [if_neg (by have := HL.out; omega), if_pos (by rw [← H8.out]; have := HL.out; omega)])
      clear g8
      have r0 := (blk_cell h8.r 0).trans rfl
      have f0 := blk_free h8.r 0
      have r1 := (blk_cell h8.r 1).trans rfl
      have f1 := blk_free h8.r 1
      have r2 := (blk_cell h8.r 2).trans rfl
      have f2 := blk_free h8.r 2
      have r3 := (blk_cell h8.r 3).trans rfl
      have f3 := blk_free h8.r 3
      have r4 := (blk_cell h8.r 4).trans rfl
      have f4 := blk_free h8.r 4
      have r5 := (blk_cell h8.r 5).trans rfl
      have f5 := blk_free h8.r 5
      have r6 := (blk_cell h8.r 6).trans rfl
      have f6 := blk_free h8.r 6
      have r7 := (blk_cell h8.r 7).trans rfl
      have f7 := blk_free h8.r 7
      have r8 := (blk_cell h8.r 8).trans rfl
      have f8 := blk_free h8.r 8
      go_wp2_with fail
      obtain ⟨wz, hwz, Yz, Sz⟩ := set9 h8.r rfl (.int .i64 0) (.int .i64 0) (.int .i64 0) (.int .i64 0) (.int .i64 0) (.int .i64 0) (.int .i64 0) (.int .i64 0) (.slice none 0 0)
      rw [← hwz]
      clear hwz r0 f0 r1 f1 r2 f2 r3 f3 r4 f4 r5 f5 r6 f6 r7 f7 r8 f8
      have g0 := (blk_cell Yz 0).trans rfl
      have g1 := (blk_cell Yz 1).trans rfl
      have g2 := (blk_cell Yz 2).trans rfl
      have g3 := (blk_cell Yz 3).trans rfl
      have g4 := (blk_cell Yz 4).trans rfl
      have g5 := (blk_cell Yz 5).trans rfl
      have g6 := (blk_cell Yz 6).trans rfl
      have g7 := (blk_cell Yz 7).trans rfl
      have g8 := (blk_cell Yz 8).trans rfl
      refine bodyPost_ret (v := .tuple #[.agg #[.int .i64 0, .int .i64 0, .int .i64 0, .int .i64 0, .int .i64 0, .int .i64 0, .int .i64 0, .int .i64 0, .slice none 0 0], .int .i64 30]) (by simp [results, Try.results10, go_sem, g0, g1, g2, g3, g4, g5, g6, g7, g8]) rfl (DecR.no 30 HE.out (by omega) (h8.n.trans Sz (fun j hj e => by omega)))
    subst g8
    have b8 : ((N : Int) != (n : Int) - 36) = false := by simp; omega
    have cf := h8.cf
    go_wp2_with fail
    refine (int_at h8.rd hB h8.qA 2 2 rfl (by omega) (by omega) (by omega) 32 rfl _ rfl).mono ?_
    rintro e w9 ⟨rfl, rd9, he9⟩
    have h9 := h8.step rd9 he9
    have hX9 := he9.keep hX8 hXq
    clear rd9 cf
    have cf := h9.cf
    go_wp2_with fail
    refine (num_at h9.rd hB h9.qA 4 4 rfl (by omega) (by omega) (by omega) 36 rfl).mono ?_
    rintro e w10 ⟨rfl, rd10, he10⟩
    have h10 := h9.step rd10 he10
    have hX10 := he10.keep hX9 hXq
    clear rd10 cf
    obtain ⟨v9, hv9⟩ : ∃ v, v = nmAt l 32 4 := ⟨_, rfl⟩
    rw [← hv9]
    have hv9b := nmAt_b hB 32 4 (by omega)
    rw [← hv9] at hv9b
    obtain ⟨hv90, hv91⟩ := hv9b
    have H9 := hide hv9
    clear hv9
    go_wp2_with fail
    refine mix_start (fun _ => False) w10 (by kernel_rfl) ?_
    refine mix_batch [0, 1, 2, 3, 4] (by kernel_rfl) 4 _ _ _ (by kernel_rfl) (lat_mem (by (repeat (first | exact Ext.refl _ _ | assumption | apply Ext.alloc | apply Ext.drewN | apply Ext.drew | refine Ext.setCell ?_ (fun h => by first | rfl | exact absurd h (by dsimp only; omega)) _)))) ?_
    simp only [pickOps, List.getD_cons_zero, List.getD_cons_succ]
    repeat (go_big_quiet_step (fail))
    refine wpQuiet_nil ?_
    refine mix_loud (i := 5) (by kernel_rfl) rfl (fun K hK => ?_)
    go_simp
    refine hK.out _ _ (lat_mem (by (repeat (first | exact Ext.refl _ _ | assumption | apply Ext.alloc | apply Ext.drewN | apply Ext.drew | refine Ext.setCell ?_ (fun h => by first | rfl | exact absurd h (by dsimp only; omega)) _)))) ?_
    clear hK
    have hx11 := rd_lit w10.drew 23 1 2 #[.slice A 32 c, .slice (sl A c 36 1) N (c - 36)] (by omega) rfl (by simp [Value.oneCell'])
    have hn11 : New w10 (w10.drew.alloc (.cells #[.slice A 32 c, .slice (sl A c 36 1) N (c - 36)] 23)) := by (repeat (first | exact Ext.refl _ _ | assumption | apply Ext.alloc | apply Ext.drewN | apply Ext.drew | refine Ext.setCell ?_ (fun h => by first | rfl | exact absurd h (by dsimp only; omega)) _))
    refine mix_loud (i := 6) (by kernel_rfl) rfl (fun K hK => ?_)
    go_simp
    refine (adler_two _ A (sl A c 36 1) 32 c N (c - 36) (l.take 32) (l.drop 36) _ hx11 (rd1.new (h10.n.then hn11)) (rd2.new (h10.n.then hn11)) (fun x hx => hB x (List.mem_of_mem_take hx)) (fun x hx => hB x (List.mem_of_mem_drop hx))).mono ?_
    rintro e w12 ⟨rfl, hn12⟩
    have hN12 := hn11.then hn12
    refine hK.out _ _ (lat_mem hN12) (mix_next hN12 (fun _ _ h => h) ?_)
    clear hK
    obtain ⟨v10, hv10⟩ : ∃ v, v = ad2 (l.take 32) (l.drop 36) := ⟨_, rfl⟩
    obtain ⟨ha0, ha1⟩ := ad2_b (l.take 32) (l.drop 36)
    rw [← hv10] at ha0 ha1 ⊢
    have H10 := hide hv10
    clear hv10
    have h12 := h10.new hN12
    have hX12 := hN12.keep hX10
    by_cases g9 : v9 = v10
    rotate_left
    · have b9 : (v9 != v10) = true := by simpa using g9
      have HE : Hid (dcE l = 31) := hide (by
        have hm := M0.out; have hm1 := M1.out; have hm2 := M2.out; have h8' := H8.out; have hL := HL.out
        unfold dcE
        rw [if_neg (by omega), if_neg (by omega), if_pos (by rw [← H9.out, ← H10.out]; exact g9)])
      refine mix_batch [7, 8] (by kernel_rfl) 0 _ _ _ (by kernel_rfl) (lat_mem (by (repeat (first | exact Ext.refl _ _ | assumption | apply Ext.alloc | apply Ext.drewN | apply Ext.drew | refine Ext.setCell ?_ (fun h => by first | rfl | exact absurd h (by dsimp only; omega)) _)))) ?_
      simp only [pickOps, List.getD_cons_zero, List.getD_cons_succ]
      repeat (go_big_quiet_step (fail))
      refine wpQuiet_nil ?_
      refine wpAnyH_done (by kernel_rfl) (NoPanic.normal ?_) _
      clear g9
      have r0 := (blk_cell h12.r 0).trans rfl
      have f0 := blk_free h12.r 0
      have r1 := (blk_cell h12.r 1).trans rfl
      have f1 := blk_free h12.r 1
      have r2 := (blk_cell h12.r 2).trans rfl
      have f2 := blk_free h12.r 2
      have r3 := (blk_cell h12.r 3).trans rfl
      have f3 := blk_free h12.r 3
      have r4 := (blk_cell h12.r 4).trans rfl
      have f4 := blk_free h12.r 4
      have r5 := (blk_cell h12.r 5).trans rfl
      have f5 := blk_free h12.r 5
      have r6 := (blk_cell h12.r 6).trans rfl
      have f6 := blk_free h12.r 6
      have r7 := (blk_cell h12.r 7).trans rfl
      have f7 := blk_free h12.r 7
      have r8 := (blk_cell h12.r 8).trans rfl
      have f8 := blk_free h12.r 8
      go_wp2_with fail
      obtain ⟨wz, hwz, Yz, Sz⟩ := set9 h12.r rfl (.int .i64 0) (.int .i64 0) (.int .i64 0) (.int .i64 0) (.int .i64 0) (.int .i64 0) (.int .i64 0) (.int .i64 0) (.slice none 0 0)
      rw [← hwz]
      clear hwz r0 f0 r1 f1 r2 f2 r3 f3 r4 f4 r5 f5 r6 f6 r7 f7 r8 f8
      have g0 := (blk_cell Yz 0).trans rfl
      have g1 := (blk_cell Yz 1).trans rfl
      have g2 := (blk_cell Yz 2).trans rfl
      have g3 := (blk_cell Yz 3).trans rfl
      have g4 := (blk_cell Yz 4).trans rfl
      have g5 := (blk_cell Yz 5).trans rfl
      have g6 := (blk_cell Yz 6).trans rfl
      have g7 := (blk_cell Yz 7).trans rfl
      have g8 := (blk_cell Yz 8).trans rfl
      refine bodyPost_ret (v := .tuple #[.agg #[.int .i64 0, .int .i64 0, .int .i64 0, .int .i64 0, .int .i64 0, .int .i64 0, .int .i64 0, .int .i64 0, .slice none 0 0], .int .i64 31]) (by simp [results, Try.results10, go_sem, g0, g1, g2, g3, g4, g5, g6, g7, g8]) rfl (DecR.no 31 HE.out (by omega) (h12.n.trans Sz (fun j hj e => by omega)))
    have b9 : (v9 != v10) = false := by simpa using g9
    have HNM : Hid (¬ (nmAt l 0 1 ≠ 78 ∨ nmAt l 1 1 ≠ 90 ∨ nmAt l 2 1 ≠ 1 ∨ nmAt l 28 2 ≠ (l.length : Int) - 36)) := hide (by
      have hm := M0.out; have hm1 := M1.out; have hm2 := M2.out; have h8' := H8.out; have hL := HL.out
      omega)
    have HSM : Hid (nmAt l 32 4 = ad2 (l.take 32) (l.drop 36)) := hide (by rw [← H9.out, ← H10.out]; exact g9)
    refine mix_batch [7, 8] (by kernel_rfl) 0 _ _ _ (by kernel_rfl) (lat_mem (by (repeat (first | exact Ext.refl _ _ | assumption | apply Ext.alloc | apply Ext.drewN | apply Ext.drew | refine Ext.setCell ?_ (fun h => by first | rfl | exact absurd h (by dsimp only; omega)) _)))) ?_
    simp only [pickOps, List.getD_cons_zero, List.getD_cons_succ]
    repeat (go_big_quiet_step (fail))
    refine wpQuiet_nil ?_
    refine wpAnyH_done (by kernel_rfl) (NoPanic.normal ?_) _
    clear b9 g9
    go_upto_if 72 with (fail)
    go_cut [] (fun wc => ∃ A' c', DecP w wc q F R A n l X v0 v1 v2 v3 v4 v5 v6 v7 A' N c')
    case first =>
      have hcf12 := h12.cf
      by_cases hN0 : N = 0
      · have e0 : decide (0 < (N : Int)) = false := decide_eq_false (by omega)
        have e0n : decide (0 < N) = false := decide_eq_false (by omega)
        have hN0' : N ≤ 0 := by omega
        clear hN0
        go_wp2_with fail
        go_meet
        have hN0 : N = 0 := by omega
        have hnil : l.drop 36 = [] := List.drop_eq_nil_of_le (by have := HL.out; omega)
        refine ⟨none, 0, ?_⟩
        unfold DecP
        rw [hN0]
        exact ⟨hX12, by rw [hnil]; exact Rd.nil _ _, h12.r, h12.n, hXR, hXw, fun j hj => absurd hj (inA_none j)⟩
      · have e0 : decide (0 < (N : Int)) = true := decide_eq_true (by omega)
        have e0n : decide (0 < N) = true := decide_eq_true (by omega)
        obtain ⟨B, cB, hrB, hdB, hiB, _⟩ := h12.rd
        go_wp2_with fail
        refine (take_yes q B (n - 36) cB _ N _ hrB hdB (by omega) (by omega)).mono ?_
        rintro e w13 ⟨A', c', rfl, ho13, _, he13⟩
        rw [List.take_of_length_le (by have := hdB.len; omega)] at ho13
        have hX13 := he13.keep hX12 hXq
        have hR13 := he13.keep h12.r h12.qR
        have N13 : New w w13 := h12.n.trans he13 (fun j hj e => by have := h12.qlo; omega)
        have x8 := (blk_cell hX13 8).trans rfl
        have y8 := blk_free hX13 8
        have hlX := blk_lt hX12
        have hlR := h12.rlt
        go_wp2_with fail
        go_meet
        have e14 : Ext (fun j => j = X) w13 (w13.setCell ⟨X, 8, none⟩ (.slice A' N c')) := (Ext.refl _ _).set (by rfl)
        have hA' : ∀ j, inA A' j → w12.heap.size ≤ j := fun j hj => (ho13.at_ hj).1
        exact ⟨A', c', blk_set hX13 8 _, ho13.rd.keep e14 (fun j hj e => by have := hA' j hj; omega), e14.keep hR13 (fun e => hXR e.symm), N13.trans e14 (fun j hj e => by omega), hXR, hXw, fun j hj => by have := hA' j hj; omega⟩
    case rest =>
      clear h12 hX12 h10 hX10 h9 hX9 h8 hX8 h7 hX7 h5 hb ha h3
      obtain ⟨A', c', hX, hrd, hR, hnw, hXR', hXw', hA'⟩ := hcut
      have hdP : Hid (dcP l = ⟨v0, v1, v2, v3, v4, v5, v6, v7, l.drop 36⟩) := hide (by
        unfold dcP
        rw [← HV0.out, ← HV1.out, ← HV2.out, ← HV3.out, ← HV4.out, ← HV5.out, ← HV6.out, ← HV7.out]
        rw [toI_same (nmAt_b hB 3 1 (by omega)).1 (nmAt_b hB 3 1 (by omega)).2, toI_same (nmAt_b hB 4 1 (by omega)).1 (nmAt_b hB 4 1 (by omega)).2, toI_same (nmAt_b hB 5 1 (by omega)).1 (nmAt_b hB 5 1 (by omega)).2, toI_same (nmAt_b hB 6 1 (by omega)).1 (nmAt_b hB 6 1 (by omega)).2, toI_same (nmAt_b hB 7 1 (by omega)).1 (nmAt_b hB 7 1 (by omega)).2, toI_same (nmAt_b hB 8 4 (by omega)).1 (nmAt_b hB 8 4 (by omega)).2])
      have hlen36 : (l.drop 36).length = N := by rw [List.length_drop, HL.out]; exact HN.out.symm
      have HL36 := hide hlen36
      clear hlen36
      have HE0 : Hid (dcE l = if okB ⟨v0, v1, v2, v3, v4, v5, v6, v7, l.drop 36⟩ = true ∧ enL ⟨v0, v1, v2, v3, v4, v5, v6, v7, l.drop 36⟩ = l then 0 else 30) := hide (by
        unfold dcE
        rw [if_neg (by have := HL.out; omega), if_neg HNM.out, if_neg (fun h => h HSM.out), hdP.out])
      have hBd : isB (l.drop 36) := fun x hx => hB x (List.mem_of_mem_drop hx)
      have x0 := (blk_cell hX 0).trans rfl
      have x1 := (blk_cell hX 1).trans rfl
      have x2 := (blk_cell hX 2).trans rfl
      have x3 := (blk_cell hX 3).trans rfl
      have x4 := (blk_cell hX 4).trans rfl
      have x5 := (blk_cell hX 5).trans rfl
      have x6 := (blk_cell hX 6).trans rfl
      have x7 := (blk_cell hX 7).trans rfl
      have x8 := (blk_cell hX 8).trans rfl
      go_wp2_with fail
      cases hok : okB ⟨v0, v1, v2, v3, v4, v5, v6, v7, l.drop 36⟩
      · have HOK := hide hok
        have HE : Hid (dcE l = 30) := hide (by rw [HE0.out, if_neg (fun h => by rw [hok] at h; exact absurd h.1 (by decide))])
        clear hok
        refine (enc_no ⟨v0, v1, v2, v3, v4, v5, v6, v7, l.drop 36⟩ A' N c' _ HL36.out HOK.out).mono ?_
        rintro e w15 ⟨rfl, hn15⟩
        have hR15 := hn15.keep hR
        have N15 := hnw.then hn15
        clear x0 x1 x2 x3 x4 x5 x6 x7 x8
        have r0 := (blk_cell hR15 0).trans rfl
        have f0 := blk_free hR15 0
        have r1 := (blk_cell hR15 1).trans rfl
        have f1 := blk_free hR15 1
        have r2 := (blk_cell hR15 2).trans rfl
        have f2 := blk_free hR15 2
        have r3 := (blk_cell hR15 3).trans rfl
        have f3 := blk_free hR15 3
        have r4 := (blk_cell hR15 4).trans rfl
        have f4 := blk_free hR15 4
        have r5 := (blk_cell hR15 5).trans rfl
        have f5 := blk_free hR15 5
        have r6 := (blk_cell hR15 6).trans rfl
        have f6 := blk_free hR15 6
        have r7 := (blk_cell hR15 7).trans rfl
        have f7 := blk_free hR15 7
        have r8 := (blk_cell hR15 8).trans rfl
        have f8 := blk_free hR15 8
        go_wp2_with fail
        obtain ⟨wz, hwz, Yz, Sz⟩ := set9 hR15 rfl (.int .i64 0) (.int .i64 0) (.int .i64 0) (.int .i64 0) (.int .i64 0) (.int .i64 0) (.int .i64 0) (.int .i64 0) (.slice none 0 0)
        rw [← hwz]
        clear hwz r0 f0 r1 f1 r2 f2 r3 f3 r4 f4 r5 f5 r6 f6 r7 f7 r8 f8
        have g0 := (blk_cell Yz 0).trans rfl
        have g1 := (blk_cell Yz 1).trans rfl
        have g2 := (blk_cell Yz 2).trans rfl
        have g3 := (blk_cell Yz 3).trans rfl
        have g4 := (blk_cell Yz 4).trans rfl
        have g5 := (blk_cell Yz 5).trans rfl
        have g6 := (blk_cell Yz 6).trans rfl
        have g7 := (blk_cell Yz 7).trans rfl
        have g8 := (blk_cell Yz 8).trans rfl
        refine bodyPost_ret (v := .tuple #[.agg #[.int .i64 0, .int .i64 0, .int .i64 0, .int .i64 0, .int .i64 0, .int .i64 0, .int .i64 0, .int .i64 0, .slice none 0 0], .int .i64 30]) (by simp [results, Try.results10, go_sem, g0, g1, g2, g3, g4, g5, g6, g7, g8]) rfl (DecR.no 30 HE.out (by omega) (N15.trans Sz (fun j hj e => by omega)))
      · have HOK := hide hok
        clear hok
        refine (enc_yes ⟨v0, v1, v2, v3, v4, v5, v6, v7, l.drop 36⟩ A' N c' _ HL36.out HOK.out hrd hBd).mono ?_
        rintro e w15 ⟨A5, c5, rfl, ho5, hn15⟩
        have hR15 := hn15.keep hR
        have N15 := hnw.then hn15
        have hX15 := hn15.keep hX
        have hrd15 := hrd.new hn15
        clear x0 x1 x2 x3 x4 x5 x6 x7 x8
        go_wp2_with fail
        refine (equal_any A5 A (36 + N) c5 n c _ l _ ho5.rd (hr.new N15)).mono ?_
        rintro e w16 ⟨rfl, nd, hw16⟩
        have hn16 : New w15 w16 := by rw [hw16]; exact new_draw _ _
        clear hw16
        have hR16 := hn16.keep hR15
        have N16 := N15.then hn16
        have hX16 := hn16.keep hX15
        have hrd16 := hrd15.new hn16
        by_cases heq : enL ⟨v0, v1, v2, v3, v4, v5, v6, v7, l.drop 36⟩ = l
        · have HE : Hid (dcE l = 0) := hide (by rw [HE0.out, if_pos ⟨HOK.out, heq⟩])
          rw [decide_eq_true heq]
          clear heq
          have x0 := (blk_cell hX16 0).trans rfl
          have x1 := (blk_cell hX16 1).trans rfl
          have x2 := (blk_cell hX16 2).trans rfl
          have x3 := (blk_cell hX16 3).trans rfl
          have x4 := (blk_cell hX16 4).trans rfl
          have x5 := (blk_cell hX16 5).trans rfl
          have x6 := (blk_cell hX16 6).trans rfl
          have x7 := (blk_cell hX16 7).trans rfl
          have x8 := (blk_cell hX16 8).trans rfl
          have HRR := hide hrd16
          have r0 := (blk_cell hR16 0).trans rfl
          have f0 := blk_free hR16 0
          have r1 := (blk_cell hR16 1).trans rfl
          have f1 := blk_free hR16 1
          have r2 := (blk_cell hR16 2).trans rfl
          have f2 := blk_free hR16 2
          have r3 := (blk_cell hR16 3).trans rfl
          have f3 := blk_free hR16 3
          have r4 := (blk_cell hR16 4).trans rfl
          have f4 := blk_free hR16 4
          have r5 := (blk_cell hR16 5).trans rfl
          have f5 := blk_free hR16 5
          have r6 := (blk_cell hR16 6).trans rfl
          have f6 := blk_free hR16 6
          have r7 := (blk_cell hR16 7).trans rfl
          have f7 := blk_free hR16 7
          have r8 := (blk_cell hR16 8).trans rfl
          have f8 := blk_free hR16 8
          go_wp2_with fail
          obtain ⟨wz, hwz, Yz, Sz⟩ := set9 hR16 rfl (.int .i64 v0) (.int .i64 v1) (.int .i64 v2) (.int .i64 v3) (.int .i64 v4) (.int .i64 v5) (.int .i64 v6) (.int .i64 v7) (.slice A' N c')
          rw [← hwz]
          clear hwz r0 r1 r2 r3 r4 r5 r6 r7 r8 f0 f1 f2 f3 f4 f5 f6 f7 f8 x0 x1 x2 x3 x4 x5 x6 x7 x8
          have g0 := (blk_cell Yz 0).trans rfl
          have g1 := (blk_cell Yz 1).trans rfl
          have g2 := (blk_cell Yz 2).trans rfl
          have g3 := (blk_cell Yz 3).trans rfl
          have g4 := (blk_cell Yz 4).trans rfl
          have g5 := (blk_cell Yz 5).trans rfl
          have g6 := (blk_cell Yz 6).trans rfl
          have g7 := (blk_cell Yz 7).trans rfl
          have g8 := (blk_cell Yz 8).trans rfl
          refine bodyPost_ret (v := .tuple #[.agg #[.int .i64 v0, .int .i64 v1, .int .i64 v2, .int .i64 v3, .int .i64 v4, .int .i64 v5, .int .i64 v6, .int .i64 v7, .slice A' N c'], .int .i64 0]) (by simp [results, Try.results10, go_sem, g0, g1, g2, g3, g4, g5, g6, g7, g8]) rfl ⟨N16.trans Sz (fun j hj e => by omega), .inl ⟨HE.out, A', N, c', by rw [hdP.out], hrd16.keep Sz (fun j hj e => (hA' j hj).1 e)⟩⟩
        · have HE : Hid (dcE l = 30) := hide (by rw [HE0.out, if_neg (fun h => heq h.2)])
          rw [decide_eq_false heq]
          clear heq
          have r0 := (blk_cell hR16 0).trans rfl
          have f0 := blk_free hR16 0
          have r1 := (blk_cell hR16 1).trans rfl
          have f1 := blk_free hR16 1
          have r2 := (blk_cell hR16 2).trans rfl
          have f2 := blk_free hR16 2
          have r3 := (blk_cell hR16 3).trans rfl
          have f3 := blk_free hR16 3
          have r4 := (blk_cell hR16 4).trans rfl
          have f4 := blk_free hR16 4
          have r5 := (blk_cell hR16 5).trans rfl
          have f5 := blk_free hR16 5
          have r6 := (blk_cell hR16 6).trans rfl
          have f6 := blk_free hR16 6
          have r7 := (blk_cell hR16 7).trans rfl
          have f7 := blk_free hR16 7
          have r8 := (blk_cell hR16 8).trans rfl
          have f8 := blk_free hR16 8
          go_wp2_with fail
          obtain ⟨wz, hwz, Yz, Sz⟩ := set9 hR16 rfl (.int .i64 0) (.int .i64 0) (.int .i64 0) (.int .i64 0) (.int .i64 0) (.int .i64 0) (.int .i64 0) (.int .i64 0) (.slice none 0 0)
          rw [← hwz]
          clear hwz r0 f0 r1 f1 r2 f2 r3 f3 r4 f4 r5 f5 r6 f6 r7 f7 r8 f8
          have g0 := (blk_cell Yz 0).trans rfl
          have g1 := (blk_cell Yz 1).trans rfl
          have g2 := (blk_cell Yz 2).trans rfl
          have g3 := (blk_cell Yz 3).trans rfl
          have g4 := (blk_cell Yz 4).trans rfl
          have g5 := (blk_cell Yz 5).trans rfl
          have g6 := (blk_cell Yz 6).trans rfl
          have g7 := (blk_cell Yz 7).trans rfl
          have g8 := (blk_cell Yz 8).trans rfl
          refine bodyPost_ret (v := .tuple #[.agg #[.int .i64 0, .int .i64 0, .int .i64 0, .int .i64 0, .int .i64 0, .int .i64 0, .int .i64 0, .int .i64 0, .slice none 0 0], .int .i64 30]) (by simp [results, Try.results10, go_sem, g0, g1, g2, g3, g4, g5, g6, g7, g8]) rfl (DecR.no 30 HE.out (by omega) (N16.trans Sz (fun j hj e => by omega)))
end Go.Proofs.Ytdgleplmmbkgfaa
