/- Walks: a packet's bytes. -/
import Derived.Test.YtdgleplmmbkgfaaV7
namespace Go.Proofs.Ytdgleplmmbkgfaa
open Go.RowKit
set_option maxRecDepth 100000

/-- The bytes up to the sum. -/
def hdL (P : Pk) : List Int := [78, 90, 1, P.kd, P.fl, P.pa, P.sr, P.ds] ++ putL 4 P.cn 4 ++ putL 8 P.sq 8 ++ putL 8 P.pl 8 ++ putL 2 P.b.length 2 ++ putL 2 0 2
def enL (P : Pk) : List Int := hdL P ++ putL 4 (ad2 (hdL P) P.b) 4 ++ P.b
structure Bnd (P : Pk) : Prop where
  kd : 1 ≤ P.kd ∧ P.kd ≤ 4
  fl : 0 ≤ P.fl ∧ P.fl ≤ 63
  pa : 0 ≤ P.pa ∧ P.pa ≤ 7
  sr : 0 ≤ P.sr ∧ P.sr ≤ 7
  ds : 0 ≤ P.ds ∧ P.ds ≤ 7
  cn : 1 ≤ P.cn ∧ P.cn ≤ 1073741824
  sq : 0 ≤ P.sq ∧ P.sq ≤ 1152921504606846976
  pl : 0 ≤ P.pl ∧ P.pl ≤ 1152921504606846976
  n : P.b.length ≤ 1024
theorem data_len {fl pl : Int} {n : Nat} (h : dataB fl pl n = true) : 0 ≤ fl ∧ fl ≤ 63 ∧ n ≤ 1024 := by
  unfold dataB at h
  simp only [Bool.and_eq_true] at h
  obtain ⟨⟨⟨⟨h1, h2⟩, h3⟩, h4⟩, h5⟩ := h
  have h1 := inB_iff.1 h1
  refine ⟨h1.1, h1.2, ?_⟩
  split at h5
  · have : n = 0 := by simpa using h5
    omega
  · have := inB_iff.1 h5
    omega
theorem ok_bnd {P : Pk} (h : okB P = true) : Bnd P := by
  unfold okB hostsB numsB at h
  simp only [Bool.and_eq_true] at h
  obtain ⟨⟨⟨h1, ⟨h2, h3⟩, h4⟩, ⟨⟨h5, h6⟩, h7⟩, h8⟩, h9⟩ := h
  have hf : 0 ≤ P.fl ∧ P.fl ≤ 63 ∧ P.b.length ≤ 1024 := by
    split at h9
    · exact data_len h9
    · unfold otherB at h9
      simp only [Bool.and_eq_true, decide_eq_true_eq] at h9
      rw [h9.1.1, h9.1.2]
      simp
  exact ⟨inB_iff.1 h1, ⟨hf.1, hf.2.1⟩, inB_iff.1 h5, inB_iff.1 h2, inB_iff.1 h3, inB_iff.1 h6, inB_iff.1 h7, inB_iff.1 h8, hf.2.2⟩
set_option maxHeartbeats 1000000 in
theorem head_any (P : Pk) (A : Option Addr) (n c : Nat) (w : World) (hn : P.b.length = n) (h : Bnd P) :
    Calls Try.prog 22 #[pkV P A n c] w fun e w' => ∃ A' c', e = .returned (.slice A' 32 c') ∧ Own w' w.heap.size 5 1 A' 32 c' (bts (hdL P)) ∧ New w w' := by
  obtain ⟨h1, h2, h3, h4, h5, h6, h7, h8, h9⟩ := h
  obtain ⟨kd, fl, pa, sr, ds, cn, sq, pl, bb⟩ := P
  dsimp only at *
  obtain ⟨h10, h11⟩ := h1
  obtain ⟨h20, h21⟩ := h2
  obtain ⟨h30, h31⟩ := h3
  obtain ⟨h40, h41⟩ := h4
  obtain ⟨h50, h51⟩ := h5
  obtain ⟨h60, h61⟩ := h6
  obtain ⟨h70, h71⟩ := h7
  obtain ⟨h80, h81⟩ := h8
  rw [hn] at h9
  have HN := hide hn
  clear hn
  have hn1 := New.alloc1 w (pkO ⟨kd, fl, pa, sr, ds, cn, sq, pl, bb⟩ A n c 25)
  have hb1 := blk_new w (pkO ⟨kd, fl, pa, sr, ds, cn, sq, pl, bb⟩ A n c 25)
  dsimp only [pkO] at hn1 hb1
  have hr0 := rd_lit (w.alloc (.cells #[.int .i64 kd, .int .i64 fl, .int .i64 pa, .int .i64 sr, .int .i64 ds, .int .i64 cn, .int .i64 sq, .int .i64 pl, .slice A n c] 25)) 5 1 8 #[.int .u8 78, .int .u8 90, .int .u8 1, .int .u8 kd, .int .u8 fl, .int .u8 pa, .int .u8 sr, .int .u8 ds] (by omega) rfl (by simp [Value.oneCell'])
  have hn2 := New.alloc1 (w.alloc (.cells #[.int .i64 kd, .int .i64 fl, .int .i64 pa, .int .i64 sr, .int .i64 ds, .int .i64 cn, .int .i64 sq, .int .i64 pl, .slice A n c] 25)) (.cells #[.int .u8 78, .int .u8 90, .int .u8 1, .int .u8 kd, .int .u8 fl, .int .u8 pa, .int .u8 sr, .int .u8 ds] 5)
  go_enter Try.func22, Try.ntmps22
  go_wp2_with fail
  rw [World.size_alloc] at hr0
  refine (put_lit _ 8 8 _ 4 4 cn _ rfl hr0 (by omega) (by omega) (by omega)).mono ?_
  rintro e w3 ⟨A3, c3, rfl, ho3, hn3⟩
  have hk3 := (hn2.then hn3).keep hb1
  have N3 := (hn1.then hn2).then hn3
  have c6 := (blk_cell hk3 6).trans rfl
  go_wp2_with fail
  refine (put_lit _ _ _ _ 8 8 sq _ rfl ho3.rd (by omega) (by omega) (by omega)).mono ?_
  rintro e w4 ⟨A4, c4, rfl, ho4, hn4⟩
  have hk4 := hn4.keep hk3
  have N4 := N3.then hn4
  clear c6
  have c7 := (blk_cell hk4 7).trans rfl
  go_wp2_with fail
  refine (put_lit _ _ _ _ 8 8 pl _ rfl ho4.rd (by omega) (by omega) (by omega)).mono ?_
  rintro e w5 ⟨A5, c5, rfl, ho5, hn5⟩
  have hk5 := hn5.keep hk4
  have N5 := N4.then hn5
  clear c7
  have c8 := (blk_cell hk5 8).trans rfl
  go_wp2_with fail
  refine (put_lit _ _ _ _ 2 2 (n : Int) _ rfl ho5.rd (by omega) (by omega) (by omega)).mono ?_
  rintro e w6 ⟨A6, c6, rfl, ho6, hn6⟩
  have N6 := N5.then hn6
  clear c8
  go_wp2_with fail
  refine (put_lit _ _ _ _ 2 2 0 _ rfl ho6.rd (by omega) (by omega) (by omega)).mono ?_
  rintro e w7 ⟨A7, c7, rfl, ho7, hn7⟩
  have N7 := N6.then hn7
  go_wp2_with fail
  go_ret
  refine ⟨A7, c7, rfl, ?_, N7⟩
  have := ho7.rebase (base' := w.heap.size) (fun k hk => by have := (ho7.at_ hk).1; have := N6.size; omega)
  unfold hdL
  rw [HN.out]
  simpa [bts] using this
end Go.Proofs.Ytdgleplmmbkgfaa
