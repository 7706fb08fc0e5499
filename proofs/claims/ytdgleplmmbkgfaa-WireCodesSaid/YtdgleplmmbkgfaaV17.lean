/- Walks: the same packets, their sizes. -/
import Derived.Test.YtdgleplmmbkgfaaV15
import Derived.Test.YtdgleplmmbkgfaaV10
namespace Go.Proofs.Ytdgleplmmbkgfaa
open Go.RowKit
set_option maxRecDepth 100000

/-- The strings of two rows, whatever has been made since. -/
def Str (W : World) (A : Option Addr) (n c : Nat) (l : List Int) : Prop := (convert 23 9 (.slice A n c)).run Try.prog W = .ok (.string (strOfNums l)) W
theorem Str.of {W : World} {A : Option Addr} {n c : Nat} {l : List Int} (h : Rd W 1 A n c (bts l)) : Str W A n c l := run_str 23 5 9 Try.underlying23 Try.underlying5 Try.underlying9 h
theorem strOf_inj {l k : List Int} (hl : isB l) (hk : isB k) (h : strOfNums l = strOfNums k) : l = k := by
  have h1 : (strOfNums l).data.toList = (strOfNums k).data.toList := by rw [h]
  rw [strOfNums_data, strOfNums_data] at h1
  clear h
  induction l generalizing k with
  | nil => cases k with
    | nil => rfl
    | cons y k => simp at h1
  | cons x l ih => cases k with
    | nil => simp at h1
    | cons y k =>
      simp only [List.map_cons, List.cons.injEq] at h1
      have hx := hl x (by simp)
      have hy := hk y (by simp)
      have e : x.toNat = y.toNat := by
        have := congrArg UInt8.toNat h1.1
        rw [UInt8.toNat_ofNat', UInt8.toNat_ofNat'] at this
        omega
      rw [ih (fun z hz => hl z (by simp [hz])) (fun z hz => hk z (by simp [hz])) h1.2, show x = y by omega]
theorem str_ne {a b : ByteArray} (h : ¬ a = b) : (a.toList == b.toList) = false := by
  rw [ByteArray.toList_eq, ByteArray.toList_eq]
  exact beq_false_of_ne (fun e => h (WideShapes.bytes_inj e))
/-- The same packet. -/
def smB (P Q : Pk) : Bool := decide (P.kd = Q.kd) && decide (P.fl = Q.fl) && decide (P.pa = Q.pa) && decide (P.sr = Q.sr) && decide (P.ds = Q.ds) && decide (P.cn = Q.cn) && decide (P.sq = Q.sq) && decide (P.pl = Q.pl) && decide (P.b = Q.b)
set_option maxHeartbeats 8000000 in
theorem same_b (P Q : Pk) (A B : Option Addr) (n c m d : Nat) (w : World) (hp : Rd w 1 A n c (bts P.b)) (hq : Rd w 1 B m d (bts Q.b)) (bp : isB P.b) (bq : isB Q.b) (b : Bool) (h : smB P Q = b) : Calls Try.prog 16 #[pkV P A n c, pkV Q B m d] w fun e w' => e = .returned (.bool b) ∧ New w w' := by
  obtain ⟨w2, hw2, hb1, hb2, N2, hs2⟩ := twoNew w #[.int .i64 P.kd, .int .i64 P.fl, .int .i64 P.pa, .int .i64 P.sr, .int .i64 P.ds, .int .i64 P.cn, .int .i64 P.sq, .int .i64 P.pl, .slice A n c] #[.int .i64 Q.kd, .int .i64 Q.fl, .int .i64 Q.pa, .int .i64 Q.sr, .int .i64 Q.ds, .int .i64 Q.cn, .int .i64 Q.sq, .int .i64 Q.pl, .slice B m d] 25 25
  have hp2 := hp.new N2
  have hq2 := hq.new N2
  obtain ⟨kd, fl, pa, sr, ds, cn, sq, pl, bb⟩ := P
  obtain ⟨kd', fl', pa', sr', ds', cn', sq', pl', bb'⟩ := Q
  unfold smB at h
  dsimp only at *
  have HH := hide h
  have HS := hide hs2
  clear h hs2
  go_enter Try.func16, Try.ntmps16
  go_upto_region 1 with (fail)
  rw [← hw2]
  clear hw2
  have x0 := (blk_cell hb1 0).trans rfl
  have y0 := (blk_cell hb2 0).trans rfl
  have x1 := (blk_cell hb1 1).trans rfl
  have y1 := (blk_cell hb2 1).trans rfl
  have x2 := (blk_cell hb1 2).trans rfl
  have y2 := (blk_cell hb2 2).trans rfl
  have x3 := (blk_cell hb1 3).trans rfl
  have y3 := (blk_cell hb2 3).trans rfl
  have x4 := (blk_cell hb1 4).trans rfl
  have y4 := (blk_cell hb2 4).trans rfl
  have x5 := (blk_cell hb1 5).trans rfl
  have y5 := (blk_cell hb2 5).trans rfl
  have x6 := (blk_cell hb1 6).trans rfl
  have y6 := (blk_cell hb2 6).trans rfl
  have x7 := (blk_cell hb1 7).trans rfl
  have y7 := (blk_cell hb2 7).trans rfl
  have x8 := (blk_cell hb1 8).trans rfl
  have y8 := (blk_cell hb2 8).trans rfl
  clear hb1 hb2
  cases k0 : decide (kd = kd')
  · have hb : b = false := by have := HH.out; rw [k0] at this; simpa using this.symm
    subst hb
    have g0 := dec_beq k0
    clear k0
    go_wp2_with fail
    go_ret
    exact ⟨rfl, N2⟩
  have g0 := dec_beq k0
  have K0 := hide k0
  clear k0
  cases k1 : decide (fl = fl')
  · have hb : b = false := by have := HH.out; rw [K0.out, k1] at this; simpa using this.symm
    subst hb
    have g1 := dec_beq k1
    clear k1
    go_wp2_with fail
    go_ret
    exact ⟨rfl, N2⟩
  have g1 := dec_beq k1
  have K1 := hide k1
  clear k1
  cases k2 : decide (pa = pa')
  · have hb : b = false := by have := HH.out; rw [K0.out, K1.out, k2] at this; simpa using this.symm
    subst hb
    have g2 := dec_beq k2
    clear k2
    go_wp2_with fail
    go_ret
    exact ⟨rfl, N2⟩
  have g2 := dec_beq k2
  have K2 := hide k2
  clear k2
  cases k3 : decide (sr = sr')
  · have hb : b = false := by have := HH.out; rw [K0.out, K1.out, K2.out, k3] at this; simpa using this.symm
    subst hb
    have g3 := dec_beq k3
    clear k3
    go_wp2_with fail
    go_ret
    exact ⟨rfl, N2⟩
  have g3 := dec_beq k3
  have K3 := hide k3
  clear k3
  cases k4 : decide (ds = ds')
  · have hb : b = false := by have := HH.out; rw [K0.out, K1.out, K2.out, K3.out, k4] at this; simpa using this.symm
    subst hb
    have g4 := dec_beq k4
    clear k4
    go_wp2_with fail
    go_ret
    exact ⟨rfl, N2⟩
  have g4 := dec_beq k4
  have K4 := hide k4
  clear k4
  cases k5 : decide (cn = cn')
  · have hb : b = false := by have := HH.out; rw [K0.out, K1.out, K2.out, K3.out, K4.out, k5] at this; simpa using this.symm
    subst hb
    have g5 := dec_beq k5
    clear k5
    go_wp2_with fail
    go_ret
    exact ⟨rfl, N2⟩
  have g5 := dec_beq k5
  have K5 := hide k5
  clear k5
  cases k6 : decide (sq = sq')
  · have hb : b = false := by have := HH.out; rw [K0.out, K1.out, K2.out, K3.out, K4.out, K5.out, k6] at this; simpa using this.symm
    subst hb
    have g6 := dec_beq k6
    clear k6
    go_wp2_with fail
    go_ret
    exact ⟨rfl, N2⟩
  have g6 := dec_beq k6
  have K6 := hide k6
  clear k6
  cases k7 : decide (pl = pl')
  · have hb : b = false := by have := HH.out; rw [K0.out, K1.out, K2.out, K3.out, K4.out, K5.out, K6.out, k7] at this; simpa using this.symm
    subst hb
    have g7 := dec_beq k7
    clear k7
    go_wp2_with fail
    go_ret
    exact ⟨rfl, N2⟩
  have g7 := dec_beq k7
  have K7 := hide k7
  clear k7
  have hb : decide (bb = bb') = b := by have := HH.out; rw [K0.out, K1.out, K2.out, K3.out, K4.out, K5.out, K6.out, K7.out] at this; simpa using this
  go_wp2_with fail
  refine (equal_any A B n c m d bb bb' _ hp2 hq2).mono ?_
  rintro e w3 ⟨rfl, nd, rfl⟩
  rw [hb]
  go_wp2_with fail
  go_ret
  exact ⟨rfl, N2.then (new_draw _ _)⟩
set_option maxHeartbeats 8000000 in
theorem rsame_b (P Q : Pk) (A B : Option Addr) (n c m d : Nat) (w : World) (hp : Rd w 1 A n c (bts P.b)) (hq : Rd w 1 B m d (bts Q.b)) (bp : isB P.b) (bq : isB Q.b) (b : Bool) (h : smB P Q = b) : Calls Try.prog 15 #[pkV P A n c, pkV Q B m d] w fun e w' => e = .returned (.bool b) ∧ New w w' := by
  obtain ⟨w2, hw2, hb1, hb2, N2, hs2⟩ := twoNew w #[.int .i64 P.kd, .int .i64 P.fl, .int .i64 P.pa, .int .i64 P.sr, .int .i64 P.ds, .int .i64 P.cn, .int .i64 P.sq, .int .i64 P.pl, .slice A n c] #[.int .i64 Q.kd, .int .i64 Q.fl, .int .i64 Q.pa, .int .i64 Q.sr, .int .i64 Q.ds, .int .i64 Q.cn, .int .i64 Q.sq, .int .i64 Q.pl, .slice B m d] 25 25
  have hp2 := hp.new N2
  have hq2 := hq.new N2
  obtain ⟨kd, fl, pa, sr, ds, cn, sq, pl, bb⟩ := P
  obtain ⟨kd', fl', pa', sr', ds', cn', sq', pl', bb'⟩ := Q
  unfold smB at h
  dsimp only at *
  have HH := hide h
  have HS := hide hs2
  clear h hs2
  go_enter Try.func15, Try.ntmps15
  go_upto_region 1 with (fail)
  rw [← hw2]
  clear hw2
  have x0 := (blk_cell hb1 0).trans rfl
  have y0 := (blk_cell hb2 0).trans rfl
  have x1 := (blk_cell hb1 1).trans rfl
  have y1 := (blk_cell hb2 1).trans rfl
  have x2 := (blk_cell hb1 2).trans rfl
  have y2 := (blk_cell hb2 2).trans rfl
  have x3 := (blk_cell hb1 3).trans rfl
  have y3 := (blk_cell hb2 3).trans rfl
  have x4 := (blk_cell hb1 4).trans rfl
  have y4 := (blk_cell hb2 4).trans rfl
  have x5 := (blk_cell hb1 5).trans rfl
  have y5 := (blk_cell hb2 5).trans rfl
  have x6 := (blk_cell hb1 6).trans rfl
  have y6 := (blk_cell hb2 6).trans rfl
  have x7 := (blk_cell hb1 7).trans rfl
  have y7 := (blk_cell hb2 7).trans rfl
  have x8 := (blk_cell hb1 8).trans rfl
  have y8 := (blk_cell hb2 8).trans rfl
  clear hb1 hb2
  cases k0 : decide (kd = kd')
  · have hb : b = false := by have := HH.out; rw [k0] at this; simpa using this.symm
    subst hb
    have g0 := dec_beq k0
    clear k0
    go_wp2_with fail
    go_ret
    exact ⟨rfl, N2⟩
  have g0 := dec_beq k0
  have K0 := hide k0
  clear k0
  cases k1 : decide (fl = fl')
  · have hb : b = false := by have := HH.out; rw [K0.out, k1] at this; simpa using this.symm
    subst hb
    have g1 := dec_beq k1
    clear k1
    go_wp2_with fail
    go_ret
    exact ⟨rfl, N2⟩
  have g1 := dec_beq k1
  have K1 := hide k1
  clear k1
  cases k2 : decide (pa = pa')
  · have hb : b = false := by have := HH.out; rw [K0.out, K1.out, k2] at this; simpa using this.symm
    subst hb
    have g2 := dec_beq k2
    clear k2
    go_wp2_with fail
    go_ret
    exact ⟨rfl, N2⟩
  have g2 := dec_beq k2
  have K2 := hide k2
  clear k2
  cases k3 : decide (sr = sr')
  · have hb : b = false := by have := HH.out; rw [K0.out, K1.out, K2.out, k3] at this; simpa using this.symm
    subst hb
    have g3 := dec_beq k3
    clear k3
    go_wp2_with fail
    go_ret
    exact ⟨rfl, N2⟩
  have g3 := dec_beq k3
  have K3 := hide k3
  clear k3
  cases k4 : decide (ds = ds')
  · have hb : b = false := by have := HH.out; rw [K0.out, K1.out, K2.out, K3.out, k4] at this; simpa using this.symm
    subst hb
    have g4 := dec_beq k4
    clear k4
    go_wp2_with fail
    go_ret
    exact ⟨rfl, N2⟩
  have g4 := dec_beq k4
  have K4 := hide k4
  clear k4
  cases k5 : decide (cn = cn')
  · have hb : b = false := by have := HH.out; rw [K0.out, K1.out, K2.out, K3.out, K4.out, k5] at this; simpa using this.symm
    subst hb
    have g5 := dec_beq k5
    clear k5
    go_wp2_with fail
    go_ret
    exact ⟨rfl, N2⟩
  have g5 := dec_beq k5
  have K5 := hide k5
  clear k5
  cases k6 : decide (sq = sq')
  · have hb : b = false := by have := HH.out; rw [K0.out, K1.out, K2.out, K3.out, K4.out, K5.out, k6] at this; simpa using this.symm
    subst hb
    have g6 := dec_beq k6
    clear k6
    go_wp2_with fail
    go_ret
    exact ⟨rfl, N2⟩
  have g6 := dec_beq k6
  have K6 := hide k6
  clear k6
  cases k7 : decide (pl = pl')
  · have hb : b = false := by have := HH.out; rw [K0.out, K1.out, K2.out, K3.out, K4.out, K5.out, K6.out, k7] at this; simpa using this.symm
    subst hb
    have g7 := dec_beq k7
    clear k7
    go_wp2_with fail
    go_ret
    exact ⟨rfl, N2⟩
  have g7 := dec_beq k7
  have K7 := hide k7
  clear k7
  have hb : decide (bb = bb') = b := by have := HH.out; rw [K0.out, K1.out, K2.out, K3.out, K4.out, K5.out, K6.out, K7.out] at this; simpa using this
  have q1 : (convert 23 9 (.slice A n c)).run Try.prog w2 = .ok (.string (strOfNums bb)) w2 := Str.of hp2
  have q2 : (convert 23 9 (.slice B m d)).run Try.prog w2 = .ok (.string (strOfNums bb')) w2 := Str.of hq2
  obtain ⟨S, hS⟩ : ∃ S, S = strOfNums bb := ⟨_, rfl⟩
  obtain ⟨S', hS'⟩ : ∃ S, S = strOfNums bb' := ⟨_, rfl⟩
  rw [← hS] at q1
  rw [← hS'] at q2
  have he : (S.toList == S'.toList) = b := by
    rw [← hb]
    by_cases e : bb = bb'
    · rw [hS, hS', e, decide_eq_true rfl]
      simp
    · rw [decide_eq_false e, hS, hS']
      exact str_ne (fun hh => e (strOf_inj bp bq hh))
  clear hS hS' hb
  go_wp2_with fail
  go_ret
  exact ⟨rfl, N2⟩
set_option maxHeartbeats 1000000 in
theorem size_b (P : Pk) (A : Option Addr) (n c : Nat) (w : World) (hn : P.b.length = n) (hn2 : n ≤ 140737488355000) (b : Bool) (h : okB P = b) : Calls Try.prog 21 #[pkV P A n c] w fun e w' => e = .returned (.int .i64 (bif b then 36 + n else 0)) ∧ New w w' := by
  have hn1 := New.alloc1 w (pkO P A n c 25)
  have hb1 := blk_new w (pkO P A n c 25)
  have HN := hide hn
  have HH := hide h
  clear hn h
  go_enter Try.func21, Try.ntmps21
  go_wp2_with fail
  refine (check_b P A n c b _ HN.out HH.out).mono ?_
  rintro e w2 ⟨rfl, hn3⟩
  have hk2 := hn3.keep hb1
  dsimp only [pkO] at hk2
  have c8 := (blk_cell hk2 8).trans rfl
  cases b
  · go_wp2_with fail
    go_ret
    exact ⟨rfl, hn1.then hn3⟩
  · go_wp2_with fail
    go_ret
    exact ⟨rfl, hn1.then hn3⟩
/-- A packet that is looked at. -/
def fwP (P : Pk) : Pk := { P with b := P.b.take 1100 }
end Go.Proofs.Ytdgleplmmbkgfaa
