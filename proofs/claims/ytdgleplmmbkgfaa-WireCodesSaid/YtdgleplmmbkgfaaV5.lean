/- Walks: which packets may be. -/
import Derived.Test.YtdgleplmmbkgfaaV4
namespace Go.Proofs.Ytdgleplmmbkgfaa
open Go.RowKit
set_option maxRecDepth 100000

set_option maxHeartbeats 4000000 in
theorem check_b (P : Pk) (A : Option Addr) (n c : Nat) (b : Bool) (w : World) (hn : P.b.length = n) (h : okB P = b) : Calls Try.prog 19 #[pkV P A n c] w fun e w' => e = .returned (.int .i64 (bif b then 0 else 30)) ∧ New w w' := by
  obtain ⟨b1, e1⟩ : ∃ b1, hostsB P = b1 := ⟨_, rfl⟩
  obtain ⟨b2, e2⟩ : ∃ b2, numsB P = b2 := ⟨_, rfl⟩
  obtain ⟨b3, e3⟩ : ∃ b3, dataB P.fl P.pl n = b3 := ⟨_, rfl⟩
  obtain ⟨b4, e4⟩ : ∃ b4, otherB P = b4 := ⟨_, rfl⟩
  have hd := fun w => data_b P A n c b3 w e3
  have ho := fun w => other_b P A n c b4 w hn e4
  unfold okB at h
  rw [hn, e1, e2, e3, e4] at h
  have H1 := hide e1
  have H2 := hide e2
  clear e3 e4 hn e1 e2
  obtain ⟨kd, fl, pa, sr, ds, cn, sq, pl, bb⟩ := P
  unfold hostsB at H1
  unfold numsB at H2
  dsimp only at h H1 H2 hd ho
  have HD := hide hd
  have HO := hide ho
  have HH := hide h
  clear hd ho h
  go_enter Try.func19, Try.ntmps19
  have hn1 := New.alloc1 w (pkO ⟨kd, fl, pa, sr, ds, cn, sq, pl, bb⟩ A n c 25)
  have hb1 := blk_new w (pkO ⟨kd, fl, pa, sr, ds, cn, sq, pl, bb⟩ A n c 25)
  dsimp only [pkO] at hb1 hn1
  go_upto_region 1 with (fail)
  generalize hw1 : w.alloc _ = w1 at *
  clear hw1
  have c0 := (blk_cell hb1 0).trans rfl
  have c1 := (blk_cell hb1 1).trans rfl
  have c2 := (blk_cell hb1 2).trans rfl
  have c3 := (blk_cell hb1 3).trans rfl
  have c4 := (blk_cell hb1 4).trans rfl
  have c5 := (blk_cell hb1 5).trans rfl
  have c6 := (blk_cell hb1 6).trans rfl
  have c7 := (blk_cell hb1 7).trans rfl
  have c8 := (blk_cell hb1 8).trans rfl
  go_cut [3] (fun s3 wc => w1 = wc ∧ s3 = .bool b1)
  case first =>
    cases h1 : inB sr 0 7
    · have hb : b1 = false := by have := H1.out; rw [h1] at this; simpa using this.symm
      subst hb
      go_wp2_with fail
      refine (in_b _ _ _ _ _ h1).mono ?_
      rintro e w2 ⟨rfl, rfl⟩
      go_wp2_with fail
      go_meet
      exact ⟨rfl, rfl⟩
    · cases h2 : inB ds 0 7
      · have hb : b1 = false := by have := H1.out; rw [h1, h2] at this; simpa using this.symm
        subst hb
        go_wp2_with fail
        refine (in_b _ _ _ _ _ h1).mono ?_
        rintro e w2 ⟨rfl, rfl⟩
        go_wp2_with fail
        refine (in_b _ _ _ _ _ h2).mono ?_
        rintro e w2 ⟨rfl, rfl⟩
        go_wp2_with fail
        go_meet
        exact ⟨rfl, rfl⟩
      · have hb : (sr != ds) = b1 := by have := H1.out; rw [h1, h2] at this; rw [← this]; by_cases e : sr = ds <;> simp [e]
        go_wp2_with fail
        refine (in_b _ _ _ _ _ h1).mono ?_
        rintro e w2 ⟨rfl, rfl⟩
        go_wp2_with fail
        refine (in_b _ _ _ _ _ h2).mono ?_
        rintro e w2 ⟨rfl, rfl⟩
        go_wp2_with fail
        go_meet
        exact ⟨rfl, rfl⟩
  case rest =>
    obtain ⟨rfl, rfl⟩ := hcut
    go_upto_region 2 with (fail)
    go_cut [4] (fun s4 wc => w1 = wc ∧ s4 = .bool b2)
    case first =>
      cases h1 : inB pa 0 7
      · have hb : b2 = false := by have := H2.out; rw [h1] at this; simpa using this.symm
        subst hb
        go_wp2_with fail
        refine (in_b _ _ _ _ _ h1).mono ?_
        rintro e w2 ⟨rfl, rfl⟩
        go_wp2_with fail
        go_meet
        exact ⟨rfl, rfl⟩
      · cases h2 : inB cn 1 1073741824
        · have hb : b2 = false := by have := H2.out; rw [h1, h2] at this; simpa using this.symm
          subst hb
          go_wp2_with fail
          refine (in_b _ _ _ _ _ h1).mono ?_
          rintro e w2 ⟨rfl, rfl⟩
          go_wp2_with fail
          refine (in_b _ _ _ _ _ h2).mono ?_
          rintro e w2 ⟨rfl, rfl⟩
          go_wp2_with fail
          go_meet
          exact ⟨rfl, rfl⟩
        · cases h3 : inB sq 0 1152921504606846976
          · have hb : b2 = false := by have := H2.out; rw [h1, h2, h3] at this; simpa using this.symm
            subst hb
            go_wp2_with fail
            refine (in_b _ _ _ _ _ h1).mono ?_
            rintro e w2 ⟨rfl, rfl⟩
            go_wp2_with fail
            refine (in_b _ _ _ _ _ h2).mono ?_
            rintro e w2 ⟨rfl, rfl⟩
            go_wp2_with fail
            refine (in_b _ _ _ _ _ h3).mono ?_
            rintro e w2 ⟨rfl, rfl⟩
            go_wp2_with fail
            go_meet
            exact ⟨rfl, rfl⟩
          · have hb : inB pl 0 1152921504606846976 = b2 := by have := H2.out; rw [h1, h2, h3] at this; simpa using this
            go_wp2_with fail
            refine (in_b _ _ _ _ _ h1).mono ?_
            rintro e w2 ⟨rfl, rfl⟩
            go_wp2_with fail
            refine (in_b _ _ _ _ _ h2).mono ?_
            rintro e w2 ⟨rfl, rfl⟩
            go_wp2_with fail
            refine (in_b _ _ _ _ _ h3).mono ?_
            rintro e w2 ⟨rfl, rfl⟩
            go_wp2_with fail
            refine (in_b _ _ _ _ _ hb).mono ?_
            rintro e w2 ⟨rfl, rfl⟩
            go_wp2_with fail
            go_meet
            exact ⟨rfl, rfl⟩
    case rest =>
      obtain ⟨rfl, rfl⟩ := hcut
      have hbr := hb1
      clear hb1
      cases b1
      · have hb : b = false := by have := HH.out; simpa using this.symm
        subst hb
        by_cases k1 : 1 ≤ kd <;> by_cases k2 : kd ≤ 4
        all_goals
          first | have e1 : decide (1 ≤ kd) = true := decide_eq_true k1 | have e1 : decide (1 ≤ kd) = false := decide_eq_false k1
          first | have e2 : decide (kd ≤ 4) = true := decide_eq_true k2 | have e2 : decide (kd ≤ 4) = false := decide_eq_false k2
          clear k1 k2
          go_wp2_with fail
          go_ret
          exact ⟨rfl, hn1⟩
      cases b2
      · have hb : b = false := by have := HH.out; simpa using this.symm
        subst hb
        by_cases k1 : 1 ≤ kd <;> by_cases k2 : kd ≤ 4
        all_goals
          first | have e1 : decide (1 ≤ kd) = true := decide_eq_true k1 | have e1 : decide (1 ≤ kd) = false := decide_eq_false k1
          first | have e2 : decide (kd ≤ 4) = true := decide_eq_true k2 | have e2 : decide (kd ≤ 4) = false := decide_eq_false k2
          clear k1 k2
          go_wp2_with fail
          go_ret
          exact ⟨rfl, hn1⟩
      by_cases k1 : 1 ≤ kd
      · have e1 : decide (1 ≤ kd) = true := decide_eq_true k1
        by_cases k2 : kd ≤ 4
        · have e2 : decide (kd ≤ 4) = true := decide_eq_true k2
          have hk : inB kd 1 4 = true := inB_iff.2 ⟨k1, k2⟩
          by_cases k3 : kd = 1
          · have e3 : (kd == 1) = true := by simpa using k3
            have hb : b3 = b := by have := HH.out; rw [hk, if_pos k3] at this; simpa using this
            subst hb
            clear k1 k2 k3
            go_wp2_with fail
            refine (HD.out _).mono ?_
            rintro e w2 ⟨rfl, hn2⟩
            clear c0 c1 c2 c3 c4 c5 c6 c7 c8
            cases b3
            · go_wp2_with fail
              go_ret
              exact ⟨rfl, hn1.then hn2⟩
            · go_wp2_with fail
              go_ret
              exact ⟨rfl, hn1.then hn2⟩
          · have e3 : (kd == 1) = false := by simpa using k3
            have hb : b4 = b := by have := HH.out; rw [hk, if_neg k3] at this; simpa using this
            subst hb
            clear k1 k2 k3
            go_wp2_with fail
            refine (HO.out _).mono ?_
            rintro e w2 ⟨rfl, hn2⟩
            clear c0 c1 c2 c3 c4 c5 c6 c7 c8
            cases b4
            · go_wp2_with fail
              go_ret
              exact ⟨rfl, hn1.then hn2⟩
            · go_wp2_with fail
              go_ret
              exact ⟨rfl, hn1.then hn2⟩
        · have e2 : decide (kd ≤ 4) = false := decide_eq_false k2
          have hk : inB kd 1 4 = false := inB_no.2 (fun h => k2 h.2)
          have hb : b = false := by have := HH.out; rw [hk] at this; simpa using this.symm
          subst hb
          clear k1 k2
          go_wp2_with fail
          go_ret
          exact ⟨rfl, hn1⟩
      · have e1 : decide (1 ≤ kd) = false := decide_eq_false k1
        have hk : inB kd 1 4 = false := inB_no.2 (fun h => k1 h.1)
        have hb : b = false := by have := HH.out; rw [hk] at this; simpa using this.symm
        subst hb
        clear k1
        go_wp2_with fail
        go_ret
        exact ⟨rfl, hn1⟩
end Go.Proofs.Ytdgleplmmbkgfaa
