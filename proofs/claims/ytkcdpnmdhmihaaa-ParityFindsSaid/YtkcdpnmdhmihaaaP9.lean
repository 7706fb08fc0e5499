/- Walks: the document's Find. -/
import Derived.Test.YtkcdpnmdhmihaaaP8
namespace Go.Proofs.Ytkcdpnmdhmihaaa
open Go.RowKit
set_option maxRecDepth 100000

set_option maxHeartbeats 400000 in
theorem rfind_f (B : Option Addr) (m d : Nat) (k : List Int) (A : Option Addr) (n c : Nat) (L : List Pc) (w : World) (hk : Rd w 1 B m d (bts k)) (h : Rows w A n c L) (hf : ¬ okF k (byt L)) :
    Calls Try.prog 14 #[.slice B m d, .slice A n c] w fun e w' => e = .returned (.tuple #[.slice none 0 0, .int .i64 360]) ∧ w = w' := by
  have hkl := hk.blen
  have hll := h.len
  have hbl := byt_len L
  by_cases h0 : 15 < n
  · have d0 : decide (15 < (n : Int)) = true := decide_eq_true (by omega)
    go_enter Try.func14, Try.ntmps14
    go_wp2_with fail
    go_ret2
    exact ⟨rfl, rfl⟩
  · have d0 : decide (15 < (n : Int)) = false := decide_eq_false (by omega)
    by_cases h1 : 1024 < longOf (byt L)
    · have d1 : decide (1024 < (longOf (byt L) : Int)) = true := decide_eq_true (by omega)
      go_enter Try.func14, Try.ntmps14
      go_wp2_with fail
      refine (longest_any A n c L _ h).mono ?_
      rintro e w1 ⟨rfl, rfl⟩
      go_wp2_with fail
      go_ret2
      exact ⟨rfl, rfl⟩
    · have d1 : decide (1024 < (longOf (byt L) : Int)) = false := decide_eq_false (by omega)
      by_cases h2 : m < 2
      · have d2 : decide ((m : Int) < 2) = true := decide_eq_true (by omega)
        go_enter Try.func14, Try.ntmps14
        go_wp2_with fail
        refine (longest_any A n c L _ h).mono ?_
        rintro e w1 ⟨rfl, rfl⟩
        go_wp2_with fail
        go_ret2
        exact ⟨rfl, rfl⟩
      · have d2 : decide ((m : Int) < 2) = false := decide_eq_false (by omega)
        have d3 : decide (1026 < (m : Int)) = true := decide_eq_true (by
          have : ¬ m ≤ 1026 := fun hm => hf ⟨by omega, by omega, by omega, by omega⟩
          omega)
        go_enter Try.func14, Try.ntmps14
        go_wp2_with fail
        refine (longest_any A n c L _ h).mono ?_
        rintro e w1 ⟨rfl, rfl⟩
        go_wp2_with fail
        go_ret2
        exact ⟨rfl, rfl⟩

set_option maxHeartbeats 1000000 in
theorem rfind_h (B : Option Addr) (m d : Nat) (k : List Int) (A : Option Addr) (n c : Nat) (L : List Pc) (w : World) (hk : Rd w 1 B m d (bts k)) (hkB : isB k) (h : Rows w A n c L) (hf : okF k (byt L)) :
    Calls Try.prog 14 #[.slice B m d, .slice A n c] w fun e w' => ∃ (A' : Option Addr) (c' : Nat),
      ((okA k (byt L) ∧ e = .returned (.tuple #[.slice A' (xorN k (byt L)) c', .int .i64 0]) ∧ Rd w' 1 A' (xorN k (byt L)) c' (bts (outOf k (byt L)))) ∨ (¬ okA k (byt L) ∧ e = .returned (.tuple #[.slice none 0 0, .int .i64 360]))) ∧ New w w' := by
  have hkl := hk.blen
  have h1 := h.bad.2 ⟨hf.1, hf.2.1⟩
  have hlong := hf.2.1
  have hm2 := hf.2.2.1
  have hm26 := hf.2.2.2
  rw [hkl] at hm2 hm26
  have hcap := hk.cap
  have i0 : 0 < m := by omega
  have i1 : 1 < m := by omega
  have hn15 := h1.1
  have d0 : decide (15 < (n : Int)) = false := decide_eq_false (by omega)
  have d1 : decide (1024 < (longOf (byt L) : Int)) = false := decide_eq_false (by omega)
  have d2 : decide ((m : Int) < 2) = false := decide_eq_false (by omega)
  have d3 : decide (1026 < (m : Int)) = false := decide_eq_false (by omega)
  have hsm := h.small (m := 1030) (by omega)
  have hln := h.lens_lt hsm
  have hallB := h.allB
  obtain ⟨bd, rfl⟩ := hk.some (by omega)
  obtain ⟨x, hx⟩ : ∃ x, k[0]? = some x := ⟨_, List.getElem?_eq_getElem (by omega)⟩
  obtain ⟨y, hy⟩ : ∃ y, k[1]? = some y := ⟨_, List.getElem?_eq_getElem (by omega)⟩
  have hxb := hkB.get hx
  have hyb := hkB.get hy
  have s1 := run_cut_l (P := Try.prog) 23 5 1 Try.underlying23 size_u8 (some bd) m d 2 2 rfl (by omega) .i64
  obtain ⟨b2, hb2⟩ : ∃ b2, sl (some bd) d 2 1 = some b2 := by unfold sl; split <;> exact ⟨_, rfl⟩
  rw [hb2] at s1
  have hkd := hk.bdrop 2 (by omega)
  rw [hb2] at hkd
  clear hb2
  have c0 : w.cell? bd = some (.int .u8 x) := by have := hk.bcell hx; rwa [add_zero'] at this
  have c1 : w.cell? ⟨bd.block, bd.off + 1, none⟩ = some (.int .u8 y) := by have := hk.bcell hy; rwa [add_off' _ 1 (by omega)] at this
  obtain ⟨x, rfl⟩ := Int.eq_ofNat_of_zero_le hxb.1
  obtain ⟨y, rfl⟩ := Int.eq_ofNat_of_zero_le hyb.1
  have hx2 := hxb.2
  have hy2 := hyb.2
  have i3 : (1 : Int) < m := by omega
  obtain ⟨N, hN⟩ : ∃ N, N = lensOf (byt L) ^^^ (x * 256 + y) := ⟨_, rfl⟩
  have e2 : bits .xor .i64 (lensOf (byt L) : Int) (256 * (x : Int) + y) = (N : Int) := by have := i64_xor_nat (lensOf (byt L)) (x * 256 + y) (by omega) (by omega); rw [hN, Int.mul_comm]; rwa [Int.natCast_add, Int.natCast_mul] at this
  have hNx : xorN k (byt L) = N := by rw [hN]; unfold xorN; simp [List.getD_eq_getElem?_getD, hx, hy]
  have hN16 : N < 65536 := by rw [hN]; exact Nat.xor_lt_two_pow (n := 16) (by omega) (by omega)
  have hwx := wrap_i64 (n := (x : Int)) (by omega) (by omega)
  have hwx2 := wrap_i64 (n := 256 * (x : Int)) (by omega) (by omega)
  have hwy := wrap_i64 (n := (y : Int)) (by omega) (by omega)
  have HX := hide hx
  have HY := hide hy
  have HF := hide hf
  have HNx := hide hNx
  have HKL := hide hkl
  clear hx hy hf hN hNx hkl
  go_enter Try.func14, Try.ntmps14
  go_wp2_with fail
  refine (longest_any A n c L _ h).mono ?_
  rintro e w1 ⟨rfl, rfl⟩
  go_wp2_with fail
  go_quiet ((go_at_call 33; exact quiet_same (lengths_any A n c L _ (h.new (new_draw w _)) hsm)))
  clear c0 c1 e2 hwx hwx2 hwy
  have hn1 : New w (w.drewN nq) := new_draw w nq
  generalize w.drewN nq = w1 at *
  by_cases g1 : N ≤ m - 2
  · have d4 : decide (((m - 2 : Nat) : Int) < (N : Int)) = false := decide_eq_false (by omega)
    have d4' : decide (m - 2 < N) = false := decide_eq_false (by omega)
    go_wp2_with fail
    refine (longest_any A n c L _ (h.new hn1)).mono ?_
    rintro e w2 ⟨rfl, rfl⟩
    by_cases g2 : longOf (byt L) ≤ m - 2
    · have d5 : decide (m - 2 < longOf (byt L)) = false := decide_eq_false (by omega)
      have d6 : decide (((m - 2 : Nat) : Int) < (longOf (byt L) : Int)) = false := decide_eq_false (by omega)
      have hOK : okG k (byt L) := ⟨HF.out, by rw [HNx.out, HKL.out]; exact g1, by rw [HKL.out]; exact g2⟩
      go_wp2_with fail
      go_loopw [8, 9] (fun s8 s9 wr => ∃ (j : Nat) (A' : Option Addr) (c' : Nat), j ≤ m - 2 ∧ s9 = .int .i64 j ∧ s8 = .slice A' (min j N) c' ∧ Own wr w.heap.size 5 1 A' (min j N) c' (bts ((List.range (min j N)).map (allAt k (byt L)))) ∧ New w wr ∧ ∀ i, i < j → N ≤ i → allAt k (byt L) i = 0) (fun _ v _ => (m - 2) - (intOf v).toNat)
      case atStart => exact ⟨0, none, 0, Nat.zero_le _, rfl, by rw [Nat.zero_min], by rw [Nat.zero_min]; exact Own.nil _ _ _ _, hn1, (fun i hi => absurd hi (Nat.not_lt_zero i))⟩
      case round =>
        obtain ⟨j, A', c', hj, rfl, rfl, ho, hnw, hall⟩ := hrel
        have HA := hide hall
        have hwr := hnw.size
        clear hall
        by_cases hlt : j < m - 2
        · have hjd : decide ((j : Int) < ((m - 2 : Nat) : Int)) = true := decide_eq_true (by omega)
          obtain ⟨z, hz⟩ : ∃ z, (k.drop 2)[j]? = some z := ⟨_, List.getElem?_eq_getElem (by rw [List.length_drop, HKL.out]; omega)⟩
          have hzk : k.getD (j + 2) 0 = z := by rw [List.getElem?_drop, Nat.add_comm] at hz; rw [List.getD_eq_getElem?_getD, hz]; rfl
          have hzb := (hkB.drop 2).get hz
          have hcz := (hkd.new hnw).bcell hz
          have hxz : bits .xor .u8 (atOf (byt L) j) z = allAt k (byt L) j := by rw [u8_x8 (atOf_b _ hallB j) hzb, allAt, hzk]
          have HZ := hide hz
          have HZK := hide hzk
          clear hz hzk
          by_cases hjN : j < N
          · have hjn : decide ((j : Int) < (N : Int)) = true := decide_eq_true (by omega)
            have hm1 : min j N = j := Nat.min_eq_left (by omega)
            have hm2' : min (j + 1) N = j + 1 := Nat.min_eq_left (by omega)
            rw [hm1] at ho ⊢
            have HM := hide hm2'
            clear hm1 hm2'
            go_wp2_with fail
            go_quiet ((go_at_call 35; exact quiet_same (at_any A n c L j _ (h.new (hnw.then (new_draw wr _))))))
            have hoq := ho.new (new_draw wr nq)
            have hnq := hnw.then (new_draw wr nq)
            have hsq := hnq.size
            generalize wr.drewN nq = wq at *
            clear hcz
            go_wp2_with (at_builtin; refine app_u8 rfl _ _ rfl w.heap.size rfl rfl (hoq.new (New.alloc1 _ _)) (rd_box _ _ _ rfl) (by omega) (by simp; omega) ?_; intro A2 c2 w2 ho2 he2 hA2)
            go_roundw
            case rel =>
              exact ⟨j + 1, A2, c2, by omega, by go_num, by rw [HM.out], by rw [HM.out, List.range_succ, List.map_append, List.map_singleton, ← bts_snoc]; exact ho2, new_app hnq hoq _ he2, fun i h1 h2 => absurd h1 (by omega)⟩
            case measure => simp [intOf]; omega
          · have hjn : decide ((j : Int) < (N : Int)) = false := decide_eq_false (by omega)
            have hm1 : min j N = N := Nat.min_eq_right (by omega)
            have hm2' : min (j + 1) N = N := Nat.min_eq_right (by omega)
            rw [hm1] at ho ⊢
            have HM := hide hm2'
            clear hm1 hm2'
            by_cases hv : allAt k (byt L) j = 0
            · rw [hv] at hxz
              have HV := hide hv
              clear hv
              go_wp2_with fail
              go_quiet ((go_at_call 35; exact quiet_same (at_any A n c L j _ (h.new (hnw.then (new_draw wr _))))))
              go_wp2_with fail
              go_roundw
              case rel => exact ⟨j + 1, A', c', by omega, by go_num, by rw [HM.out], by rw [HM.out]; exact ho.new (new_draw wr nq), hnw.then (new_draw wr nq), fun i h1 h2 => by
                rcases Nat.lt_succ_iff_lt_or_eq.1 h1 with h1 | rfl
                · exact HA.out i h1 h2
                · exact HV.out⟩
              case measure => simp [intOf]; omega
            · have hne : (allAt k (byt L) j != 0) = true := by simp [hv]
              go_wp2_with fail
              go_quiet ((go_at_call 35; exact quiet_same (at_any A n c L j _ (h.new (hnw.then (new_draw wr _))))))
              go_wp2_with fail
              go_ret2
              exact ⟨none, 0, .inr ⟨fun hh => hv (hh.2 j (by rw [HKL.out]; exact hlt) (by rw [HNx.out]; omega)), rfl⟩, hnw.then (new_draw wr nq)⟩
        · have hjd : decide ((j : Int) < ((m - 2 : Nat) : Int)) = false := decide_eq_false (by omega)
          obtain rfl : j = m - 2 := by omega
          have hm1 : min (m - 2) N = N := Nat.min_eq_right (by omega)
          rw [hm1] at ho ⊢
          clear hm1
          go_wp2_with fail
          go_ret2
          exact ⟨A', c', .inl ⟨⟨hOK, fun i h1 h2 => HA.out i (by rw [← HKL.out]; exact h1) (by rw [← HNx.out]; exact h2)⟩, by rw [HNx.out]; rfl, by rw [HNx.out, outOf, HNx.out]; exact ho.rd⟩, hnw⟩
    · have d5 : decide (m - 2 < longOf (byt L)) = true := decide_eq_true (by omega)
      have d6 : decide (((m - 2 : Nat) : Int) < (longOf (byt L) : Int)) = true := decide_eq_true (by omega)
      go_wp2_with fail
      go_ret2
      exact ⟨none, 0, .inr ⟨fun hh => g2 (by have := hh.1.2.2; rw [HKL.out] at this; exact this), rfl⟩, hn1⟩
  · have d4 : decide (((m - 2 : Nat) : Int) < (N : Int)) = true := decide_eq_true (by omega)
    go_wp2_with fail
    go_ret2
    exact ⟨none, 0, .inr ⟨fun hh => g1 (by have := hh.1.2.1; rw [HNx.out, HKL.out] at this; exact this), rfl⟩, hn1⟩
end Go.Proofs.Ytkcdpnmdhmihaaa
