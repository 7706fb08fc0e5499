/- Walks: Find. -/
import Derived.Test.YtkcdpnmdhmihaaaP7
namespace Go.Proofs.Ytkcdpnmdhmihaaa
open Go.RowKit
set_option maxRecDepth 100000

theorem Rows.bad {w : World} {A : Option Addr} {n c : Nat} {L : List Pc} (h : Rows w A n c L) : (n ≤ 15 ∧ ∀ p ∈ L, p.n ≤ 1024) ↔ ((byt L).length ≤ 15 ∧ longOf (byt L) ≤ 1024) := by
  rw [byt_len, h.len]
  exact ⟨fun hh => ⟨hh.1, h.lens 1024 hh.2⟩, fun hh => ⟨hh.1, h.small hh.2⟩⟩
theorem Rows.allB {w : World} {A : Option Addr} {n c : Nat} {L : List Pc} (h : Rows w A n c L) : ∀ b ∈ byt L, isB b := fun b hb => by
  obtain ⟨q, hq, rfl⟩ := List.mem_map.1 hb
  exact (h.one q hq).2
theorem add_zero' (a : Addr) : a.add 0 = a := by simp [Addr.add]
theorem add_off' (a : Addr) (j : Nat) (h : j ≠ 0) : a.add j = ⟨a.block, a.off + j, none⟩ := by unfold Addr.add; rw [if_neg h]
theorem i64_or8 {a x : Int} (ha : 0 ≤ a ∧ a < 256) (hx : 0 ≤ x ∧ x < 256) : bits .or .i64 (a * 256) x = a * 256 + x := by
  obtain ⟨a, rfl⟩ := Int.eq_ofNat_of_zero_le ha.1
  obtain ⟨x, rfl⟩ := Int.eq_ofNat_of_zero_le hx.1
  have h1 : (BitVec.ofInt 64 ((a : Int) * 256)).toNat = a * 256 := by
    rw [show ((a : Int) * 256) = ((a * 256 : Nat) : Int) by omega, BitVec.ofInt_natCast, BitVec.toNat_ofNat]; exact Nat.mod_eq_of_lt (by omega)
  have h2 : (BitVec.ofInt 64 (x : Int)).toNat = x := by
    rw [BitVec.ofInt_natCast, BitVec.toNat_ofNat]; exact Nat.mod_eq_of_lt (by omega)
  show IntKind.i64.wrap ((BitVec.ofInt 64 ((a : Int) * 256) ||| BitVec.ofInt 64 (x : Int)).toNat : Int) = _
  rw [BitVec.toNat_or, h1, h2, show a * 256 = a <<< 8 by rw [Nat.shiftLeft_eq], ← Nat.shiftLeft_add_eq_or_of_lt (by omega), Nat.shiftLeft_eq]
  rw [wrap_i64 (by omega) (by omega)]
  omega

set_option maxHeartbeats 400000 in
theorem find_f (B : Option Addr) (m d : Nat) (k : List Int) (A : Option Addr) (n c : Nat) (L : List Pc) (w : World) (hk : Rd w 1 B m d (bts k)) (h : Rows w A n c L) (hf : ¬ okF k (byt L)) :
    Calls Try.prog 13 #[.slice B m d, .slice A n c] w fun e w' => e = .returned (.tuple #[.slice none 0 0, .int .i64 360]) ∧ w = w' := by
  have hkl := hk.blen
  by_cases h1 : n ≤ 15 ∧ ∀ p ∈ L, p.n ≤ 1024
  · have h1' := h.bad.1 h1
    by_cases h2 : m < 2
    · have d2 : decide ((m : Int) < 2) = true := decide_eq_true (by omega)
      go_enter Try.func13, Try.ntmps13
      go_wp2_with fail
      refine (may_yes A n c 15 L _ h h1.1 h1.2).mono ?_
      rintro e w1 ⟨rfl, rfl⟩
      go_wp2_with fail
      go_ret2
      exact ⟨rfl, rfl⟩
    · have d2 : decide ((m : Int) < 2) = false := decide_eq_false (by omega)
      have d3 : decide (1026 < (m : Int)) = true := decide_eq_true (by
        have : ¬ m ≤ 1026 := fun hm => hf ⟨h1'.1, h1'.2, by omega, by omega⟩
        omega)
      go_enter Try.func13, Try.ntmps13
      go_wp2_with fail
      refine (may_yes A n c 15 L _ h h1.1 h1.2).mono ?_
      rintro e w1 ⟨rfl, rfl⟩
      go_wp2_with fail
      go_ret2
      exact ⟨rfl, rfl⟩
  · go_enter Try.func13, Try.ntmps13
    go_wp2_with fail
    refine (may_no A n c 15 L _ h h1).mono ?_
    rintro e w1 ⟨rfl, rfl⟩
    go_wp2_with fail
    go_ret2
    exact ⟨rfl, rfl⟩

set_option maxHeartbeats 1000000 in
theorem find_h (B : Option Addr) (m d : Nat) (k : List Int) (A : Option Addr) (n c : Nat) (L : List Pc) (w : World) (hk : Rd w 1 B m d (bts k)) (hkB : isB k) (h : Rows w A n c L) (hf : okF k (byt L)) :
    Calls Try.prog 13 #[.slice B m d, .slice A n c] w fun e w' => ∃ (A' : Option Addr) (c' : Nat),
      ((okA k (byt L) ∧ e = .returned (.tuple #[.slice A' (xorN k (byt L)) c', .int .i64 0]) ∧ Rd w' 1 A' (xorN k (byt L)) c' (bts (outOf k (byt L)))) ∨ (¬ okA k (byt L) ∧ e = .returned (.tuple #[.slice none 0 0, .int .i64 360]))) ∧ New w w' := by
  have hkl := hk.blen
  have h1 := h.bad.2 ⟨hf.1, hf.2.1⟩
  have hlong := hf.2.1
  have hm2 := hf.2.2.1
  have hm26 := hf.2.2.2
  rw [hkl] at hm2 hm26
  have hcap := hk.cap
  have i0 : 0 < m := by omega
  have i1 : 1 < m := by omega
  have d2 : decide ((m : Int) < 2) = false := decide_eq_false (by omega)
  have d3 : decide (1026 < (m : Int)) = false := decide_eq_false (by omega)
  have hsm := h.small (m := 1030) (by omega)
  have hln := h.lens_lt hsm
  obtain ⟨bd, rfl⟩ := hk.some (by omega)
  obtain ⟨x, hx⟩ : ∃ x, k[0]? = some x := ⟨_, List.getElem?_eq_getElem (by omega)⟩
  obtain ⟨y, hy⟩ : ∃ y, k[1]? = some y := ⟨_, List.getElem?_eq_getElem (by omega)⟩
  have hxb := hkB.get hx
  have hyb := hkB.get hy
  have s1 := run_cut_l (P := Try.prog) 23 5 1 Try.underlying23 size_u8 (some bd) m d 2 2 rfl (by omega) .i64
  go_enter Try.func13, Try.ntmps13
  go_wp2_with fail
  refine (may_yes A n c 15 L _ h h1.1 h1.2).mono ?_
  rintro e w1 ⟨rfl, rfl⟩
  go_wp2_with fail
  refine (fold_any A n c L _ h hsm).mono ?_
  rintro e w1 ⟨Af, cf, rfl, hof, hnf⟩
  have hk1 := hk.new hnf
  have c0 : w1.cell? bd = some (.int .u8 x) := by have := hk1.bcell hx; rwa [add_zero'] at this
  have c1 : w1.cell? ⟨bd.block, bd.off + 1, none⟩ = some (.int .u8 y) := by have := hk1.bcell hy; rwa [add_off' _ 1 (by omega)] at this
  obtain ⟨x, rfl⟩ := Int.eq_ofNat_of_zero_le hxb.1
  obtain ⟨y, rfl⟩ := Int.eq_ofNat_of_zero_le hyb.1
  have e1 := i64_or8 hxb hyb
  obtain ⟨N, hN⟩ : ∃ N, N = lensOf (byt L) ^^^ (x * 256 + y) := ⟨_, rfl⟩
  have e2 : bits .xor .i64 (lensOf (byt L) : Int) ((x : Int) * 256 + y) = (N : Int) := by have := i64_xor_nat (lensOf (byt L)) (x * 256 + y) (by omega) (by omega); rw [hN]; rwa [Int.natCast_add, Int.natCast_mul] at this
  have hNx : xorN k (byt L) = N := by rw [hN]; unfold xorN; simp [List.getD_eq_getElem?_getD, hx, hy]
  have hN16 : N < 65536 := by rw [hN]; exact Nat.xor_lt_two_pow (n := 16) (by omega) (by omega)
  have hwx := wrap_i64 (n := (x : Int)) (by omega) (by omega)
  have hwx2 := wrap_i64 (n := (x : Int) * 256) (by omega) (by omega)
  have hwy := wrap_i64 (n := (y : Int)) (by omega) (by omega)
  have hx2 := hxb.2
  have hy2 := hyb.2
  have i2 : decide (1 < m) = true := decide_eq_true i1
  have i3 : (1 : Int) < m := by omega
  have HX := hide hx
  have HY := hide hy
  have HF := hide hf
  have HNx := hide hNx
  clear hx hy hf hN hNx
  by_cases g : N ≤ m - 2 ∧ longOf (byt L) ≤ m - 2
  · have g1 := g.1
    have d4 : decide (((m - 2 : Nat) : Int) < (N : Int)) = false := decide_eq_false (by omega)
    have d5 : decide (((m - 2 : Nat) : Int) < (longOf (byt L) : Int)) = false := decide_eq_false (by omega)
    go_wp2_with fail
    go_quiet (fail)
    clear c0 c1 e1 e2 hwx hwx2 hwy
    obtain ⟨w2, hw2⟩ : ∃ w2, w2 = w1.drewN nq := ⟨_, rfl⟩
    have hn2 : New w1 w2 := by rw [hw2]; (repeat (first | exact Ext.refl _ _ | assumption | apply Ext.alloc | apply Ext.drewN | apply Ext.drew | refine Ext.setCell ?_ (fun h => by first | rfl | exact absurd h (by dsimp only; omega)) _))
    rw [← hw2]
    have HW := hide hw2
    clear hw2
    go_wp2_with fail
    have hkd := (hk1.new hn2).bdrop 2 (by omega)
    have hof2 := hof.new hn2
    obtain ⟨L2, hL2⟩ : ∃ L2 : List Pc, L2 = [⟨Af, longOf (byt L), cf, foldOf (byt L)⟩, ⟨sl (some bd) d 2 1, m - 2, d - 2, k.drop 2⟩] := ⟨_, rfl⟩
    have hR2 : Rows (w2.alloc (.cells #[.slice Af (longOf (byt L)) cf, .slice (sl (some bd) d 2 1) (m - 2) (d - 2)] 23)) (some ⟨w2.heap.size, 0, none⟩) 2 2 L2 := by
      subst hL2
      refine ⟨rd_lit w2 23 1 2 #[.slice Af (longOf (byt L)) cf, .slice (sl (some bd) d 2 1) (m - 2) (d - 2)] (by omega) rfl (by simp [Value.oneCell']), ?_⟩
      intro p hp
      rcases List.mem_cons.1 hp with rfl | hp
      · exact ⟨hof2.rd.new (by (repeat (first | exact Ext.refl _ _ | assumption | apply Ext.alloc | apply Ext.drewN | apply Ext.drew | refine Ext.setCell ?_ (fun h => by first | rfl | exact absurd h (by dsimp only; omega)) _))), foldOf_b _ h.allB⟩
      · obtain rfl := List.mem_singleton.1 hp
        exact ⟨hkd.new (by (repeat (first | exact Ext.refl _ _ | assumption | apply Ext.alloc | apply Ext.drewN | apply Ext.drew | refine Ext.setCell ?_ (fun h => by first | rfl | exact absurd h (by dsimp only; omega)) _))), hkB.drop 2⟩
    have hs2 : ∀ p ∈ L2, p.n ≤ 1030 := by
      subst hL2
      intro p hp
      rcases List.mem_cons.1 hp with rfl | hp
      · show longOf (byt L) ≤ 1030; omega
      · obtain rfl := List.mem_singleton.1 hp
        show m - 2 ≤ 1030; omega
    have hb2 : byt L2 = [foldOf (byt L), k.drop 2] := by subst hL2; rfl
    have hft : foldOf (byt L2) = (List.range (m - 2)).map (allAt k (byt L)) := by rw [hb2, fold_two k hkB (byt L) h.allB (by rw [hkl]; exact g.2), hkl]
    have hlt : longOf (byt L2) = m - 2 := by rw [← foldOf_len, hft]; simp
    clear hL2 hb2
    refine (fold_any _ 2 2 L2 _ hR2 hs2).mono ?_
    rintro e w3 ⟨A3, c3, rfl, ho3, hn3⟩
    rw [hlt, hft] at ho3
    rw [hlt]
    have hr3 := ho3.rd
    have hc3 := hr3.cap
    have s3 := run_cut_l (P := Try.prog) 23 5 1 Try.underlying23 size_u8 A3 (m - 2) c3 N N rfl g1 .i64
    have s4 := run_cut_m (P := Try.prog) 23 5 1 Try.underlying23 size_u8 A3 (m - 2) c3 N N N N rfl rfl (Nat.le_refl _) (by omega) .i64 .i64
    have hdr := hr3.bdrop N g1
    have HL := hide hft
    have HT := hide hlt
    have HG := hide g
    clear hft hlt hkl g
    have hOK : okG k (byt L) := ⟨HF.out, by rw [HNx.out, hk.blen]; exact g1, by rw [hk.blen]; exact HG.out.2⟩
    have hw13 : New w w3 := hnf.then (hn2.then ((New.alloc1 w2 _).then hn3))
    by_cases hall : ∀ j, j < m - 2 → N ≤ j → allAt k (byt L) j = 0
    · have HA := hide hall
      clear hall
      go_wp2_with fail
      refine (contains_bytes _ _ _ _ _ hdr false ⟨(fun h => by cases h), ?_⟩).mono ?_
      · rintro ⟨x, hx, h0⟩
        exfalso
        obtain ⟨i, hi⟩ := List.getElem?_of_mem hx
        rw [List.getElem?_drop, List.getElem?_map] at hi
        obtain ⟨j, hj, rfl⟩ := Option.map_eq_some_iff.1 hi
        have hlt := (List.getElem?_eq_some_iff.1 hj).1
        rw [List.length_range] at hlt
        rw [List.getElem?_range hlt] at hj
        cases hj
        exact h0 (HA.out _ hlt (by omega))
      rintro e w4 ⟨rfl, rfl⟩
      go_wp2_with fail
      go_ret2
      refine ⟨A3, N, .inl ⟨⟨hOK, fun j h1 h2 => HA.out j (by rw [← hk.blen]; exact h1) (by rw [← HNx.out]; exact h2)⟩, by rw [HNx.out]; rfl, ?_⟩, hw13⟩
      have := hr3.btake N g1
      rw [← List.map_take, List.take_range, Nat.min_eq_left g1] at this
      unfold outOf
      rw [HNx.out]
      exact ⟨this.len, Nat.le_refl _, by have := hr3.top; omega, fun e => by have := hr3.n0 e; omega, this.one, this.cell⟩
    · have HA := hide hall
      clear hall
      go_wp2_with fail
      refine (contains_bytes _ _ _ _ _ hdr true ⟨fun _ => ?_, (fun _ => rfl)⟩).mono ?_
      · have hA := HA.out
        obtain ⟨j, hj⟩ := Classical.not_forall.1 hA
        obtain ⟨h1, hj⟩ := Classical.not_imp.1 hj
        obtain ⟨h2, hj⟩ := Classical.not_imp.1 hj
        refine ⟨allAt k (byt L) j, List.mem_of_getElem? (i := j - N) ?_, hj⟩
        rw [List.getElem?_drop, show N + (j - N) = j by omega, List.getElem?_map, List.getElem?_range h1]
        rfl
      rintro e w4 ⟨rfl, rfl⟩
      go_wp2_with fail
      go_ret2
      exact ⟨none, 0, .inr ⟨fun hh => HA.out (fun j h1 h2 => hh.2 j (by rw [hk.blen]; exact h1) (by rw [HNx.out]; exact h2)), rfl⟩, hw13⟩
  · have HG := hide g
    have hno : ¬ okA k (byt L) := fun hh => g ⟨by have := hh.1.2.1; rw [HNx.out, hkl] at this; exact this, by have := hh.1.2.2; rw [hkl] at this; exact this⟩
    by_cases g1 : N ≤ m - 2
    · have d4 : decide (((m - 2 : Nat) : Int) < (N : Int)) = false := decide_eq_false (by omega)
      have d5 : decide (m - 2 < longOf (byt L)) = true := decide_eq_true (by omega)
      clear g
      go_wp2_with fail
      go_quiet (fail)
      go_wp2_with fail
      go_ret2
      exact ⟨none, 0, .inr ⟨hno, rfl⟩, hnf.then (by (repeat (first | exact Ext.refl _ _ | assumption | apply Ext.alloc | apply Ext.drewN | apply Ext.drew | refine Ext.setCell ?_ (fun h => by first | rfl | exact absurd h (by dsimp only; omega)) _)))⟩
    · have d4 : decide (((m - 2 : Nat) : Int) < (N : Int)) = true := decide_eq_true (by omega)
      clear g
      go_wp2_with fail
      go_quiet (fail)
      go_wp2_with fail
      go_ret2
      exact ⟨none, 0, .inr ⟨hno, rfl⟩, hnf.then (by (repeat (first | exact Ext.refl _ _ | assumption | apply Ext.alloc | apply Ext.drewN | apply Ext.drew | refine Ext.setCell ?_ (fun h => by first | rfl | exact absurd h (by dsimp only; omega)) _)))⟩
end Go.Proofs.Ytkcdpnmdhmihaaa
