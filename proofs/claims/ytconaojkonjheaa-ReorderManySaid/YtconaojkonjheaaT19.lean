/- The law on how many numbers there may be. -/
import Derived.Test.YtconaojkonjheaaT18
namespace Go.Proofs.Ytconaojkonjheaa
open Go.RowKit Go.Maps
set_option maxRecDepth 100000

/-- The numbers below k. -/
def iot (k : Nat) : List Int := (List.range k).map Int.ofNat
theorem iot_succ (k : Nat) : iot (k + 1) = iot k ++ [(k : Int)] := by unfold iot; rw [List.range_succ, List.map_append]; rfl
theorem iot_len (k : Nat) : (iot k).length = k := by simp [iot]
theorem mem_iot (k : Nat) (x : Int) : x ∈ iot k ↔ 0 ≤ x ∧ x < k := by
  unfold iot
  rw [List.mem_map]
  constructor
  · rintro ⟨i, hi, rfl⟩
    have := List.mem_range.1 hi
    exact ⟨by simp, by show (i : Int) < k; omega⟩
  · rintro ⟨h1, h2⟩
    exact ⟨x.toNat, List.mem_range.2 (by omega), by show ((x.toNat : Nat) : Int) = x; omega⟩
theorem mex_iot (k : Nat) : mexOf (iot k) = k := (mexOf_spec _).uniq ⟨fun h => by have := (mem_iot k k).1 h; omega, fun j hj => (mem_iot k j).2 ⟨by omega, by omega⟩⟩
theorem may_iot (k : Nat) (hk : k ≤ 100000) : ∀ x ∈ iot k, mayN x := fun x hx => by
  have := (mem_iot k x).1 hx
  exact ⟨this.1, by omega⟩
theorem ext_iot (k : Nat) : extF (iot k) k = 0 := by
  unfold extF
  rw [if_neg (fun h => by have := (mem_iot k k).1 h; omega), if_neg (fabove_none (fun z hz => by have := (mem_iot k z).1 hz; omega))]
theorem RP_iot (k : Nat) : RP (iot k) = ⟨k, 0, 0, 0, 0, 0⟩ := by
  induction k with
  | zero => exact RP_nil
  | succ k ih =>
    have hlate : lateF (iot k) k = 0 := by
      unfold lateF
      rw [if_neg (fun h => by have := (mem_iot k k).1 h; omega), lmax_zero (fun z hz => by have := (mem_iot k z).1 hz; omega)]
    have hheld : heldF (iot k ++ [(k : Int)]) = 0 := by
      rw [← iot_succ]
      have h1 := heldF_nonneg (iot (k + 1))
      have h2 := (heldF_eq (iot (k + 1)) (fun x hx => ((mem_iot _ x).1 hx).1)).1
      have h3 := seenOf_len (iot (k + 1))
      rw [mex_iot] at h2
      rw [iot_len] at h3
      omega
    rw [iot_succ, RP_snoc, ih, ext_iot, hlate, hheld, if_neg (fun h => by have := (mem_iot k k).1 h; omega)]
    rfl

set_option maxHeartbeats 4000000 in
theorem law_many_walk (m : Nat) (hm : m < 256) (w : World) :
    Calls Try.prog 4 #[.int .u8 m] w fun e w' => e = .returned (.bool true) ∧ New w w' := by
  obtain ⟨n, hn⟩ : ∃ n, n = 4095 + m % 3 := ⟨_, rfl⟩
  have hn1 : 4095 ≤ n := by omega
  have hn2 : n ≤ 4097 := by omega
  have hnz : 4095 + (m : Int) % 3 = (n : Nat) := by omega
  have HN := hide hn
  clear hn
  go_enter Try.func4, Try.ntmps4
  go_wp2_with fail
  refine (new_any _).mono ?_
  rintro e w1 ⟨p, b, rfl, hms, hp, hb, hw1⟩
  have hR : Bes w w1 p b none 0 0 [] [] none 0 0 [] := ⟨hms, Own.nil _ _ _ _, (fun k hk => absurd hk (inA_none k)), hp, hb, (fun k hk => absurd hk (inA_none k)), hw1⟩
  clear hms hp hb hw1
  go_wp2_with fail
  go_loopw [4, 6] (fun s4 s wr => ∃ k : Nat, k ≤ n ∧ s = .int .i64 (k : Nat) ∧ ∃ A n1 c hs Ao co, s4 = .slice Ao k co ∧ Bes w wr p b A n1 c (iot (min k 4096)) hs Ao k co (iot k)) (fun _ s _ => n - (intOf s).toNat)
  case atStart => exact ⟨0, Nat.zero_le _, rfl, none, 0, 0, [], none, 0, rfl, hR⟩
  case round =>
    clear hR
    obtain ⟨k, hk, rfl, A1, n1, c1, hs, Ao, co, rfl, hR⟩ := hrel
    by_cases hkn : k < n
    · have d1 : decide ((k : Int) < n) = true := decide_eq_true (by omega)
      have d2 : decide (k < n) = true := decide_eq_true (by omega)
      have hsz := hR.nw.size
      go_wp2_with (at_builtin; refine app_i rfl _ _ rfl w.heap.size rfl rfl (hR.ow.new (New.alloc1 _ _)) (rd_box _ _ _ rfl) (by omega) (by simp; omega) ?_; intro A3 c3 w3 ho3 he3 hA3)
      have hR3 := hR.app (out' := iot (k + 1)) (by rw [iot_succ, vsi_append]; exact ho3) he3 hA3
      have hmayk : mayN (k : Int) := ⟨by omega, by omega⟩
      by_cases h4 : k < 4096
      · have e4 : min k 4096 = k := by omega
        have e5 : min (k + 1) 4096 = k + 1 := by omega
        rw [e4] at hR3
        have d3 : decide ((k : Int) < 4096) = true := decide_eq_true (by omega)
        have d4 : decide ((4096 : Int) ≤ k) = false := decide_eq_false (by omega)
        refine (Add_yes hR3.ms k hmayk (by rw [iot_len]; exact h4) (may_iot k (by omega))).mono ?_
        rintro e w4 ⟨rfl, A4, n4, c4, hs4, hms4, he4, hf4⟩
        rw [ext_iot]
        have hR4 := hR3.add hms4 he4 hf4
        rw [← iot_succ] at hR4
        go_wp2_with fail
        refine ⟨⟨k + 1, by omega, by go_num, A4, n4, c4, hs4, A3, c3, rfl, ?_⟩, by simp [intOf]; omega⟩
        rw [e5]
        exact hR4
      · have e4 : min k 4096 = 4096 := by omega
        have e5 : min (k + 1) 4096 = 4096 := by omega
        rw [e4] at hR3
        have d3 : decide ((k : Int) < 4096) = false := decide_eq_false (by omega)
        have d4 : decide ((4096 : Int) ≤ k) = true := decide_eq_true (by omega)
        refine (Add_many hR3.ms k hmayk (by rw [iot_len]; omega) (by rw [iot_len]; omega)).mono ?_
        rintro e w4 ⟨rfl, rfl⟩
        go_wp2_with fail
        refine ⟨⟨k + 1, by omega, by go_num, A1, n1, c1, hs, A3, c3, rfl, ?_⟩, by simp [intOf]; omega⟩
        rw [e5]
        exact hR3
    · have d1 : decide ((k : Int) < n) = false := decide_eq_false (by omega)
      have d2 : decide (k < n) = false := decide_eq_false (by omega)
      obtain rfl : k = n := by omega
      go_wp2_with fail
      refine (of_any Ao k co (iot k) _ hR.ow.rd).mono ?_
      rintro e w5 ⟨rfl, hn5⟩
      by_cases h4 : 4096 < k
      · have hnm : ¬ mayL (iot k) := fun h => by have := h.1; rw [iot_len] at this; omega
        have he : errL (iot k) = 3 := by unfold errL; rw [if_pos (by rw [iot_len]; omega)]
        have d3 : decide ((4096 : Int) < k) = true := decide_eq_true (by omega)
        rw [if_neg hnm, he]
        unfold rpV
        have e4 : min k 4096 = 4096 := by omega
        rw [e4] at hR
        go_wp2_with fail
        have hn6 : New wr (w5.alloc (.cells #[.int .i64 0, .int .i64 0, .int .i64 0, .int .i64 0, .int .i64 0, .int .i64 0] 25)) := hn5.then (New.alloc1 _ _)
        refine (next_m (hR.ms.new hn6)).mono ?_
        rintro e w6 ⟨rfl, rfl⟩
        rw [mex_iot]
        go_wp2_with fail
        refine (awake_any _).mono ?_
        rintro e w7 ⟨rfl, hn7⟩
        go_wp2_with fail
        go_ret
        exact ⟨rfl, (hR.nw.then hn6).then hn7⟩
      · have hym : mayL (iot k) := ⟨by rw [iot_len]; omega, may_iot k (by omega)⟩
        have d3 : decide ((4096 : Int) < k) = false := decide_eq_false (by omega)
        have e4 : min k 4096 = k := by omega
        rw [e4] at hR
        rw [if_pos hym, errL_yes hym, RP_iot]
        unfold rpV
        go_wp2_with fail
        have hn6 : New wr (w5.alloc (.cells #[.int .i64 k, .int .i64 0, .int .i64 0, .int .i64 0, .int .i64 0, .int .i64 0] 25)) := hn5.then (New.alloc1 _ _)
        have hbb := blk_new w5 (.cells #[.int .i64 k, .int .i64 0, .int .i64 0, .int .i64 0, .int .i64 0, .int .i64 0] 25)
        generalize w5.alloc (.cells #[.int .i64 k, .int .i64 0, .int .i64 0, .int .i64 0, .int .i64 0, .int .i64 0] 25) = w6 at *
        have hms6 := hR.ms.new hn6
        have hq : ∀ (i : Nat) (v : Value), w6.cell? ⟨w5.heap.size, i, none⟩ = some v → ∀ x : Lat (fun _ => False) w6, x.W.cell? ⟨w5.heap.size, i, none⟩ = some v := fun i v hc x => New.cell x.ext hc
        have q0 := hq 0 _ ((blk_cell hbb 0).trans rfl)
        have q1 := hq 1 _ ((blk_cell hbb 1).trans rfl)
        have q2 := hq 2 _ ((blk_cell hbb 2).trans rfl)
        have q3 := hq 3 _ ((blk_cell hbb 3).trans rfl)
        have q4 := hq 4 _ ((blk_cell hbb 4).trans rfl)
        have q5 := hq 5 _ ((blk_cell hbb 5).trans rfl)
        clear hq
        refine mix_start (fun _ => False) w6 (by kernel_rfl) ?_
        refine mix_batch [0, 1, 2, 3, 4, 5, 6, 7, 8, 9, 11] (by kernel_rfl) 13 _ _ _ (by kernel_rfl) (lat_mem (by (repeat (first | exact Ext.refl _ _ | assumption | apply Ext.alloc | apply Ext.drewN | apply Ext.drew | refine Ext.setCell ?_ (fun h => by first | rfl | exact absurd h (by dsimp only; omega)) _)))) ?_
        simp only [pickOps, List.getD_cons_zero, List.getD_cons_succ]
        repeat (go_big_quiet_step (fail))
        refine wpQuiet_nil ?_
        refine mix_loud (i := 10) (by kernel_rfl) rfl (fun K hK => ?_)
        go_simp
        have h6d : New w6 w6.drew := by (repeat (first | exact Ext.refl _ _ | assumption | apply Ext.alloc | apply Ext.drewN | apply Ext.drew | refine Ext.setCell ?_ (fun h => by first | rfl | exact absurd h (by dsimp only; omega)) _))
        have hrep := report_m (hms6.new h6d)
        rw [RP_iot] at hrep
        unfold rpV at hrep
        refine hrep.mono ?_
        rintro e w7 ⟨rfl, hn7⟩
        have h67 := h6d.then hn7
        refine hK.out _ _ (lat_mem (by (repeat (first | exact Ext.refl _ _ | assumption | apply Ext.alloc | apply Ext.drewN | apply Ext.drew | refine Ext.setCell ?_ (fun h => by first | rfl | exact absurd h (by dsimp only; omega)) _)))) ?_
        clear hK
        refine mix_batch [12, 13, 14, 15, 17] (by kernel_rfl) 7 _ _ _ (by kernel_rfl) (lat_mem (by (repeat (first | exact Ext.refl _ _ | assumption | apply Ext.alloc | apply Ext.drewN | apply Ext.drew | refine Ext.setCell ?_ (fun h => by first | rfl | exact absurd h (by dsimp only; omega)) _)))) ?_
        simp only [pickOps, List.getD_cons_zero, List.getD_cons_succ]
        repeat (go_big_quiet_step (fail))
        refine wpQuiet_nil ?_
        refine mix_loud (i := 16) (by kernel_rfl) rfl (fun K hK => ?_)
        go_simp
        refine (next_m (hms6.new h67)).mono ?_
        rintro e w8 ⟨rfl, hw8⟩
        subst hw8
        rw [mex_iot]
        refine hK.out _ _ (lat_mem (by (repeat (first | exact Ext.refl _ _ | assumption | apply Ext.alloc | apply Ext.drewN | apply Ext.drew | refine Ext.setCell ?_ (fun h => by first | rfl | exact absurd h (by dsimp only; omega)) _)))) ?_
        clear hK
        refine mix_batch [18, 19, 20] (by kernel_rfl) 3 _ _ _ (by kernel_rfl) (lat_mem (by (repeat (first | exact Ext.refl _ _ | assumption | apply Ext.alloc | apply Ext.drewN | apply Ext.drew | refine Ext.setCell ?_ (fun h => by first | rfl | exact absurd h (by dsimp only; omega)) _)))) ?_
        simp only [pickOps, List.getD_cons_zero, List.getD_cons_succ]
        repeat (go_big_quiet_step (fail))
        refine wpQuiet_nil ?_
        refine mix_loud (i := 21) (by kernel_rfl) rfl (fun K hK => ?_)
        go_simp
        refine (awake_any _).mono ?_
        rintro e w9 ⟨rfl, hn9⟩
        have h69 := h67.then hn9
        refine hK.out _ _ (lat_mem (by (repeat (first | exact Ext.refl _ _ | assumption | apply Ext.alloc | apply Ext.drewN | apply Ext.drew | refine Ext.setCell ?_ (fun h => by first | rfl | exact absurd h (by dsimp only; omega)) _)))) ?_
        clear hK
        refine mix_batch [22, 23] (by kernel_rfl) 0 _ _ _ (by kernel_rfl) (lat_mem (by (repeat (first | exact Ext.refl _ _ | assumption | apply Ext.alloc | apply Ext.drewN | apply Ext.drew | refine Ext.setCell ?_ (fun h => by first | rfl | exact absurd h (by dsimp only; omega)) _)))) ?_
        simp only [pickOps, List.getD_cons_zero, List.getD_cons_succ]
        repeat (go_big_quiet_step (fail))
        refine wpQuiet_nil ?_
        refine wpAnyH_done (by kernel_rfl) (NoPanic.normal ?_) _
        clear q0 q1 q2 q3 q4 q5
        go_wp2_with fail
        go_ret
        exact ⟨rfl, (hR.nw.then hn6).then h69⟩

theorem law_many (m : Int) (w : World) (hm : (Lit.int .u8 m).wf = true) :
    Calls Try.prog 4 #[.int .u8 m] w fun e w' => e = .returned (.bool true) ∧ New w w' := by
  have hb := bounds_u8 hm
  obtain ⟨m, rfl⟩ := Int.eq_ofNat_of_zero_le hb.1
  exact law_many_walk m (by omega) w
end Go.Proofs.Ytconaojkonjheaa
