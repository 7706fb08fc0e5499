/- Walks: the document's small words on pieces. -/
import Derived.Test.YtkcdpnmdhmihaaaP1
namespace Go.Proofs.Ytkcdpnmdhmihaaa
open Go.RowKit
set_option maxRecDepth 100000

set_option maxHeartbeats 400000 in
theorem lengths_any (A : Option Addr) (n c : Nat) (L : List Pc) (w : World) (h : Rows w A n c L) (hb : ∀ p ∈ L, p.n ≤ 1030) :
    Calls Try.prog 33 #[.slice A n c] w fun e w' => e = .returned (.int .i64 (lensOf (byt L))) ∧ w = w' := by
  have hlen := h.len
  have hcap := h.rd.cap
  have htop := h.rd.top
  go_enter Try.func33, Try.ntmps33
  go_wp2
  go_loop [3, 4] (fun v i => ∃ k : Nat, k ≤ n ∧ i = .int .i64 k ∧ v = .int .i64 (lensOf ((byt L).take k) : Nat)) (fun _ i => n - (intOf i).toNat)
  case atStart => exact ⟨0, Nat.zero_le _, rfl, rfl⟩
  case round =>
    obtain ⟨k, hk, rfl, rfl⟩ := hrel
    by_cases hlt : k < n
    · obtain ⟨ad, p, rfl, hp, hc, _, _, hpn⟩ := h.at_ hlt
      have hs := hide (lensOf_step (byt_get hp))
      have hx := i64_xor_nat (lensOf ((byt L).take k)) p.n (by
        have := lensOf_lt ((byt L).take k) 11 (fun b hb' => by
          obtain ⟨q, hq, rfl⟩ := List.mem_map.1 (List.mem_of_mem_take hb')
          have := (h.one q hq).1.blen
          have := hb q hq
          omega)
        omega) (by have := hb p (List.mem_of_getElem? hp); omega)
      have HP := hide hp
      have HN := hide hpn
      clear hp hpn
      go_wp2
      go_round
      case rel => exact ⟨k + 1, by omega, by go_num, by rw [hs.out, HN.out]⟩
      case measure => simp [intOf]; omega
    · go_wp2
      obtain rfl : k = n := by omega
      go_ret
      rw [List.take_of_length_le (by rw [byt_len]; omega)]
      exact ⟨rfl, rfl⟩

set_option maxHeartbeats 400000 in
theorem longest_any (A : Option Addr) (n c : Nat) (L : List Pc) (w : World) (h : Rows w A n c L) :
    Calls Try.prog 34 #[.slice A n c] w fun e w' => e = .returned (.int .i64 (longOf (byt L))) ∧ w = w' := by
  have hlen := h.len
  have hcap := h.rd.cap
  have htop := h.rd.top
  go_enter Try.func34, Try.ntmps34
  go_wp2
  go_loop [3, 4] (fun v i => ∃ k : Nat, k ≤ n ∧ i = .int .i64 k ∧ v = .int .i64 (longOf ((byt L).take k) : Nat)) (fun _ i => n - (intOf i).toNat)
  case atStart => exact ⟨0, Nat.zero_le _, rfl, rfl⟩
  case round =>
    obtain ⟨k, hk, rfl, rfl⟩ := hrel
    by_cases hlt : k < n
    · obtain ⟨ad, p, rfl, hp, hc, _, _, hpn⟩ := h.at_ hlt
      have hs := hide (longOf_step (byt_get hp))
      have HP := hide hp
      have HN := hide hpn
      clear hp hpn
      go_wp2
      go_round
      case rel => exact ⟨k + 1, by omega, by go_num, by rw [hs.out, HN.out]; go_num⟩
      case measure => simp [intOf]; omega
    · go_wp2
      obtain rfl : k = n := by omega
      go_ret
      rw [List.take_of_length_le (by rw [byt_len]; omega)]
      exact ⟨rfl, rfl⟩

set_option maxHeartbeats 400000 in
theorem at_any (A : Option Addr) (n c : Nat) (L : List Pc) (j : Nat) (w : World) (h : Rows w A n c L) :
    Calls Try.prog 35 #[.slice A n c, .int .i64 j] w fun e w' => e = .returned (.int .u8 (atOf (byt L) j)) ∧ w = w' := by
  have hlen := h.len
  have hcap := h.rd.cap
  have htop := h.rd.top
  go_enter Try.func35, Try.ntmps35
  go_wp2
  go_loop [5, 6] (fun v i => ∃ k : Nat, k ≤ n ∧ i = .int .i64 k ∧ v = .int .u8 (atOf ((byt L).take k) j)) (fun _ i => n - (intOf i).toNat)
  case atStart => exact ⟨0, Nat.zero_le _, rfl, rfl⟩
  case round =>
    obtain ⟨k, hk, rfl, rfl⟩ := hrel
    by_cases hlt : k < n
    · obtain ⟨ad, p, rfl, hp, hc, hr, hB, hpn⟩ := h.at_ hlt
      have hs := hide (atOf_step j (byt_get hp))
      have hb := atOf_b ((byt L).take k) (fun b hb' => by
          obtain ⟨q, hq, rfl⟩ := List.mem_map.1 (List.mem_of_mem_take hb')
          exact (h.one q hq).2) j
      have HP := hide hp
      have HN := hide hpn
      clear hp hpn
      by_cases hj : j < p.n
      · obtain ⟨ad2, ha2⟩ := hr.some (by omega)
        rw [ha2] at hr hc
        have hg : p.b[j]? = some (p.b.getD j 0) := by rw [List.getD_eq_getElem?_getD, List.getElem?_eq_getElem (by rw [HN.out]; exact hj)]; rfl
        have hcb := hr.bcell hg
        have hx := u8_x8 hb (hB.getD j)
        have HG := hide hg
        have H2 := hide ha2
        clear hg ha2
        generalize p.b.getD j 0 = y at *
        go_wp2
        go_round
        case rel => exact ⟨k + 1, by omega, by go_num, by rw [hs.out, if_pos (by rw [HN.out]; exact hj)]⟩
        case measure => simp [intOf]; omega
      · go_wp2
        go_round
        case rel => exact ⟨k + 1, by omega, by go_num, by rw [hs.out, if_neg (by rw [HN.out]; exact hj)]⟩
        case measure => simp [intOf]; omega
    · go_wp2
      obtain rfl : k = n := by omega
      go_ret
      rw [List.take_of_length_le (by rw [byt_len]; omega)]
      exact ⟨rfl, rfl⟩

def isP (L : List Pc) : Prop := 1 ≤ L.length ∧ L.length ≤ 16 ∧ longOf (byt L) ≤ 1024
instance (L : List Pc) : Decidable (isP L) := by unfold isP; infer_instance

set_option maxHeartbeats 400000 in
theorem is_any (A : Option Addr) (n c : Nat) (L : List Pc) (w : World) (h : Rows w A n c L) :
    Calls Try.prog 17 #[.slice A n c] w fun e w' => e = .returned (.bool (decide (isP L))) ∧ w = w' := by
  have hlen := h.len
  have hcap := h.rd.cap
  have htop := h.rd.top
  by_cases h1 : 1 ≤ n
  · by_cases h2 : n ≤ 16
    · have d2 : decide ((n : Int) ≤ 16) = true := decide_eq_true (by omega)
      go_enter Try.func17, Try.ntmps17
      go_wp2_with (go_at_call 34; refine (longest_any A n c L _ h).mono ?_; rintro e w1 ⟨rfl, rfl⟩)
      go_ret
      refine ⟨?_, rfl⟩
      rw [show decide (isP L) = decide ((longOf (byt L) : Int) ≤ 1024) from decide_eq_decide.2 (by unfold isP; omega)]
      rfl
    · have d2 : decide ((n : Int) ≤ 16) = false := decide_eq_false (by omega)
      go_enter Try.func17, Try.ntmps17
      go_wp2_with fail
      go_ret
      exact ⟨by rw [decide_eq_false (show ¬ isP L from fun hh => by have := hh.2.1; omega)]; rfl, rfl⟩
  · have d2 : decide (1 ≤ (n : Int)) = false := decide_eq_false (by omega)
    go_enter Try.func17, Try.ntmps17
    go_wp2_with fail
    go_ret
    exact ⟨by rw [decide_eq_false (show ¬ isP L from fun hh => by have := hh.1; omega)]; rfl, rfl⟩

set_option maxHeartbeats 400000 in
theorem cut_any (A : Option Addr) (m c k : Nat) (w : World) (hc : m ≤ c) (hk : k = min m 1030) :
    Calls Try.prog 10 #[.slice A m c] w fun e w' => e = .returned (.slice A k c) ∧ w = w' := by
  subst hk
  by_cases h : m ≤ 1030
  · go_enter Try.func10, Try.ntmps10
    have d : decide ((1030 : Int) < m) = false := decide_eq_false (by omega)
    go_wp2
    go_ret
    exact ⟨by rw [Nat.min_eq_left (by omega)]; rfl, rfl⟩
  · have s1 := run_cut_h (P := Try.prog) 23 5 1 Try.underlying23 size_u8 A m c 1030 1030 rfl (by omega) .i64
    have d : decide ((1030 : Int) < m) = true := decide_eq_true (by omega)
    go_enter Try.func10, Try.ntmps10
    go_wp2
    go_ret
    exact ⟨by rw [Nat.min_eq_right (by omega)]; rfl, rfl⟩
end Go.Proofs.Ytkcdpnmdhmihaaa
