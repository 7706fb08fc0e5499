/- Walks: whether pieces may be a group's; the fold. -/
import Derived.Test.YtkcdpnmdhmihaaaP3
namespace Go.Proofs.Ytkcdpnmdhmihaaa
open Go.RowKit
set_option maxRecDepth 100000

set_option maxHeartbeats 400000 in
/-- The first piece that is too long. -/
theorem index_pieces (A : Option Addr) (n c : Nat) (L : List Pc) (w : World) (h : Rows w A n c L) :
    Calls Try.prog 56 #[.slice A n c, .func (.func 52) #[] #[]] w fun e w' => ∃ i : Int, e = .returned (.int .i64 i) ∧ ((0 ≤ i ∧ i < n ∧ ∃ p, p ∈ L ∧ 1024 < p.n) ∨ (i = -1 ∧ ∀ p ∈ L, p.n ≤ 1024)) ∧ w = w' := by
  have hlen := h.len
  have hcap := h.rd.cap
  have htop := h.rd.top
  go_enter Try.func56, Try.ntmps56
  go_wp2_with fail
  go_loop [8] (fun i => ∃ k : Nat, k ≤ n ∧ i = .int .i64 k ∧ ∀ p ∈ L.take k, p.n ≤ 1024) (fun i => n - (intOf i).toNat)
  case atStart => exact ⟨0, Nat.zero_le _, rfl, (fun _ h => by cases h)⟩
  case round =>
    obtain ⟨k, hk, rfl, hall⟩ := hrel
    have HA := hide hall
    clear hall
    by_cases hlt : k < n
    · obtain ⟨ad, p, rfl, hp, hc, hr, hB, hpn⟩ := h.at_ hlt
      have HP := hide hp
      have HN := hide hpn
      clear hp hpn
      by_cases hj : p.n ≤ 1024
      · have d : decide (1024 < (p.n : Int)) = false := decide_eq_false (by omega)
        go_wp2
        go_round
        case rel => exact ⟨k + 1, by omega, by go_num, by
          rw [take_snoc L k p HP.out]
          intro q hq
          rcases List.mem_append.1 hq with hq | hq
          · exact HA.out q hq
          · cases List.mem_singleton.1 hq; exact hj⟩
        case measure => simp [intOf]; omega
      · have d : decide (1024 < (p.n : Int)) = true := decide_eq_true (by omega)
        go_wp2
        go_ret
        exact ⟨k, rfl, .inl ⟨by omega, by omega, ⟨p, List.mem_of_getElem? HP.out, by omega⟩⟩, rfl⟩
    · go_wp2
      obtain rfl : k = n := by omega
      go_ret
      have := HA.out
      rw [List.take_of_length_le (by omega)] at this
      exact ⟨-1, rfl, .inr ⟨rfl, this⟩, rfl⟩

set_option maxHeartbeats 400000 in
theorem contains_pieces (A : Option Addr) (n c : Nat) (L : List Pc) (w : World) (h : Rows w A n c L) (b : Bool) (hb : b = true ↔ ¬ ∀ p ∈ L, p.n ≤ 1024) :
    Calls Try.prog 51 #[.slice A n c, .func (.func 52) #[] #[]] w fun e w' => e = .returned (.bool b) ∧ w = w' := by
  go_enter Try.func51, Try.ntmps51
  go_wp2_with fail
  refine (index_pieces A n c L _ h).mono ?_
  rintro e w1 ⟨i, rfl, hi, rfl⟩
  have hd : decide (0 ≤ i) = b := by
    cases b with
    | true =>
      refine decide_eq_true ?_
      rcases hi with hi | hi
      · exact hi.1
      · exact absurd hi.2 (hb.1 rfl)
    | false =>
      refine decide_eq_false ?_
      rcases hi with hi | hi
      · obtain ⟨p, hp, hp2⟩ := hi.2.2
        exact absurd (hb.2 (fun hh => by have := hh p hp; omega)) (by decide)
      · omega
  go_wp2_with fail
  go_ret
  exact ⟨rfl, rfl⟩

set_option maxHeartbeats 400000 in
theorem may_yes (A : Option Addr) (n c m : Nat) (L : List Pc) (w : World) (h : Rows w A n c L) (hm : n ≤ m) (hs : ∀ p ∈ L, p.n ≤ 1024) :
    Calls Try.prog 31 #[.slice A n c, .int .i64 m] w fun e w' => e = .returned (.bool true) ∧ w = w' := by
  have d : decide ((n : Int) ≤ m) = true := decide_eq_true (by omega)
  go_enter Try.func31, Try.ntmps31
  go_wp2_with fail
  refine (contains_pieces A n c L _ h false ⟨(fun h => by cases h), (fun h => absurd hs h)⟩).mono ?_
  rintro e w1 ⟨rfl, rfl⟩
  go_wp2_with fail
  go_ret
  exact ⟨rfl, rfl⟩
set_option maxHeartbeats 400000 in
theorem may_no (A : Option Addr) (n c m : Nat) (L : List Pc) (w : World) (h : Rows w A n c L) (hm : ¬ (n ≤ m ∧ ∀ p ∈ L, p.n ≤ 1024)) :
    Calls Try.prog 31 #[.slice A n c, .int .i64 m] w fun e w' => e = .returned (.bool false) ∧ w = w' := by
  by_cases h1 : n ≤ m
  · have d : decide ((n : Int) ≤ m) = true := decide_eq_true (by omega)
    go_enter Try.func31, Try.ntmps31
    go_wp2_with fail
    refine (contains_pieces A n c L _ h true ⟨fun _ hh => hm ⟨h1, hh⟩, (fun _ => rfl)⟩).mono ?_
    rintro e w1 ⟨rfl, rfl⟩
    go_wp2_with fail
    go_ret
    exact ⟨rfl, rfl⟩
  · have d : decide ((n : Int) ≤ m) = false := decide_eq_false (by omega)
    go_enter Try.func31, Try.ntmps31
    go_wp2_with fail
    go_ret
    exact ⟨rfl, rfl⟩
end Go.Proofs.Ytkcdpnmdhmihaaa
