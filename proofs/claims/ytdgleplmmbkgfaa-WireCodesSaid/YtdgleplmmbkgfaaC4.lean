/- Walks: the references. -/
import Derived.Test.YtdgleplmmbkgfaaC3
namespace Go.Proofs.Ytdgleplmmbkgfaa
open Go.RowKit
set_option maxRecDepth 100000

set_option maxHeartbeats 400000 in
theorem rsize_yes (n : Int) (w : World) (h1 : 1 ≤ n) (h2 : n ≤ 8) : Calls Try.prog 48 #[.int .i64 n] w fun e w' => e = .returned (.bool true) ∧ w = w' := by
  go_enter Try.func48, Try.ntmps48
  go_wp2
  go_ret
  exact ⟨rfl, rfl⟩
set_option maxHeartbeats 400000 in
theorem rsize_no (n : Int) (w : World) (h : n < 1 ∨ 8 < n) : Calls Try.prog 48 #[.int .i64 n] w fun e w' => e = .returned (.bool false) ∧ w = w' := by
  by_cases h1 : 1 ≤ n
  · have h2 : decide (n ≤ 8) = false := decide_eq_false (by omega)
    go_enter Try.func48, Try.ntmps48
    go_wp2
    go_ret
    exact ⟨rfl, rfl⟩
  · go_enter Try.func48, Try.ntmps48
    go_wp2
    go_ret
    exact ⟨rfl, rfl⟩

set_option maxHeartbeats 400000 in
theorem rget_yes (A : Option Addr) (m c : Nat) (l : List Int) (size : Nat) (w : World) (hr : Rd w 1 A m c (bts l)) (hl : isB l) (hm : size ≤ m) (h1 : 1 ≤ size) (h8 : size ≤ 8) :
    Calls Try.prog 49 #[.slice A m c, .int .i64 size] w fun e w' => e = .returned (.tuple #[.int .u64 (getN (l.take size)), .slice (sl A c size 1) (m - size) (c - size), .bool true]) ∧ ∃ nd, w' = w.drewN nd := by
  have hb : decide ((m : Int) < (size : Int)) = false := decide_eq_false (by omega)
  have hb' : decide (m < size) = false := decide_eq_false (by omega)
  have s2 := run_cut_l (P := Try.prog) 23 5 1 Try.underlying23 size_u8 A m c size size rfl hm .i64
  have hlen : l.length = m := by have := hr.len; rw [bts_length] at this; omega
  obtain ⟨ad, rfl⟩ := hr.some (by omega)
  go_enter Try.func49, Try.ntmps49
  go_wp2_with (go_at_call 48; refine (rsize_yes _ _ (by omega) (by omega)).mono ?_; rintro e w2 ⟨rfl, rfl⟩)
  go_loop [7, 8] (fun v i => ∃ k : Nat, k ≤ size ∧ i = .int .i64 k ∧ v = .int .u64 (getN (l.take k))) (fun _ i => size - (intOf i).toNat)
  case atStart => exact ⟨0, Nat.zero_le _, rfl, rfl⟩
  case round =>
    obtain ⟨k, hk, rfl, rfl⟩ := hrel
    by_cases hlt : k < size
    · have hc := hr.cell ad rfl k _ (bts_get l k (by omega))
      have hg := getN_step l hl k (by omega)
      have hx := getD_isB l hl k
      have hn := getN_lt (l.take k) (fun x hx => hl x (List.mem_of_mem_take hx))
      have Hg := hide hg
      clear hg
      go_wp2
      go_round
      case rel =>
        refine ⟨k + 1, by omega, by go_num, ?_⟩
        have hl7 : (List.take k l).length ≤ 7 := by rw [List.length_take]; omega
        have h7 := pow256 _ hl7
        rw [Hg.out]
        rw [List.getD_eq_getElem?_getD] at hx ⊢
        rw [wrap_u64 (n := getN (List.take k l) * 256) (by omega) (by omega), wrap_u64 (n := l[k]?.getD 0) (by omega) (by omega), wrap_u64 (by omega) (by omega)]
      case measure => simp [intOf]; omega
    · go_wp2
      go_quiet (fail)
      go_wp2
      obtain rfl : k = size := by omega
      go_ret3
      exact ⟨rfl, nq, rfl⟩

set_option maxHeartbeats 400000 in
theorem rget_no (A : Option Addr) (m c : Nat) (size : Int) (w : World) (h : size < 1 ∨ 8 < size ∨ m < size) :
    Calls Try.prog 49 #[.slice A m c, .int .i64 size] w fun e w' => e = .returned (.tuple #[.int .u64 0, .slice none 0 0, .bool false]) ∧ w = w' := by
  by_cases h1 : 1 ≤ size ∧ size ≤ 8
  · have hb : decide ((m : Int) < size) = true := decide_eq_true (by omega)
    go_enter Try.func49, Try.ntmps49
    go_wp2_with (go_at_call 48; refine (rsize_yes _ _ (by omega) (by omega)).mono ?_; rintro e w2 ⟨rfl, rfl⟩)
    go_ret3
    exact ⟨rfl, rfl⟩
  · go_enter Try.func49, Try.ntmps49
    go_wp2_with (go_at_call 48; refine (rsize_no _ _ (by omega)).mono ?_; rintro e w2 ⟨rfl, rfl⟩)
    go_ret3
    exact ⟨rfl, rfl⟩

set_option maxHeartbeats 400000 in
theorem rput_yes (A : Option Addr) (m c : Nat) (xs : List Value) (size : Nat) (n : Int) (w : World) (hr : Rd w 1 A m c xs) (hn : m ≤ 140737488355000) (h1 : 1 ≤ size) (h8 : size ≤ 8) :
    Calls Try.prog 32 #[.slice A m c, .int .i64 size, .int .u64 n] w fun e w' => ∃ A' c', e = .returned (.slice A' (m + size) c') ∧ Own w' w.heap.size 5 1 A' (m + size) c' (xs ++ bts (putL size n size)) ∧ New w w' := by
  go_enter Try.func32, Try.ntmps32
  go_wp2_with (first | (at_builtin; refine wpList_app rfl _ _ _ rfl w.heap.size 5 (.int .u8 0) 1 1 Try.underlying23 info_u8 rfl (by decide) (by decide) rfl rfl (Own.lit0 _ _ _ _ (Nat.le_refl _)) (hr.new (New.alloc1 _ _)) (by omega) (by simp) ?_; intro A1 c1 w1 ho1 he1 hA1) | (go_at_call 48; refine (rsize_yes _ _ (by omega) (by omega)).mono ?_; rintro e w2 ⟨rfl, rfl⟩))
  have hn1 : New w w1 := new_lit he1
  simp only [Nat.zero_add, List.nil_append] at ho1 ⊢
  go_loopw [7, 8] (fun v i wr => ∃ (k : Nat) (A' : Option Addr) (c' : Nat), k ≤ size ∧ i = .int .i64 ((size : Int) - 1 - k) ∧ v = .slice A' (m + k) c' ∧ Own wr w.heap.size 5 1 A' (m + k) c' (xs ++ bts (putL size n k)) ∧ New w wr) (fun _ i _ => (intOf i + 1).toNat)
  case atStart => exact ⟨0, A1, c1, Nat.zero_le _, by simp, rfl, by simpa [putL, bts] using ho1, hn1⟩
  case round =>
    obtain ⟨k, A', c', hk, rfl, rfl, ho, hnew⟩ := hrel
    by_cases hlt : k < size
    · have hd : decide ((k : Int) ≤ (size : Int) - 1) = true := decide_eq_true (by omega)
      go_wp2_with (at_builtin; refine wpList_app rfl _ _ _ rfl w.heap.size 5 (.int .u8 0) 1 1 Try.underlying23 info_u8 rfl (by decide) (by decide) rfl rfl (ho.new (New.alloc1 _ _)) (rd_box _ _ _ rfl) (by omega) (by have := hnew.size; simp; omega) ?_; intro A2 c2 w2 ho2 he2 hA2)
      go_roundw
      case rel => exact ⟨k + 1, A2, c2, by omega, by go_num, rfl, by rw [putL_succ, ← bts_snoc, ← List.append_assoc]; exact ho2, new_app hnew ho _ he2⟩
      case measure => simp [intOf]; omega
    · have hd : decide ((k : Int) ≤ (size : Int) - 1) = false := decide_eq_false (by omega)
      go_wp2
      go_ret
      obtain rfl : k = size := by omega
      exact ⟨A', c', rfl, ho, hnew⟩

set_option maxHeartbeats 400000 in
theorem rput_no (A : Option Addr) (m c : Nat) (xs : List Value) (size : Int) (n : Int) (w : World) (hr : Rd w 1 A m c xs) (hn : m ≤ 140737488355000) (h : size < 1 ∨ 8 < size) :
    Calls Try.prog 32 #[.slice A m c, .int .i64 size, .int .u64 n] w fun e w' => ∃ A' c', e = .returned (.slice A' m c') ∧ Own w' w.heap.size 5 1 A' m c' xs ∧ New w w' := by
  go_enter Try.func32, Try.ntmps32
  go_wp2_with (first | (at_builtin; refine wpList_app rfl _ _ _ rfl w.heap.size 5 (.int .u8 0) 1 1 Try.underlying23 info_u8 rfl (by decide) (by decide) rfl rfl (Own.lit0 _ _ _ _ (Nat.le_refl _)) (hr.new (New.alloc1 _ _)) (by omega) (by simp) ?_; intro A1 c1 w1 ho1 he1 hA1) | (go_at_call 48; refine (rsize_no _ _ h).mono ?_; rintro e w2 ⟨rfl, rfl⟩))
  go_ret
  simp only [Nat.zero_add, List.nil_append] at ho1 ⊢
  exact ⟨A1, c1, rfl, ho1, new_lit he1⟩
end Go.Proofs.Ytdgleplmmbkgfaa
