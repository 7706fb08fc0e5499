/- Walks: Check; bytes that are not zero; what is found, in plain words. -/
import Derived.Test.YtkcdpnmdhmihaaaP6
namespace Go.Proofs.Ytkcdpnmdhmihaaa
open Go.RowKit
set_option maxRecDepth 100000

set_option maxHeartbeats 400000 in
theorem check_any (B : Option Addr) (m d : Nat) (k : List Int) (A : Option Addr) (n c : Nat) (L : List Pc) (w : World) (hk : Rd w 1 B m d (bts k)) (h : Rows w A n c L) :
    Calls Try.prog 15 #[.slice B m d, .slice A n c] w fun e w' => e = .returned (.bool (decide (isP L ∧ makeOf (byt L) = k))) ∧ New w w' := by
  by_cases hp : isP L
  · go_enter Try.func15, Try.ntmps15
    go_wp2_with fail
    refine (make_yes A n c L _ h hp).mono ?_
    rintro e w1 ⟨A1, c1, rfl, ho1, hn1⟩
    go_wp2_with fail
    refine (equal_any A1 B _ c1 m d _ _ _ ho1.rd (hk.new hn1)).mono ?_
    rintro e w2 ⟨rfl, nd, rfl⟩
    go_wp2_with fail
    go_ret
    exact ⟨by rw [show decide (isP L ∧ makeOf (byt L) = k) = decide (makeOf (byt L) = k) from decide_eq_decide.2 ⟨fun h => h.2, fun h => ⟨hp, h⟩⟩]; rfl, hn1.then (by (repeat (first | exact Ext.refl _ _ | assumption | apply Ext.alloc | apply Ext.drewN | apply Ext.drew | refine Ext.setCell ?_ (fun h => by first | rfl | exact absurd h (by dsimp only; omega)) _)))⟩
  · go_enter Try.func15, Try.ntmps15
    go_wp2_with fail
    refine (make_no A n c L _ h hp).mono ?_
    rintro e w1 ⟨rfl, rfl⟩
    go_wp2_with fail
    go_ret
    exact ⟨by rw [decide_eq_false (fun h => hp h.1)]; rfl, by (repeat (first | exact Ext.refl _ _ | assumption | apply Ext.alloc | apply Ext.drewN | apply Ext.drew | refine Ext.setCell ?_ (fun h => by first | rfl | exact absurd h (by dsimp only; omega)) _))⟩

set_option maxHeartbeats 400000 in
theorem index_bytes (A : Option Addr) (n c : Nat) (l : List Int) (w : World) (h : Rd w 1 A n c (bts l)) :
    Calls Try.prog 53 #[.slice A n c, .func (.func 37) #[] #[]] w fun e w' => ∃ i : Int, e = .returned (.int .i64 i) ∧ ((0 ≤ i ∧ i < n ∧ ∃ x, x ∈ l ∧ ¬ x = 0) ∨ (i = -1 ∧ ∀ x ∈ l, x = 0)) ∧ w = w' := by
  have hlen := h.blen
  have hcap := h.cap
  have htop := h.top
  go_enter Try.func53, Try.ntmps53
  go_wp2_with fail
  go_loop [8] (fun i => ∃ k : Nat, k ≤ n ∧ i = .int .i64 k ∧ ∀ x ∈ l.take k, x = 0) (fun i => n - (intOf i).toNat)
  case atStart => exact ⟨0, Nat.zero_le _, rfl, (fun _ h => by cases h)⟩
  case round =>
    obtain ⟨k, hk, rfl, hall⟩ := hrel
    have HA := hide hall
    clear hall
    by_cases hlt : k < n
    · obtain ⟨ad, rfl⟩ := h.some (by omega)
      obtain ⟨x, hx⟩ : ∃ x, l[k]? = some x := ⟨_, List.getElem?_eq_getElem (by omega)⟩
      have hc := h.bcell hx
      have HX := hide hx
      clear hx
      by_cases hj : x = 0
      · subst hj
        go_wp2
        go_round
        case rel => exact ⟨k + 1, by omega, by go_num, by
          rw [take_snoc l k 0 HX.out]
          intro q hq
          rcases List.mem_append.1 hq with hq | hq
          · exact HA.out q hq
          · exact List.mem_singleton.1 hq⟩
        case measure => simp [intOf]; omega
      · have d : (x != 0) = true := by simp [hj]
        go_wp2
        go_ret
        exact ⟨k, rfl, .inl ⟨by omega, by omega, ⟨x, List.mem_of_getElem? HX.out, hj⟩⟩, rfl⟩
    · go_wp2
      obtain rfl : k = n := by omega
      go_ret
      have := HA.out
      rw [List.take_of_length_le (by omega)] at this
      exact ⟨-1, rfl, .inr ⟨rfl, this⟩, rfl⟩

set_option maxHeartbeats 400000 in
theorem contains_bytes (A : Option Addr) (n c : Nat) (l : List Int) (w : World) (h : Rd w 1 A n c (bts l)) (b : Bool) (hb : b = true ↔ ∃ x, x ∈ l ∧ ¬ x = 0) :
    Calls Try.prog 36 #[.slice A n c, .func (.func 37) #[] #[]] w fun e w' => e = .returned (.bool b) ∧ w = w' := by
  go_enter Try.func36, Try.ntmps36
  go_wp2_with fail
  refine (index_bytes A n c l _ h).mono ?_
  rintro e w1 ⟨i, rfl, hi, rfl⟩
  have hd : decide (0 ≤ i) = b := by
    cases b with
    | true =>
      refine decide_eq_true ?_
      rcases hi with hi | hi
      · exact hi.1
      · obtain ⟨x, hx, h0⟩ := hb.1 rfl
        exact absurd (hi.2 x hx) h0
    | false =>
      refine decide_eq_false ?_
      rcases hi with hi | hi
      · exact absurd (hb.2 hi.2.2) (by decide)
      · omega
  go_wp2_with fail
  go_ret
  exact ⟨rfl, rfl⟩

/-! ### what is found -/
def xorN (k : List Int) (bs : List (List Int)) : Nat := lensOf bs ^^^ ((k.getD 0 0).toNat * 256 + (k.getD 1 0).toNat)
def allAt (k : List Int) (bs : List (List Int)) (j : Nat) : Int := x8 (atOf bs j) (k.getD (j + 2) 0)
/-- Whether the parity and the others may be a group's. -/
def okF (k : List Int) (bs : List (List Int)) : Prop := bs.length ≤ 15 ∧ longOf bs ≤ 1024 ∧ 2 ≤ k.length ∧ k.length ≤ 1026
instance (k : List Int) (bs : List (List Int)) : Decidable (okF k bs) := by unfold okF; infer_instance
def okG (k : List Int) (bs : List (List Int)) : Prop := okF k bs ∧ xorN k bs ≤ k.length - 2 ∧ longOf bs ≤ k.length - 2
instance (k : List Int) (bs : List (List Int)) : Decidable (okG k bs) := by unfold okG; infer_instance
def okA (k : List Int) (bs : List (List Int)) : Prop := okG k bs ∧ ∀ j, j < k.length - 2 → xorN k bs ≤ j → allAt k bs j = 0
def outOf (k : List Int) (bs : List (List Int)) : List Int := (List.range (xorN k bs)).map (allAt k bs)
theorem outOf_len (k : List Int) (bs : List (List Int)) : (outOf k bs).length = xorN k bs := by simp [outOf]
theorem allAt_b (k : List Int) (hk : isB k) (bs : List (List Int)) (h : ∀ b ∈ bs, isB b) (j : Nat) : 0 ≤ allAt k bs j ∧ allAt k bs j < 256 := x8_b (atOf_b bs h j) (hk.getD _)
/-- The fold of what the others are and of the parity's bytes. -/
theorem fold_two (k : List Int) (hk : isB k) (bs : List (List Int)) (h : ∀ b ∈ bs, isB b) (hl : longOf bs ≤ k.length - 2) : foldOf [foldOf bs, k.drop 2] = (List.range (k.length - 2)).map (allAt k bs) := by
  have e1 : longOf [foldOf bs, k.drop 2] = k.length - 2 := by
    simp only [longOf, List.foldl_cons, List.foldl_nil, foldOf_len, List.length_drop]
    unfold longOf at hl
    omega
  rw [foldOf, e1]
  refine List.map_congr_left (fun j hj => ?_)
  have hj' : j < k.length - 2 := List.mem_range.1 hj
  have e2 : (k.drop 2).getD j 0 = k.getD (j + 2) 0 := by
    rw [List.getD_eq_getElem?_getD, List.getD_eq_getElem?_getD, List.getElem?_drop, Nat.add_comm 2 j]
  simp only [atOf, List.foldl_cons, List.foldl_nil, foldOf_len, List.length_drop, if_pos hj', e2]
  unfold allAt
  split
  · rw [foldOf_getD, x8_zero (atOf_b bs h j).1]
  · rename_i hn
    rw [atOf_out bs j (by omega)]
end Go.Proofs.Ytkcdpnmdhmihaaa
