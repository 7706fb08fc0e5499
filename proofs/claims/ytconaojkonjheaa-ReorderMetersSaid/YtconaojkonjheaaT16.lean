/- Walks: Rises; two rows, two reports; the example. -/
import Derived.Test.YtconaojkonjheaaT15
namespace Go.Proofs.Ytconaojkonjheaa
open Go.RowKit Go.Maps
set_option maxRecDepth 100000

theorem isNaN_any (x : Int) (w : World) : Calls Try.prog 56 #[.int .i64 x] w fun e w' => e = .returned (.bool false) ∧ w = w' := by
  go_enter Try.func56, Try.ntmps56
  go_wp2_with fail
  go_ret
  exact ⟨rfl, rfl⟩
def cmpF (x y : Int) : Int := if x < y then -1 else if y < x then 1 else 0
theorem compare_any (x y : Int) (w : World) : Calls Try.prog 44 #[.int .i64 x, .int .i64 y] w fun e w' => e = .returned (.int .i64 (cmpF x y)) ∧ w = w' := by
  unfold cmpF
  by_cases h1 : x < y
  · have d1 : decide (x < y) = true := decide_eq_true h1
    rw [if_pos h1]
    go_enter Try.func44, Try.ntmps44
    go_wp2_with fail
    refine (isNaN_any x _).mono ?_
    rintro e w1 ⟨rfl, rfl⟩
    go_wp2_with fail
    refine (isNaN_any y _).mono ?_
    rintro e w1 ⟨rfl, rfl⟩
    go_wp2_with fail
    go_ret
    exact ⟨rfl, rfl⟩
  · have d1 : decide (x < y) = false := decide_eq_false h1
    rw [if_neg h1]
    by_cases h2 : y < x
    · have d2 : decide (y < x) = true := decide_eq_true h2
      rw [if_pos h2]
      go_enter Try.func44, Try.ntmps44
      go_wp2_with fail
      refine (isNaN_any x _).mono ?_
      rintro e w1 ⟨rfl, rfl⟩
      go_wp2_with fail
      refine (isNaN_any y _).mono ?_
      rintro e w1 ⟨rfl, rfl⟩
      go_wp2_with fail
      go_ret
      exact ⟨rfl, rfl⟩
    · have d2 : decide (y < x) = false := decide_eq_false h2
      rw [if_neg h2]
      go_enter Try.func44, Try.ntmps44
      go_wp2_with fail
      refine (isNaN_any x _).mono ?_
      rintro e w1 ⟨rfl, rfl⟩
      go_wp2_with fail
      refine (isNaN_any y _).mono ?_
      rintro e w1 ⟨rfl, rfl⟩
      go_wp2_with fail
      go_ret
      exact ⟨rfl, rfl⟩
theorem cmpF_le (x y : Int) : decide (cmpF x y ≤ 0) = decide (x ≤ y) := by
  unfold cmpF
  by_cases h1 : x < y
  · rw [if_pos h1, decide_eq_true (by omega), decide_eq_true (by omega)]
  · rw [if_neg h1]
    by_cases h2 : y < x
    · rw [if_pos h2, decide_eq_false (by omega), decide_eq_false (by omega)]
    · rw [if_neg h2, decide_eq_true (by omega), decide_eq_true (by omega)]

/-- Does a rising row begin at i? -/
def riB (l : List Int) (i : Nat) : Bool := decide (i = 0) || decide (l.getD i 0 ≤ l.getD (i - 1) 0)
def riC (l : List Int) (k : Nat) : Nat := ((List.range k).filter (riB l)).length
theorem riC_succ (l : List Int) (k : Nat) : riC l (k + 1) = riC l k + if riB l k then 1 else 0 := by
  unfold riC
  rw [List.range_succ, List.filter_append, List.length_append]
  cases h : riB l k <;> simp [h]
theorem riC_le (l : List Int) (k : Nat) : riC l k ≤ k := by
  unfold riC
  exact Nat.le_trans (List.length_filter_le _ _) (by simp)

set_option maxHeartbeats 800000 in
theorem rises_any (A : Option Addr) (n c : Nat) (l : List Int) (w : World) (h : Rd w 1 A n c (vsi l)) :
    Calls Try.prog 27 #[.slice A n c] w fun e w' => e = .returned (.int .i64 (riC l l.length)) ∧ New w w' := by
  have hlen := h.leni
  have hcap := h.cap
  have htop := h.top
  rw [hlen]
  have HL := hide hlen
  clear hlen
  go_enter Try.func27, Try.ntmps27
  go_wp2_with fail
  go_loopw [3, 7] (fun s3 s wr => New w wr ∧ ∃ k m : Nat, k ≤ n ∧ s = .int .i64 (k : Nat) ∧ s3 = .int .i64 (m : Nat) ∧ m ≤ k ∧ Hid (m = riC l k)) (fun _ s _ => n - (intOf s).toNat)
  case atStart => exact ⟨Ext.refl _ _, 0, 0, Nat.zero_le _, rfl, rfl, Nat.le_refl _, hide rfl⟩
  case round =>
    obtain ⟨hnw, k, m, hk, rfl, rfl, hmk, HC⟩ := hrel
    by_cases hkn : k < n
    · have d1 : decide ((k : Int) < n) = true := decide_eq_true (by omega)
      have d2 : decide (k < n) = true := decide_eq_true (by omega)
      have hkn2 : (k : Int) < n := by omega
      have hs := riC_succ l k
      rcases Nat.eq_zero_or_pos k with rfl | hk0
      · have HS2 : Hid (riC l 1 = 1) := hide (by rw [hs]; simp [riB, riC])
        clear hs
        go_wp2_with fail
        go_quiet (fail)
        go_wp2_with fail
        exact ⟨⟨hnw.then (new_draw wr nq), 1, m + 1, by omega, by go_num, by go_num, by omega, hide (by have := HC.out; rw [HS2.out, this]; rfl)⟩, by simp [intOf]; omega⟩
      · obtain ⟨j, hj⟩ : ∃ j, k = j + 1 := ⟨k - 1, by omega⟩
        obtain ⟨ad, rfl⟩ := h.some (by omega)
        obtain ⟨x, hx⟩ : ∃ x, l[k]? = some x := ⟨_, List.getElem?_eq_getElem (by have := HL.out; omega)⟩
        obtain ⟨y, hy⟩ : ∃ y, l[j]? = some y := ⟨_, List.getElem?_eq_getElem (by have := HL.out; omega)⟩
        have hcx : ∀ u, (wr.drewN u).cell? (ad.add k) = some (.int .i64 x) := fun u => (h.new (hnw.then (new_draw wr u))).celli hx
        have hcy : ∀ u, (wr.drewN u).cell? (ad.add j) = some (.int .i64 y) := fun u => (h.new (hnw.then (new_draw wr u))).celli hy
        have hB : riB l k = decide (x ≤ y) := by
          unfold riB
          rw [List.getD_eq_getElem?_getD, List.getD_eq_getElem?_getD, hx, show k - 1 = j by omega, hy, decide_eq_false (show ¬ k = 0 by omega)]
          simp
        rw [hB] at hs
        have hcl := cmpF_le x y
        have hj2 : (j : Int) < n := by omega
        have hj3 : j < n := by omega
        have hz : ((k : Int) == 0) = false := by simp; omega
        have hk1 : (k : Int) - 1 = (j : Nat) := by omega
        by_cases hxy : x ≤ y
        · have HS2 : Hid (riC l (k + 1) = riC l k + 1) := hide (by rw [hs, decide_eq_true hxy]; rfl)
          rw [decide_eq_true hxy] at hcl
          clear hs hxy hB hx hy hj
          go_wp2_with fail
          go_quiet ((go_at_call 44; exact quiet_same (compare_any x y _)))
          go_wp2_with fail
          exact ⟨⟨hnw.then (new_draw wr nq), k + 1, m + 1, by omega, by go_num, by go_num, by omega, hide (by rw [HS2.out, ← HC.out])⟩, by simp [intOf]; omega⟩
        · have HS2 : Hid (riC l (k + 1) = riC l k) := hide (by rw [hs, decide_eq_false hxy]; rfl)
          rw [decide_eq_false hxy] at hcl
          clear hs hxy hB hx hy hj
          go_wp2_with fail
          go_quiet ((go_at_call 44; exact quiet_same (compare_any x y _)))
          go_wp2_with fail
          exact ⟨⟨hnw.then (new_draw wr nq), k + 1, m, by omega, by go_num, rfl, by omega, hide (by rw [HS2.out, ← HC.out])⟩, by simp [intOf]; omega⟩
    · have d1 : decide ((k : Int) < n) = false := decide_eq_false (by omega)
      have d2 : decide (k < n) = false := decide_eq_false (by omega)
      have hkk : k = n := by omega
      have HK := hide hkk
      clear hkk
      go_wp2_with fail
      go_ret
      exact ⟨by have := HK.out; subst this; rw [← HC.out]; rfl, hnw⟩

set_option maxHeartbeats 800000 in
theorem same_any (A B : Option Addr) (n c m d : Nat) (l k : List Int) (w : World) (hl : Rd w 1 A n c (vsi l)) (hk : Rd w 1 B m d (vsi k)) :
    Calls Try.prog 17 #[.slice A n c, .slice B m d] w fun e w' => e = .returned (.bool (decide (l = k))) ∧ ∃ nd, w' = w.drewN nd := by
  have hln := hl.leni
  have hkn := hk.leni
  have hcap := hl.cap
  have htop := hl.top
  by_cases hnm : n = m
  · subst hnm
    go_enter Try.func17, Try.ntmps17
    go_wp2_with fail
    go_loopw [5] (fun s wr => ∃ (j nd : Nat), j ≤ n ∧ s = .int .i64 j ∧ l.take j = k.take j ∧ wr = w.drewN nd) (fun i _ => n - (intOf i).toNat)
    case atStart => exact ⟨0, 0, Nat.zero_le _, rfl, by simp, rfl⟩
    case round =>
      obtain ⟨j, nd, hj, rfl, hall, rfl⟩ := hrel
      have HA := hide hall
      clear hall
      by_cases hlt : j < n
      · obtain ⟨ad, rfl⟩ := hl.some (by omega)
        obtain ⟨bd, rfl⟩ := hk.some (by omega)
        obtain ⟨x, hx⟩ : ∃ x, l[j]? = some x := ⟨_, List.getElem?_eq_getElem (by omega)⟩
        obtain ⟨y, hy⟩ : ∃ y, k[j]? = some y := ⟨_, List.getElem?_eq_getElem (by omega)⟩
        have hcx : ∀ u, (w.drewN u).cell? (ad.add j) = some (.int .i64 x) := fun u => (hl.new (w' := w.drewN u) (by (repeat (first | exact Ext.refl _ _ | assumption | apply Ext.alloc | apply Ext.drewN | apply Ext.drew | refine Ext.setCell ?_ (fun h => by first | rfl | exact absurd h (by dsimp only; omega)) _)))).celli hx
        have hcy : ∀ u, (w.drewN u).cell? (bd.add j) = some (.int .i64 y) := fun u => (hk.new (w' := w.drewN u) (by (repeat (first | exact Ext.refl _ _ | assumption | apply Ext.alloc | apply Ext.drewN | apply Ext.drew | refine Ext.setCell ?_ (fun h => by first | rfl | exact absurd h (by dsimp only; omega)) _)))).celli hy
        have HX := hide hx
        have HY := hide hy
        clear hx hy
        by_cases hxy : x = y
        · subst hxy
          go_wp2
          go_quiet (fail)
          go_wp2
          go_roundw
          case rel => exact ⟨j + 1, nd + nq, by omega, by go_num, by rw [take_snoc l j x HX.out, take_snoc k j x HY.out, HA.out], by simp [World.drewN_drewN]⟩
          case measure => simp [intOf]; omega
        · have hne : (x != y) = true := by simp [hxy]
          go_wp2
          go_quiet (fail)
          go_wp2
          go_ret
          exact ⟨by rw [decide_eq_false (fun e => hxy (by have h1 := HX.out; rw [e, HY.out] at h1; exact (Option.some.inj h1).symm))]; rfl, nd + nq, by simp [World.drewN_drewN]⟩
      · go_wp2
        obtain rfl : j = n := by omega
        go_ret
        have := HA.out
        rw [List.take_of_length_le (by omega), List.take_of_length_le (by omega)] at this
        exact ⟨by rw [decide_eq_true this]; rfl, nd, rfl⟩
  · have hne : ((n : Int) != (m : Int)) = true := by simp; omega
    go_enter Try.func17, Try.ntmps17
    go_wp2_with fail
    go_ret
    exact ⟨by rw [decide_eq_false (fun e => hnm (by rw [← hln, ← hkn, e]))]; rfl, 0, rfl⟩

set_option maxHeartbeats 400000 in
theorem cut_any (A : Option Addr) (m c k : Nat) (w : World) (hc : m ≤ c) (hk : k = min m 60) :
    Calls Try.prog 9 #[.slice A m c] w fun e w' => e = .returned (.slice A k c) ∧ w = w' := by
  subst hk
  by_cases h : m ≤ 60
  · have d : decide ((60 : Int) < m) = false := decide_eq_false (by omega)
    go_enter Try.func9, Try.ntmps9
    go_wp2
    go_ret
    exact ⟨by rw [Nat.min_eq_left (by omega)]; rfl, rfl⟩
  · have s1 := run_cut_h (P := Try.prog) 22 3 1 Try.underlying22 size_i A m c 60 60 rfl (by omega) .i64
    have d : decide ((60 : Int) < m) = true := decide_eq_true (by omega)
    go_enter Try.func9, Try.ntmps9
    go_wp2
    go_ret
    exact ⟨by rw [Nat.min_eq_right (by omega)]; rfl, rfl⟩
end Go.Proofs.Ytconaojkonjheaa
