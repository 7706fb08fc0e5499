/- Walks: which numbers a row has; rows that are the same; rows made of numbers. -/
import Derived.Test.YtkiplbhnnjfjaaaS8
namespace Go.Proofs.Ytkiplbhnnjfjaaa
set_option linter.unusedVariables false
set_option linter.unusedSimpArgs false
open Go.RowKit
set_option maxRecDepth 100000

theorem key_dec (a k : Int × Int) : decide (a = k) = (a.1 == k.1 && a.2 == k.2) := by
  rw [Bool.eq_iff_iff]
  simp only [decide_eq_true_eq, Bool.and_eq_true, beq_iff_eq]
  exact ⟨fun h => by rw [h]; exact ⟨rfl, rfl⟩, fun h => Prod.ext h.1 h.2⟩
set_option maxHeartbeats 1600000 in
theorem rsame_c (A B : Option Addr) (n c m d : Nat) (xs ys : List (Int × Int)) (w : World) (h : Rd w 2 A n c (kcs xs)) (g : Rd w 2 B m d (kcs ys)) (hr2 : n ≤ 1000000) (b : Bool) (hb : decide (xs = ys) = b) :
    Calls Try.prog 13 #[.slice A n c, .slice B m d] w fun e w' => e = .returned (.bool b) ∧ New w w' := by
  have hl := h.lenk
  have gl := g.lenk
  have HB := hide hb
  clear hb
  have HL := hide hl
  have GL := hide gl
  clear hl gl
  go_enter Try.func13, Try.ntmps13
  by_cases hnm : n = m
  rotate_left
  · have e1 : ((n : Int) != m) = true := by simp; omega
    have hbb : b = false := by rw [← HB.out]; exact decide_eq_false (fun e => hnm (by rw [← HL.out, ← GL.out, e]))
    clear hnm
    go_wp2_with fail
    go_ret
    exact ⟨by rw [hbb]; rfl, Ext.refl _ _⟩
  subst hnm
  have e1 : ((n : Int) != n) = false := by simp
  go_wp2_with fail
  clear e1
  go_loopw [5] (fun s5 wr => New w wr ∧ ∃ k : Nat, k ≤ n ∧ s5 = .int .i64 k ∧ ∀ j, j < k → xs[j]? = ys[j]?) (fun s _ => n - (intOf s).toNat)
  case atStart => exact ⟨Ext.refl _ _, 0, Nat.zero_le _, rfl, fun j hj => absurd hj (by omega)⟩
  case round =>
    obtain ⟨hnw, k, hk, rfl, heq⟩ := hrel
    have HE := hide heq
    clear heq
    by_cases hkn : k < n
    · have d1 : decide ((k : Int) < n) = true := decide_eq_true (by omega)
      have d2 : decide (k < n) = true := decide_eq_true (by omega)
      obtain ⟨ad, rfl⟩ := h.some (by omega)
      obtain ⟨bd, rfl⟩ := g.some (by omega)
      obtain ⟨x, hx⟩ : ∃ x, xs[k]? = some x := ⟨_, List.getElem?_eq_getElem (by have := HL.out; omega)⟩
      obtain ⟨y, hy⟩ : ∃ y, ys[k]? = some y := ⟨_, List.getElem?_eq_getElem (by have := GL.out; omega)⟩
      obtain ⟨hc0, hc1⟩ := (h.new hnw).cellk hx
      obtain ⟨hd0, hd1⟩ := (g.new hnw).cellk hy
      have hd := key_dec x y
      have HX := hide hx
      have HY := hide hy
      clear hx hy
      cases e1 : (x.1 == y.1) <;> cases e2 : (x.2 == y.2) <;> rw [e1, e2] at hd
      case true.true =>
        have hxy : x = y := of_decide_eq_true hd
        have hn1 : ∀ j, j < k + 1 → xs[j]? = ys[j]? := fun j hj => by
          rcases Nat.lt_succ_iff_lt_or_eq.1 hj with h | rfl
          · exact HE.out j h
          · rw [HX.out, HY.out, hxy]
        have HN := hide hn1
        clear hn1 hxy hd
        go_wp2_with fail
        go_quiet (fail)
        have hnd := new_draw wr nq
        go_wp2_with fail
        go_roundw
        case rel => exact ⟨hnw.then hnd, k + 1, by omega, by go_num, HN.out⟩
        case measure => simp [intOf]; omega
      all_goals
        have hxy : x ≠ y := of_decide_eq_false hd
        have hbb : b = false := by
          rw [← HB.out]
          exact decide_eq_false (fun e => hxy (Option.some.inj (by rw [← HX.out, ← HY.out, e])))
        have HBB := hide hbb
        clear hbb hxy hd
        go_wp2_with fail
        go_quiet (fail)
        have hnd := new_draw wr nq
        go_wp2_with fail
        go_ret
        exact ⟨by rw [HBB.out]; rfl, hnw.then hnd⟩
    · have d1 : decide ((k : Int) < n) = false := decide_eq_false (by omega)
      have hbb : b = true := by
        rw [← HB.out]
        refine decide_eq_true (List.ext_getElem? fun j => ?_)
        by_cases hj : j < k
        · exact HE.out j hj
        · rw [List.getElem?_eq_none (by have := HL.out; omega), List.getElem?_eq_none (by have := GL.out; omega)]
      have HBB := hide hbb
      clear hbb
      go_wp2_with fail
      go_ret
      exact ⟨by rw [HBB.out]; rfl, hnw⟩

set_option maxHeartbeats 800000 in
theorem same1_c (x y : Rg) (w : World) : Calls Try.prog 49 #[.agg #[.int .i64 x.1, .int .i64 x.2], .agg #[.int .i64 y.1, .int .i64 y.2]] w fun e w' => e = .returned (.bool (decide (x = y))) ∧ New w w' := by
  obtain ⟨w0, hw0, b1, b2, hn0, hz0⟩ := twoNew w #[.int .i64 x.1, .int .i64 x.2] #[.int .i64 y.1, .int .i64 y.2] 30 30
  have hd := key_dec x y
  generalize decide (x = y) = q at hd ⊢
  go_enter Try.func49, Try.ntmps49
  go_upto_region 1 with (fail)
  rw [← hw0]
  clear hw0
  have c0 := (blk_cell b1 0).trans rfl
  have c1 := (blk_cell b1 1).trans rfl
  have c2 := (blk_cell b2 0).trans rfl
  have c3 := (blk_cell b2 1).trans rfl
  have HD := hide hd
  clear hd
  cases e1 : (x.1 == y.1) <;> cases e2 : (x.2 == y.2) <;> (
    go_wp2_with fail
    go_ret
    exact ⟨by rw [HD.out, e1, e2]; rfl, hn0⟩)
set_option maxHeartbeats 1600000 in
theorem equal_c (A B : Option Addr) (n c m d : Nat) (xs ys : List Rg) (w : World) (h : Rd w 2 A n c (kcs xs)) (g : Rd w 2 B m d (kcs ys)) (hr2 : n ≤ 1000000) (b : Bool) (hb : decide (xs = ys) = b) :
    Calls Try.prog 48 #[.slice A n c, .slice B m d, .func (.func 49) #[] #[]] w fun e w' => e = .returned (.bool b) ∧ New w w' := by
  have hl := h.lenk
  have gl := g.lenk
  have HB := hide hb
  clear hb
  have HL := hide hl
  have GL := hide gl
  clear hl gl
  go_enter Try.func48, Try.ntmps48
  by_cases hnm : n = m
  rotate_left
  · have e1 : ((n : Int) != m) = true := by simp; omega
    have hbb : b = false := by rw [← HB.out]; exact decide_eq_false (fun e => hnm (by rw [← HL.out, ← GL.out, e]))
    clear hnm
    go_wp2_with fail
    go_ret
    exact ⟨by rw [hbb]; rfl, Ext.refl _ _⟩
  subst hnm
  have e1 : ((n : Int) != n) = false := by simp
  go_wp2_with fail
  clear e1
  go_loopw [17] (fun s17 wr => New w wr ∧ ∃ k : Nat, k ≤ n ∧ s17 = .int .i64 k ∧ ∀ j, j < k → xs[j]? = ys[j]?) (fun s _ => n - (intOf s).toNat)
  case atStart => exact ⟨Ext.refl _ _, 0, Nat.zero_le _, rfl, fun j hj => absurd hj (by omega)⟩
  case round =>
    obtain ⟨hnw, k, hk, rfl, heq⟩ := hrel
    have HE := hide heq
    clear heq
    by_cases hkn : k < n
    · have d1 : decide ((k : Int) < n) = true := decide_eq_true (by omega)
      have d2 : decide (k < n) = true := decide_eq_true (by omega)
      obtain ⟨ad, rfl⟩ := h.some (by omega)
      obtain ⟨bd, rfl⟩ := g.some (by omega)
      obtain ⟨x, hx⟩ : ∃ x, xs[k]? = some x := ⟨_, List.getElem?_eq_getElem (by have := HL.out; omega)⟩
      obtain ⟨y, hy⟩ : ∃ y, ys[k]? = some y := ⟨_, List.getElem?_eq_getElem (by have := GL.out; omega)⟩
      obtain ⟨hc0, hc1⟩ := (h.new hnw).cellk hx
      have HX := hide hx
      have HY := hide hy
      clear hx hy
      go_upto_region 6 with (fail)
      have hn1 := New.alloc1 wr (.cells #[.int .i64 x.1, .int .i64 x.2] 30)
      have b1 := blk_new wr (.cells #[.int .i64 x.1, .int .i64 x.2] 30)
      obtain ⟨w1, hw1⟩ : ∃ v, v = wr.alloc (.cells #[.int .i64 x.1, .int .i64 x.2] 30) := ⟨_, rfl⟩
      rw [← hw1] at hn1 b1 ⊢
      clear hw1 hc0 hc1
      obtain ⟨hd0, hd1⟩ := (g.new (hnw.then hn1)).cellk HY.out
      go_upto_region 7 with (fail)
      have hn2 := New.alloc1 w1 (.cells #[.int .i64 y.1, .int .i64 y.2] 30)
      have b2 := blk_new w1 (.cells #[.int .i64 y.1, .int .i64 y.2] 30)
      obtain ⟨w2, hw2⟩ : ∃ v, v = w1.alloc (.cells #[.int .i64 y.1, .int .i64 y.2] 30) := ⟨_, rfl⟩
      rw [← hw2] at hn2 b2 ⊢
      clear hw2 hd0 hd1
      have b1' := hn2.keep b1
      have c0 := (blk_cell b1' 0).trans rfl
      have c1 := (blk_cell b1' 1).trans rfl
      have c2 := (blk_cell b2 0).trans rfl
      have c3 := (blk_cell b2 1).trans rfl
      have hn12 := hnw.then (hn1.then hn2)
      go_wp2_with fail
      refine (same1_c x y _).mono ?_
      rintro e w3 ⟨rfl, hn3⟩
      clear c0 c1 c2 c3
      have hn13 := hn12.then hn3
      by_cases hxy : x = y
      · have hn1 : ∀ j, j < k + 1 → xs[j]? = ys[j]? := fun j hj => by
          rcases Nat.lt_succ_iff_lt_or_eq.1 hj with h | rfl
          · exact HE.out j h
          · rw [HX.out, HY.out, hxy]
        have HN := hide hn1
        rw [decide_eq_true hxy]
        clear hn1 hxy
        go_wp2_with fail
        go_roundw
        case rel => exact ⟨hn13, k + 1, by omega, by go_num, HN.out⟩
        case measure => simp [intOf]; omega
      · have hbb : b = false := by
          rw [← HB.out]
          exact decide_eq_false (fun e => hxy (Option.some.inj (by rw [← HX.out, ← HY.out, e])))
        have HBB := hide hbb
        rw [decide_eq_false hxy]
        clear hbb hxy
        go_wp2_with fail
        go_ret
        exact ⟨by rw [HBB.out]; rfl, hn13⟩
    · have d1 : decide ((k : Int) < n) = false := decide_eq_false (by omega)
      have hbb : b = true := by
        rw [← HB.out]
        refine decide_eq_true (List.ext_getElem? fun j => ?_)
        by_cases hj : j < k
        · exact HE.out j hj
        · rw [List.getElem?_eq_none (by have := HL.out; omega), List.getElem?_eq_none (by have := GL.out; omega)]
      have HBB := hide hbb
      clear hbb
      go_wp2_with fail
      go_ret
      exact ⟨by rw [HBB.out]; rfl, hnw⟩
set_option maxHeartbeats 400000 in
theorem same_c (A B : Option Addr) (n c m d : Nat) (xs ys : List Rg) (w : World) (h : Rd w 2 A n c (kcs xs)) (g : Rd w 2 B m d (kcs ys)) (hr2 : n ≤ 1000000) (b : Bool) (hb : decide (xs = ys) = b) :
    Calls Try.prog 27 #[.slice A n c, .slice B m d] w fun e w' => e = .returned (.bool b) ∧ New w w' := by
  have HB := hide hb
  clear hb
  go_enter Try.func27, Try.ntmps27
  go_wp2_with fail
  refine (equal_c A B n c m d xs ys _ h g hr2 b HB.out).mono ?_
  rintro e w1 ⟨rfl, hn1⟩
  go_wp2_with fail
  go_ret
  exact ⟨rfl, hn1⟩
set_option maxHeartbeats 800000 in
theorem has1_c (x : Rg) (n : Int) (b : Nat) (w : World) (hb : w.cell? ⟨b, 0, none⟩ = some (.int .i64 n)) (hlt : b < w.heap.size) : Calls Try.prog 46 #[.agg #[.int .i64 x.1, .int .i64 x.2], .pointer (some ⟨b, 0, none⟩)] w fun e w' => e = .returned (.bool (decide (x.1 ≤ n ∧ n < x.2))) ∧ New w w' := by
  have hn1 := New.alloc1 w (.cells #[.int .i64 x.1, .int .i64 x.2] 30)
  have b1 := blk_new w (.cells #[.int .i64 x.1, .int .i64 x.2] 30)
  have hb1 := newCell hn1 hb
  generalize hq : decide (x.1 ≤ n ∧ n < x.2) = q
  have HQ := hide hq
  clear hq hb hlt
  go_enter Try.func46, Try.ntmps46
  go_upto_region 1 with (fail)
  generalize w.alloc (.cells #[.int .i64 x.1, .int .i64 x.2] 30) = w1 at *
  have c0 := (blk_cell b1 0).trans rfl
  have c1 := (blk_cell b1 1).trans rfl
  cases e1 : decide (x.1 ≤ n) <;> cases e2 : decide (n < x.2) <;> (
    have HE := hide (show q = (decide (x.1 ≤ n) && decide (n < x.2)) by rw [← HQ.out]; simp)
    go_wp2_with fail
    go_ret
    exact ⟨by rw [HE.out, e1, e2]; rfl, hn1⟩)
set_option maxHeartbeats 1600000 in
theorem index_c (A : Option Addr) (n c : Nat) (xs : List Rg) (x : Int) (b : Nat) (w : World) (h : Rd w 2 A n c (kcs xs)) (hr2 : n ≤ 1000000) (hb : w.heap[b]? = some (.cells #[.int .i64 x] 3)) :
    Calls Try.prog 66 #[.slice A n c, .func (.func 46) #[] #[.pointer (some ⟨b, 0, none⟩)]] w fun e w' => ∃ r : Int, e = .returned (.int .i64 r) ∧ (0 ≤ r ↔ Hs xs x) ∧ New w w' := by
  have hl := h.lenk
  have HL := hide hl
  clear hl
  go_enter Try.func66, Try.ntmps66
  go_wp2_with fail
  go_loopw [8] (fun s8 wr => New w wr ∧ ∃ k : Nat, k ≤ n ∧ s8 = .int .i64 k ∧ ¬ Hs (xs.take k) x) (fun s _ => n - (intOf s).toNat)
  case atStart => exact ⟨Ext.refl _ _, 0, Nat.zero_le _, rfl, by simpa using Hs.nil x⟩
  case round =>
    obtain ⟨hnw, k, hk, rfl, hno⟩ := hrel
    have HN := hide hno
    clear hno
    by_cases hkn : k < n
    · have d1 : decide ((k : Int) < n) = true := decide_eq_true (by omega)
      have d2 : decide (k < n) = true := decide_eq_true (by omega)
      obtain ⟨ad, rfl⟩ := h.some (by omega)
      obtain ⟨z, hz⟩ : ∃ z, xs[k]? = some z := ⟨_, List.getElem?_eq_getElem (by have := HL.out; omega)⟩
      obtain ⟨hc0, hc1⟩ := (h.new hnw).cellk hz
      have HZ := hide hz
      clear hz
      have hbw := hnw.keep hb
      go_wp2_with fail
      refine (has1_c z x b _ ((blk_cell hbw 0).trans rfl) (blk_lt hbw)).mono ?_
      rintro e w1 ⟨rfl, hn1⟩
      by_cases hzx : z.1 ≤ x ∧ x < z.2
      · have hyes := hide (show Hs xs x from ⟨z, List.mem_of_getElem? HZ.out, hzx⟩)
        rw [decide_eq_true hzx]
        clear hzx hc0 hc1
        go_wp2_with fail
        go_ret
        exact ⟨k, rfl, ⟨fun _ => hyes.out, fun _ => by omega⟩, hnw.then hn1⟩
      · have hno := hide (show ¬ Hs (xs.take (k + 1)) x by
          rw [take_snoc xs k z HZ.out, hs_append]
          exact fun hh => hh.elim HN.out (fun hh => ((hs_cons _ _ _).1 hh).elim hzx (Hs.nil x)))
        rw [decide_eq_false hzx]
        clear hzx hc0 hc1
        go_wp2_with fail
        go_roundw
        case rel => exact ⟨hnw.then hn1, k + 1, by omega, by go_num, hno.out⟩
        case measure => simp [intOf]; omega
    · have d1 : decide ((k : Int) < n) = false := decide_eq_false (by omega)
      have hno := hide (show ¬ Hs xs x by
        have := HN.out
        rwa [List.take_of_length_le (by have := HL.out; omega)] at this)
      go_wp2_with fail
      go_ret
      exact ⟨-1, rfl, ⟨fun h => by omega, fun h => absurd h hno.out⟩, hnw⟩
set_option maxHeartbeats 400000 in
theorem contains_c (A : Option Addr) (n c : Nat) (xs : List Rg) (x : Int) (b : Nat) (w : World) (h : Rd w 2 A n c (kcs xs)) (hr2 : n ≤ 1000000) (hb : w.heap[b]? = some (.cells #[.int .i64 x] 3)) :
    Calls Try.prog 45 #[.slice A n c, .func (.func 46) #[] #[.pointer (some ⟨b, 0, none⟩)]] w fun e w' => e = .returned (.bool (decide (Hs xs x))) ∧ New w w' := by
  go_enter Try.func45, Try.ntmps45
  go_wp2_with fail
  refine (index_c A n c xs x b _ h hr2 hb).mono ?_
  rintro e w1 ⟨r, rfl, hr, hn1⟩
  have HR := hide (show decide (0 ≤ r) = decide (Hs xs x) from decide_eq_decide.2 hr)
  clear hr
  go_wp2_with fail
  go_ret
  exact ⟨by rw [← HR.out]; rfl, hn1⟩
set_option maxHeartbeats 400000 in
theorem has_c (A : Option Addr) (n c : Nat) (xs : List Rg) (x : Int) (w : World) (h : Rd w 2 A n c (kcs xs)) (hr2 : n ≤ 1000000) :
    Calls Try.prog 15 #[.slice A n c, .int .i64 x] w fun e w' => e = .returned (.bool (decide (Hs xs x))) ∧ New w w' := by
  have hn1 := New.alloc1 w (.cells #[.int .i64 x] 3)
  have b1 := blk_new w (.cells #[.int .i64 x] 3)
  go_enter Try.func15, Try.ntmps15
  go_wp2_with fail
  refine (contains_c A n c xs x w.heap.size _ (h.new hn1) hr2 b1).mono ?_
  rintro e w2 ⟨rfl, hn2⟩
  go_wp2_with fail
  go_ret
  exact ⟨rfl, hn1.then hn2⟩
end Go.Proofs.Ytkiplbhnnjfjaaa
