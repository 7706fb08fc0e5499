/- Walks: the document's reader. -/
import Derived.Test.YtmeiobeiindibaaC6
import Derived.Test.YtmeiobeiindibaaM
namespace Go.Proofs.Ytmeiobeiindibaa
open Go.RowKit
set_option maxRecDepth 100000

/-- What is left, whether it is bad, what was read. -/
def takeS (l : List Int) (bad : Bool) (k : Int) : List Int × Bool × List Int := if bad = true ∨ k < 0 ∨ (l.length : Int) < k then ([], true, []) else (l.drop k.toNat, false, l.take k.toNat)
def numS (l : List Int) (bad : Bool) (k : Int) : List Int × Bool × Int := if bad = true ∨ k < 1 ∨ 8 < k ∨ (l.length : Int) < k then ([], true, 0) else (l.drop k.toNat, false, getN (l.take k.toNat))
/-- The second slice is l' wherever the first is l. -/
def Sub (A : Option Addr) (m c : Nat) (l : List Int) (A' : Option Addr) (m' c' : Nat) (l' : List Int) : Prop := ∀ w : World, Rd w 1 A m c (bts l) → Rd w 1 A' m' c' (bts l')
theorem Sub.drop (A : Option Addr) (m c : Nat) (l : List Int) (k : Nat) (h : k ≤ m) : Sub A m c l (sl A c k 1) (m - k) (c - k) (l.drop k) := fun w hr => by
  have := hr.drop k h
  rwa [Nat.mul_one, bts_drop] at this
theorem Sub.take (A : Option Addr) (m c : Nat) (l : List Int) (k : Nat) (h : k ≤ m) : Sub A m c l A k c (l.take k) := fun w hr => by
  have := hr.take k h
  rwa [Nat.mul_one, bts_take] at this
theorem Sub.none (A : Option Addr) (m c : Nat) (l : List Int) : Sub A m c l none 0 0 [] := fun w _ => Rd.nil w 1

set_option maxHeartbeats 1000000 in
theorem rtake_yes (A : Option Addr) (m c k : Nat) (w : World) (hk : k ≤ m) (hm : m ≤ c) :
    Calls Try.prog 12 #[.agg #[.slice A m c, .bool false], .int .i64 k] w fun e w' => e = .returned (.tuple #[.agg #[.slice (sl A c k 1) (m - k) (c - k), .bool false], .slice A k c]) ∧ New w w' := by
  have b0 : decide ((k : Int) < 0) = false := decide_eq_false (by omega)
  have b1 : decide (m < k) = false := decide_eq_false (by omega)
  have s1 := run_cut_h (P := Try.prog) 22 5 1 Try.underlying22 size_u8 A m c k k rfl (by omega) .i64
  have s2 := run_cut_l (P := Try.prog) 22 5 1 Try.underlying22 size_u8 A m c k k rfl hk .i64
  go_enter Try.func12, Try.ntmps12
  go_wp2
  obtain ⟨w0, hw0⟩ : ∃ w0, w0 = (w.alloc (Obj.cells #[.slice A m c, .bool false] 35)).alloc (Obj.cells #[.slice none 0 0, .bool false] 35) := ⟨_, rfl⟩
  have hb0 : w0.heap[w.heap.size]? = some (.cells #[.slice A m c, .bool false] 35) := by rw [hw0]; exact blk_alloc (blk_new w _) _
  have hb1 : w0.heap[w.heap.size + 1]? = some (.cells #[.slice none 0 0, .bool false] 35) := by rw [hw0]; have := blk_new (w.alloc (Obj.cells #[.slice A m c, .bool false] 35)) (Obj.cells #[.slice none 0 0, .bool false] 35); rwa [World.size_alloc] at this
  have hn0 : New w w0 := by rw [hw0]; (repeat (first | exact Ext.refl _ _ | assumption | apply Ext.alloc | apply Ext.drewN | apply Ext.drew | refine Ext.setCell ?_ (fun h => by first | rfl | exact absurd h (by dsimp only; omega)) _))
  rw [← hw0]
  have g0 : ∀ x : Lat (fun k => k = w.heap.size + 1) w0, x.W.cell? ⟨w.heap.size, 0, none⟩ = some (.slice A m c) := fun x => blk_cell (Ext.keep x.ext hb0 (by omega)) 0
  clear hw0
  refine mix_start (fun k => k = w.heap.size + 1) w0 (by kernel_rfl) ?_
  refine mix_batch [0, 1, 2, 3, 4, 5, 6, 7, 8] (by kernel_rfl) 2 _ _ _ (by kernel_rfl) (lat_mem (by (repeat (first | exact Ext.refl _ _ | assumption | apply Ext.alloc | apply Ext.drewN | apply Ext.drew | refine Ext.setCell ?_ (fun h => by first | rfl | exact absurd h (by dsimp only; omega)) _)))) ?_
  simp only [pickOps, List.getD_cons_zero, List.getD_cons_succ]
  repeat (go_big_quiet_step (fail))
  refine wpQuiet_nil ?_
  refine mix_loud (i := 9) (by kernel_rfl) rfl (fun K hK => ?_)
  go_simp
  have c0 : w0.cell? ⟨w.heap.size + 1, 0, none⟩ = some (.slice none 0 0) := blk_cell hb1 0
  have c1 : w0.cell? ⟨w.heap.size + 1, 1, none⟩ = some (.bool false) := blk_cell hb1 1
  have fz0 := blk_free hb1 0
  have fz1 := blk_free hb1 1
  go_simp
  have he1 : Ext (fun k => k = w.heap.size + 1) w0 (((w0.setCell ⟨w.heap.size + 1, 0, none⟩ (.slice (sl A c k 1) (m - k) (c - k))).setCell ⟨w.heap.size + 1, 1, none⟩ (.bool false)).drew) := (((Ext.refl _ w0).set (by rfl)).set (by rfl)).drew
  have hb2 : (((w0.setCell ⟨w.heap.size + 1, 0, none⟩ (.slice (sl A c k 1) (m - k) (c - k))).setCell ⟨w.heap.size + 1, 1, none⟩ (.bool false)).drew).heap[w.heap.size + 1]? = _ := blk_set (blk_set hb1 0 (.slice (sl A c k 1) (m - k) (c - k))) 1 (.bool false)
  generalize ((w0.setCell ⟨w.heap.size + 1, 0, none⟩ (.slice (sl A c k 1) (m - k) (c - k))).setCell ⟨w.heap.size + 1, 1, none⟩ (.bool false)).drew = w1 at *
  have d0 : w1.cell? ⟨w.heap.size + 1, 0, none⟩ = some (.slice (sl A c k 1) (m - k) (c - k)) := blk_cell hb2 0
  have d1 : w1.cell? ⟨w.heap.size + 1, 1, none⟩ = some (.bool false) := blk_cell hb2 1
  refine hK.out _ _ (lat_mem he1) (mix_next he1 (fun _ _ h => h) ?_)
  clear hK
  refine mix_batch [10] (by kernel_rfl) 0 _ _ _ (by kernel_rfl) (lat_mem (by (repeat (first | exact Ext.refl _ _ | assumption | apply Ext.alloc | apply Ext.drewN | apply Ext.drew | refine Ext.setCell ?_ (fun h => by first | rfl | exact absurd h (by dsimp only; omega)) _)))) ?_
  simp only [pickOps, List.getD_cons_zero, List.getD_cons_succ]
  repeat (go_big_quiet_step (fail))
  refine wpQuiet_nil ?_
  refine wpAnyH_done (by kernel_rfl) (NoPanic.normal ?_) _
  go_wp2
  refine bodyPost_ret (v := .tuple #[.agg #[.slice (sl A c k 1) (m - k) (c - k), .bool false], .slice A k c]) (by simp [results, Try.results12, go_sem, d0, d1]) rfl ⟨rfl, ?_⟩
  exact ⟨he1.os.trans hn0.os, he1.tape.trans hn0.tape, he1.output.trans hn0.output, Nat.le_trans hn0.size he1.size, fun i hi _ => (he1.block i (Nat.lt_of_lt_of_le hi hn0.size) (by omega)).trans (hn0.block i hi (fun h => h))⟩

set_option maxHeartbeats 1000000 in
theorem rtake_no (A : Option Addr) (m c : Nat) (k : Int) (bad : Bool) (w : World) (hk : bad = true ∨ k < 0 ∨ m < k) :
    Calls Try.prog 12 #[.agg #[.slice A m c, .bool bad], .int .i64 k] w fun e w' => e = .returned (.tuple #[.agg #[.slice none 0 0, .bool true], .slice none 0 0]) ∧ New w w' := by
  cases bad with
  | true =>
    go_enter Try.func12, Try.ntmps12
    go_wp2
    refine bodyPost_ret (v := .tuple #[.agg #[.slice none 0 0, .bool true], .slice none 0 0]) (by simp [results, Try.results12, go_sem]) rfl ⟨rfl, by (repeat (first | exact Ext.refl _ _ | assumption | apply Ext.alloc | apply Ext.drewN | apply Ext.drew | refine Ext.setCell ?_ (fun h => by first | rfl | exact absurd h (by dsimp only; omega)) _))⟩
  | false =>
    by_cases h0 : k < 0
    · have b0 : decide (k < 0) = true := decide_eq_true h0
      go_enter Try.func12, Try.ntmps12
      go_wp2
      refine bodyPost_ret (v := .tuple #[.agg #[.slice none 0 0, .bool true], .slice none 0 0]) (by simp [results, Try.results12, go_sem]) rfl ⟨rfl, by (repeat (first | exact Ext.refl _ _ | assumption | apply Ext.alloc | apply Ext.drewN | apply Ext.drew | refine Ext.setCell ?_ (fun h => by first | rfl | exact absurd h (by dsimp only; omega)) _))⟩
    · have b0 : decide (k < 0) = false := decide_eq_false h0
      have b1 : decide ((m : Int) < k) = true := decide_eq_true (by simp at hk; omega)
      go_enter Try.func12, Try.ntmps12
      go_wp2
      refine bodyPost_ret (v := .tuple #[.agg #[.slice none 0 0, .bool true], .slice none 0 0]) (by simp [results, Try.results12, go_sem]) rfl ⟨rfl, by (repeat (first | exact Ext.refl _ _ | assumption | apply Ext.alloc | apply Ext.drewN | apply Ext.drew | refine Ext.setCell ?_ (fun h => by first | rfl | exact absurd h (by dsimp only; omega)) _))⟩

theorem rtake_any (A : Option Addr) (m c : Nat) (l : List Int) (k : Int) (bad : Bool) (w : World) (hr : Rd w 1 A m c (bts l)) :
    Calls Try.prog 12 #[.agg #[.slice A m c, .bool bad], .int .i64 k] w fun e w' => ∃ A1 m1 c1 A2 m2 c2, e = .returned (.tuple #[.agg #[.slice A1 m1 c1, .bool (takeS l bad k).2.1], .slice A2 m2 c2]) ∧ Sub A m c l A1 m1 c1 (takeS l bad k).1 ∧ Sub A m c l A2 m2 c2 (takeS l bad k).2.2 ∧ New w w' := by
  have hl : l.length = m := by have := hr.len; rw [bts_length] at this; omega
  unfold takeS
  rw [hl]
  by_cases h : bad = true ∨ k < 0 ∨ (m : Int) < k
  · rw [if_pos h]
    refine (rtake_no A m c k bad w h).mono ?_
    rintro e w' ⟨rfl, hn⟩
    exact ⟨none, 0, 0, none, 0, 0, rfl, Sub.none _ _ _ _, Sub.none _ _ _ _, hn⟩
  · rw [if_neg h]
    obtain ⟨k, rfl⟩ := Int.eq_ofNat_of_zero_le (show 0 ≤ k by omega)
    obtain rfl : bad = false := by cases bad <;> simp_all
    refine (rtake_yes A m c k w (by omega) hr.cap).mono ?_
    rintro e w' ⟨rfl, hn⟩
    exact ⟨_, _, _, _, _, _, rfl, Sub.drop A m c l k (by omega), Sub.take A m c l k (by omega), hn⟩

set_option maxHeartbeats 1000000 in
theorem rnumber_yes (A : Option Addr) (m c : Nat) (l : List Int) (size : Nat) (w : World) (hr : Rd w 1 A m c (bts l)) (hl : isB l) (hm : size ≤ m) (h1 : 1 ≤ size) (h8 : size ≤ 8) :
    Calls Try.prog 14 #[.agg #[.slice A m c, .bool false], .int .i64 size] w fun e w' => e = .returned (.tuple #[.agg #[.slice (sl A c size 1) (m - size) (c - size), .bool false], .int .u64 (getN (l.take size))]) ∧ New w w' := by
  go_enter Try.func14, Try.ntmps14
  go_wp2_with (go_at_call 8; refine (rget_yes A m c l size _ (hr.new (by (repeat (first | exact Ext.refl _ _ | assumption | apply Ext.alloc | apply Ext.drewN | apply Ext.drew | refine Ext.setCell ?_ (fun h => by first | rfl | exact absurd h (by dsimp only; omega)) _)))) hl hm h1 h8).mono ?_; rintro e w1 ⟨rfl, nd, rfl⟩)
  refine bodyPost_ret (v := .tuple #[.agg #[.slice (sl A c size 1) (m - size) (c - size), .bool false], .int .u64 (getN (l.take size))]) (by simp [results, Try.results14, go_sem]) rfl ⟨rfl, by (repeat (first | exact Ext.refl _ _ | assumption | apply Ext.alloc | apply Ext.drewN | apply Ext.drew | refine Ext.setCell ?_ (fun h => by first | rfl | exact absurd h (by dsimp only; omega)) _))⟩
set_option maxHeartbeats 1000000 in
theorem rnumber_bad (A : Option Addr) (m c : Nat) (l : List Int) (size : Nat) (w : World) (hr : Rd w 1 A m c (bts l)) (hl : isB l) (hm : size ≤ m) (h1 : 1 ≤ size) (h8 : size ≤ 8) :
    Calls Try.prog 14 #[.agg #[.slice A m c, .bool true], .int .i64 size] w fun e w' => e = .returned (.tuple #[.agg #[.slice none 0 0, .bool true], .int .u64 0]) ∧ New w w' := by
  go_enter Try.func14, Try.ntmps14
  go_wp2_with (go_at_call 8; refine (rget_yes A m c l size _ (hr.new (by (repeat (first | exact Ext.refl _ _ | assumption | apply Ext.alloc | apply Ext.drewN | apply Ext.drew | refine Ext.setCell ?_ (fun h => by first | rfl | exact absurd h (by dsimp only; omega)) _)))) hl hm h1 h8).mono ?_; rintro e w1 ⟨rfl, nd, rfl⟩)
  refine bodyPost_ret (v := .tuple #[.agg #[.slice none 0 0, .bool true], .int .u64 0]) (by simp [results, Try.results14, go_sem]) rfl ⟨rfl, by (repeat (first | exact Ext.refl _ _ | assumption | apply Ext.alloc | apply Ext.drewN | apply Ext.drew | refine Ext.setCell ?_ (fun h => by first | rfl | exact absurd h (by dsimp only; omega)) _))⟩

set_option maxHeartbeats 1000000 in
theorem rnumber_no (A : Option Addr) (m c : Nat) (size : Int) (bad : Bool) (w : World) (h : size < 1 ∨ 8 < size ∨ m < size) :
    Calls Try.prog 14 #[.agg #[.slice A m c, .bool bad], .int .i64 size] w fun e w' => e = .returned (.tuple #[.agg #[.slice none 0 0, .bool true], .int .u64 0]) ∧ New w w' := by
  cases bad
  all_goals
    go_enter Try.func14, Try.ntmps14
    go_wp2_with (go_at_call 8; refine (rget_no A m c size _ h).mono ?_; rintro e w1 ⟨rfl, rfl⟩)
    refine bodyPost_ret (v := .tuple #[.agg #[.slice none 0 0, .bool true], .int .u64 0]) (by simp [results, Try.results14, go_sem]) rfl ⟨rfl, by (repeat (first | exact Ext.refl _ _ | assumption | apply Ext.alloc | apply Ext.drewN | apply Ext.drew | refine Ext.setCell ?_ (fun h => by first | rfl | exact absurd h (by dsimp only; omega)) _))⟩

theorem rnumber_any (A : Option Addr) (m c : Nat) (l : List Int) (k : Int) (bad : Bool) (w : World) (hr : Rd w 1 A m c (bts l)) (hB : isB l) :
    Calls Try.prog 14 #[.agg #[.slice A m c, .bool bad], .int .i64 k] w fun e w' => ∃ A1 m1 c1, e = .returned (.tuple #[.agg #[.slice A1 m1 c1, .bool (numS l bad k).2.1], .int .u64 (numS l bad k).2.2]) ∧ Sub A m c l A1 m1 c1 (numS l bad k).1 ∧ New w w' := by
  have hl : l.length = m := by have := hr.len; rw [bts_length] at this; omega
  unfold numS
  rw [hl]
  by_cases h : k < 1 ∨ 8 < k ∨ (m : Int) < k
  · rw [if_pos (.inr h)]
    refine (rnumber_no A m c k bad w h).mono ?_
    rintro e w' ⟨rfl, hn⟩
    exact ⟨none, 0, 0, rfl, Sub.none _ _ _ _, hn⟩
  · obtain ⟨k, rfl⟩ := Int.eq_ofNat_of_zero_le (show 0 ≤ k by omega)
    cases bad with
    | true =>
      rw [if_pos (.inl rfl)]
      refine (rnumber_bad A m c l k w hr hB (by omega) (by omega) (by omega)).mono ?_
      rintro e w' ⟨rfl, hn⟩
      exact ⟨none, 0, 0, rfl, Sub.none _ _ _ _, hn⟩
    | false =>
      rw [if_neg (by simpa using h)]
      refine (rnumber_yes A m c l k w hr hB (by omega) (by omega) (by omega)).mono ?_
      rintro e w' ⟨rfl, hn⟩
      exact ⟨_, _, _, rfl, Sub.drop A m c l k (by omega), hn⟩

/-! ### the program's reader, in the same words -/
theorem ptake_any (p : Nat) (A : Option Addr) (m c : Nat) (l : List Int) (k : Int) (bad : Bool) (w : World) (h : Rdr w p A m c (!bad)) (hr : Rd w 1 A m c (bts l)) (hm : m ≤ 140737488355328) (hb : bad = true → l = []) :
    Calls Try.prog 13 #[.pointer (some ⟨p, 0, none⟩), .int .i64 k] w fun e w' => ∃ A' m' c' A1 m1 c1, e = .returned (.slice A' m' c') ∧ Rd w' 1 A' m' c' (bts (takeS l bad k).2.2) ∧ Rdr w' p A1 m1 c1 (!(takeS l bad k).2.1) ∧ Sub A m c l A1 m1 c1 (takeS l bad k).1 ∧ Ext (fun k => k = p) w w' := by
  have hl : l.length = m := by have := hr.len; rw [bts_length] at this; omega
  unfold takeS
  rw [hl]
  cases bad with
  | true =>
    rw [if_pos (.inl rfl)]
    refine (take_bad p A m c k w h).mono ?_
    rintro e w' ⟨rfl, rfl⟩
    cases hb rfl
    exact ⟨_, _, _, A, m, c, rfl, Rd.nil _ _, h, fun w h => h, Ext.refl _ _⟩
  | false =>
    by_cases h0 : k < 0 ∨ (m : Int) < k
    · rw [if_pos (.inr h0)]
      refine (take_no p A m c k w h h0).mono ?_
      rintro e w' ⟨rfl, hd, he⟩
      exact ⟨_, _, _, _, _, _, rfl, Rd.nil _ _, hd, Sub.none _ _ _ _, he⟩
    · rw [if_neg (by simpa using h0)]
      obtain ⟨k, rfl⟩ := Int.eq_ofNat_of_zero_le (show 0 ≤ k by omega)
      refine (take_yes p A m c _ k w h hr (by omega) hm).mono ?_
      rintro e w' ⟨A', c', rfl, ho, hd, he⟩
      exact ⟨_, _, _, _, _, _, rfl, by have := ho.rd; rwa [bts_take] at this, hd, Sub.drop A m c l k (by omega), he⟩
theorem pnumber_any (p : Nat) (A : Option Addr) (m c : Nat) (l : List Int) (k : Int) (bad : Bool) (w : World) (h : Rdr w p A m c (!bad)) (hr : Rd w 1 A m c (bts l)) (hB : isB l) (hb : bad = true → l = []) :
    Calls Try.prog 15 #[.pointer (some ⟨p, 0, none⟩), .int .i64 k] w fun e w' => ∃ A1 m1 c1, e = .returned (.int .u64 (numS l bad k).2.2) ∧ Rdr w' p A1 m1 c1 (!(numS l bad k).2.1) ∧ Sub A m c l A1 m1 c1 (numS l bad k).1 ∧ Ext (fun k => k = p) w w' := by
  have hl : l.length = m := by have := hr.len; rw [bts_length] at this; omega
  unfold numS
  rw [hl]
  cases bad with
  | true =>
    rw [if_pos (.inl rfl)]
    refine (number_bad p A m c k w h).mono ?_
    rintro e w' ⟨rfl, rfl⟩
    cases hb rfl
    exact ⟨A, m, c, rfl, h, fun w h => h, Ext.refl _ _⟩
  | false =>
    by_cases h0 : k < 1 ∨ 8 < k ∨ (m : Int) < k
    · rw [if_pos (.inr h0)]
      refine (number_no p A m c k w h h0).mono ?_
      rintro e w' ⟨rfl, hd, he⟩
      exact ⟨_, _, _, rfl, hd, Sub.none _ _ _ _, he⟩
    · rw [if_neg (by simpa using h0)]
      obtain ⟨k, rfl⟩ := Int.eq_ofNat_of_zero_le (show 0 ≤ k by omega)
      refine (number_yes p A m c l k w h hr hB (by omega) (by omega) (by omega)).mono ?_
      rintro e w' ⟨rfl, hd, he⟩
      exact ⟨_, _, _, rfl, hd, Sub.drop A m c l k (by omega), he⟩
theorem pleft_any (p : Nat) (A : Option Addr) (m c : Nat) (l : List Int) (bad : Bool) (w : World) (h : Rdr w p A m c (!bad)) (hl : l.length = m) (hb : bad = true → l = []) :
    Calls Try.prog 16 #[.pointer (some ⟨p, 0, none⟩)] w fun e w' => e = .returned (.int .i64 m) ∧ w = w' := by
  cases bad with
  | true => cases hb rfl; cases hl; exact left_bad p A 0 c w h
  | false => exact left_yes p A m c w h
theorem takeS_bad (l : List Int) (bad : Bool) (k : Int) : (takeS l bad k).2.1 = true → (takeS l bad k).1 = [] := by
  unfold takeS
  split
  · intro _; rfl
  · intro h; cases h
theorem numS_bad (l : List Int) (bad : Bool) (k : Int) : (numS l bad k).2.1 = true → (numS l bad k).1 = [] := by
  unfold numS
  split
  · intro _; rfl
  · intro h; cases h
theorem takeS_isB (l : List Int) (bad : Bool) (k : Int) (h : isB l) : isB (takeS l bad k).1 := by
  unfold takeS
  split
  · intro x hx; cases hx
  · intro x hx; exact h x (List.mem_of_mem_drop hx)
theorem numS_isB (l : List Int) (bad : Bool) (k : Int) (h : isB l) : isB (numS l bad k).1 := by
  unfold numS
  split
  · intro x hx; cases hx
  · intro x hx; exact h x (List.mem_of_mem_drop hx)
theorem takeS_len (l : List Int) (bad : Bool) (k : Int) : (takeS l bad k).1.length ≤ l.length := by
  unfold takeS
  split
  · exact Nat.zero_le _
  · simp
theorem numS_len (l : List Int) (bad : Bool) (k : Int) : (numS l bad k).1.length ≤ l.length := by
  unfold numS
  split
  · exact Nat.zero_le _
  · simp
end Go.Proofs.Ytmeiobeiindibaa
