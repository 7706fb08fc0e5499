/- Walks: the page's example. -/
import Derived.Test.YtmonhhodbinagaaK11
namespace Go.Proofs.Ytmonhhodbinagaa
open Go.RowKit Go.Maps
set_option maxRecDepth 100000

/-- Where the example stands. -/
structure Aw (w : World) (a b : Nat) (wr : World) (p : Nat) (s : PS) : Prop where
  pn : Pn (fun k => (w.heap.size ≤ k ∧ k ≠ a) ∧ k ≠ b) wr p s
  a : wr.heap[a]? = some (.cells #[.int .i64 0, .int .i64 1] 30)
  b : wr.heap[b]? = some (.cells #[.int .i64 1, .int .i64 1] 30)
  n : New w wr
theorem Aw.step {w : World} {a b : Nat} {wr wr' : World} {p : Nat} {s s' : PS} (h : Aw w a b wr p s) (hp : Pn (fun k => (w.heap.size ≤ k ∧ k ≠ a) ∧ k ≠ b) wr' p s') (he : Ext (fun k => (w.heap.size ≤ k ∧ k ≠ a) ∧ k ≠ b) wr wr') : Aw w a b wr' p s' :=
  ⟨hp, he.keep h.a (by simp), he.keep h.b (by simp), h.n.trans he (fun k hk e => by omega)⟩
theorem Aw.new {w : World} {a b : Nat} {wr wr' : World} {p : Nat} {s : PS} (h : Aw w a b wr p s) (he : New wr wr') : Aw w a b wr' p s :=
  ⟨h.pn.new he, he.keep h.a, he.keep h.b, h.n.then he⟩
set_option maxHeartbeats 1600000 in
theorem awake_p (w : World) : Calls Try.prog 9 #[] w fun e w' => e = .returned (.bool true) ∧ New w w' := by
  go_enter Try.func9, Try.ntmps9
  go_wp2_with fail
  refine (new_n 9 _ (by omega) (by omega)).mono ?_
  rintro e w1 ⟨p, rfl, h1, hn1⟩
  have hA : Aw w w1.heap.size (w1.heap.size + 1) ((w1.alloc (.cells #[.int .i64 0, .int .i64 1] 30)).alloc (.cells #[.int .i64 1, .int .i64 1] 30)) p aw0 := by
    have e1 := (h1.apart (o := .cells #[.int .i64 0, .int .i64 1] 30)).apart (o := .cells #[.int .i64 1, .int .i64 1] 30)
    rw [World.size_alloc] at e1
    exact ⟨e1, (New.alloc1 _ _).keep (blk_new w1 _), by have := blk_new (w1.alloc (.cells #[.int .i64 0, .int .i64 1] 30)) (.cells #[.int .i64 1, .int .i64 1] 30); rwa [World.size_alloc] at this, (hn1.then (New.alloc1 _ _)).then (New.alloc1 _ _)⟩
  go_wp2_with fail
  refine (know_n hA.pn (0, 1) 1 (by decide) (.inr rfl) (by decide) (by decide)).mono ?_
  rintro e w2 ⟨rfl, hp2, he2⟩
  have hA2 := hA.step hp2 he2
  clear hA hp2 he2
  have b0 := (blk_cell hA2.b 0).trans rfl
  have b1 := (blk_cell hA2.b 1).trans rfl
  go_wp2_with fail
  refine (know_n (S := fun k => (w.heap.size ≤ k ∧ k ≠ w1.heap.size) ∧ k ≠ w1.heap.size + 1) hA2.pn (1, 1) 0 (by decide) (.inl rfl) (by decide) (by decide)).mono ?_
  rintro e w3 ⟨rfl, hp3, he3⟩
  have hA3 := hA2.step hp3 he3
  clear hA2 hp3 he3 b0 b1
  have a0 := (blk_cell hA3.a 0).trans rfl
  have a1 := (blk_cell hA3.a 1).trans rfl
  go_wp2_with fail
  refine (owe_n hA3.pn (0, 1) 9 ⟨(0, 1), 1, 0, 0⟩ rfl (by omega) (by decide)).mono ?_
  rintro e w4 ⟨rfl, hp4, he4⟩
  have hA4 := hA3.step hp4 he4
  clear hA3 hp4 he4 a0 a1
  have b0 := (blk_cell hA4.b 0).trans rfl
  have b1 := (blk_cell hA4.b 1).trans rfl
  go_wp2_with fail
  refine (owe_n hA4.pn (1, 1) 1 ⟨(1, 1), 0, 0, 0⟩ rfl (by omega) (by decide)).mono ?_
  rintro e w5 ⟨rfl, hp5, he5⟩
  have hA5 : Aw w w1.heap.size (w1.heap.size + 1) w5 p aw4 := hA4.step hp5 he5
  clear hA4 hp5 he5 b0 b1
  go_wp2_with fail
  go_loopw [5] (fun s5 wr => ∃ i : Nat, i ≤ 6 ∧ s5 = .int .i64 i ∧ Aw w w1.heap.size (w1.heap.size + 1) wr p (awT i)) (fun a _ => 6 - (intOf a).toNat)
  case atStart => exact ⟨0, by omega, rfl, hA5⟩
  case round =>
    obtain ⟨i, hi, rfl, h⟩ := hrel
    by_cases hi6 : i < 6
    · have d1 : decide ((i : Int) < 6) = true := decide_eq_true (by omega)
      have d1n : decide (i < 6) = true := decide_eq_true (by omega)
      have hk := aw_key i hi6
      go_wp2_with fail
      by_cases i4 : i = 4
      · rw [if_pos i4] at hk
        refine (tick_n h.pn (aw_tick i hi6) (by rw [aw_total i (by omega)]; omega) 1 1 ((awX i).iss + 1) hk rfl).mono ?_
        rintro e w6 ⟨rfl, hp6, he6⟩
        have h6 := h.step hp6 he6
        clear hk
        have hlt := blk_lt h6.b
        have b0 := (blk_cell h6.b 0).trans rfl
        have b1 := (blk_cell h6.b 1).trans rfl
        have e4 : ((i : Int) == 4) = true := by simp; omega
        have e4n : (i == 4) = true := by simp; omega
        go_wp2_with fail
        refine ⟨⟨i + 1, by omega, by go_num, h6.new (New.alloc1 _ _)⟩, by simp [intOf]; omega⟩
      · rw [if_neg i4] at hk
        refine (tick_n h.pn (aw_tick i hi6) (by rw [aw_total i (by omega)]; omega) 0 1 ((awX i).iss + 1) hk rfl).mono ?_
        rintro e w6 ⟨rfl, hp6, he6⟩
        have h6 := h.step hp6 he6
        clear hk
        have hlt := blk_lt h6.b
        have b0 := (blk_cell h6.b 0).trans rfl
        have b1 := (blk_cell h6.b 1).trans rfl
        have e4 : ((i : Int) == 4) = false := by simp; omega
        have e4n : (i == 4) = false := by simp; omega
        go_wp2_with fail
        refine ⟨⟨i + 1, by omega, by go_num, h6.new (New.alloc1 _ _)⟩, by simp [intOf]; omega⟩
    · have d1 : decide ((i : Int) < 6) = false := decide_eq_false (by omega)
      have d1n : decide (i < 6) = false := decide_eq_false (by omega)
      obtain rfl : i = 6 := by omega
      have a0 := (blk_cell h.a 0).trans rfl
      have a1 := (blk_cell h.a 1).trans rfl
      have hend := hide aw_end
      go_wp2_with fail
      refine (issued_n h.pn (0, 1) (show may (0, 1) by decide).wf 5 hend.out.1.symm).mono ?_
      rintro e w6 ⟨rfl, hn6⟩
      have h6 := h.new hn6
      have a0 := (blk_cell h6.a 0).trans rfl
      have a1 := (blk_cell h6.a 1).trans rfl
      go_wp2_with fail
      refine (pending_n h6.pn (0, 1) (show may (0, 1) by decide).wf 4 hend.out.2.1.symm).mono ?_
      rintro e w7 ⟨rfl, hn7⟩
      have h7 := h6.new hn7
      go_wp2_with fail
      refine (total_n h7.pn 6 hend.out.2.2.symm).mono ?_
      rintro e w8 ⟨rfl, rfl⟩
      go_wp2_with fail
      go_ret
      exact ⟨rfl, h7.n⟩
end Go.Proofs.Ytmonhhodbinagaa
