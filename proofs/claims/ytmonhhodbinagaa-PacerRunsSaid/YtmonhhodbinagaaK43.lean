/- A turn by one function, of both; New of both. -/
import Derived.Test.YtmonhhodbinagaaK41
import Derived.Test.YtmonhhodbinagaaK42
namespace Go.Proofs.Ytmonhhodbinagaa
open Go.RowKit Go.Maps
set_option maxRecDepth 100000

/-- What Tick does. -/
def tickR (s : PS) : PS × (Int × Int) × Int × Bool :=
  match tickS s with
  | none => (s, (0, 0), 0, false)
  | some (s', z) => (s', z.k, z.iss + 1, true)
theorem tick_empty {s : PS} (h : s.Wf) (ht : tickS s = none) : s.u 0 = [] ∧ s.u 1 = [] := by
  constructor
  · by_cases e : s.u 0 = []
    · exact e
    · obtain ⟨s', x, h1⟩ := h.tick_some (c := 0) (by omega) e
      rw [ht] at h1; cases h1
  · by_cases e : s.u 1 = []
    · exact e
    · obtain ⟨s', x, h1⟩ := h.tick_some (c := 1) (by omega) e
      rw [ht] at h1; cases h1
theorem tick_any {w : World} {p : Nat} {s s' : PS} {T : Nat → Prop} (h : Pq w p s T) (hw : s.Wf) (h60 : s.total < 1152921504606846976) (k : Int × Int) (m : Int) (b : Bool) (hr : tickR s = (s', k, m, b)) :
    Calls Try.prog 12 #[.pointer (some ⟨p, 0, none⟩)] w fun e w' => e = .returned (.tuple #[.agg #[.int .i64 k.1, .int .i64 k.2, .int .i64 m], .bool b]) ∧ Res w w' p s' T := by
  unfold tickR at hr
  cases ht : tickS s with
  | none =>
    rw [ht] at hr
    obtain ⟨rfl, rfl, rfl, rfl⟩ : s = s' ∧ (0, 0) = k ∧ (0 : Int) = m ∧ false = b := ⟨congrArg Prod.fst hr, congrArg (fun u => u.2.1) hr, congrArg (fun u => u.2.2.1) hr, congrArg (fun u => u.2.2.2) hr⟩
    obtain ⟨h0, h1⟩ := tick_empty hw ht
    refine (tick_wno h hw h0 h1).mono ?_
    rintro e w' ⟨rfl, hs⟩
    exact ⟨rfl, hs, hw⟩
  | some y =>
    obtain ⟨s2, z⟩ := y
    rw [ht] at hr
    obtain ⟨rfl, rfl, rfl, rfl⟩ : s2 = s' ∧ z.k = k ∧ z.iss + 1 = m ∧ true = b := ⟨congrArg Prod.fst hr, congrArg (fun u => u.2.1) hr, congrArg (fun u => u.2.2.1) hr, congrArg (fun u => u.2.2.2) hr⟩
    refine (tick_w h hw ht h60).mono ?_
    rintro e w' ⟨rfl, hs⟩
    exact ⟨rfl, hs, hw.tick ht⟩
theorem tick_dany (x : DA) (T : Nat → Prop) (w : World) (h : x.ok T w) (hT : ∀ j, T j → j < w.heap.size) (hw : x.s.Wf) (h60 : x.s.total < 1152921504606846976) (s' : PS) (k : Int × Int) (m : Int) (b : Bool) (hr : tickR x.s = (s', k, m, b)) :
    Calls Try.prog 36 #[x.v] w fun e w' => ∃ y : DA, e = .returned (.tuple #[y.v, kV k, .int .i64 m, .bool b]) ∧ y.ok T w' ∧ y.s = s' ∧ New w w' := by
  unfold tickR at hr
  cases ht : tickS x.s with
  | none =>
    rw [ht] at hr
    obtain ⟨rfl, rfl, rfl, rfl⟩ : x.s = s' ∧ (0, 0) = k ∧ (0 : Int) = m ∧ false = b := ⟨congrArg Prod.fst hr, congrArg (fun u => u.2.1) hr, congrArg (fun u => u.2.2.1) hr, congrArg (fun u => u.2.2.2) hr⟩
    obtain ⟨h0, h1⟩ := tick_empty hw ht
    exact tick_dno x T w h hT (by rw [← h.l1, h0]; rfl) (by rw [← h.l2, h1]; rfl)
  | some y =>
    obtain ⟨s2, z⟩ := y
    rw [ht] at hr
    obtain ⟨rfl, rfl, rfl, rfl⟩ : s2 = s' ∧ z.k = k ∧ z.iss + 1 = m ∧ true = b := ⟨congrArg Prod.fst hr, congrArg (fun u => u.2.1) hr, congrArg (fun u => u.2.2.1) hr, congrArg (fun u => u.2.2.2) hr⟩
    obtain ⟨c, rest, hturn⟩ := hw.turn_inv ht
    exact tick_d x T w h hT hw c s2.run hturn.t rest z hturn.u hturn.mem hturn.cls hturn.pos h60 s2 hturn.s'
set_option maxHeartbeats 800000 in
theorem new_bad (most : Int) (w : World) (h : most < 1 ∨ 512 < most) :
    Calls Try.prog 8 #[.int .i64 most] w fun e w' => e = .returned (.tuple #[.pointer none, .int .i64 180]) ∧ New w w' := by
  go_enter Try.func8, Try.ntmps8
  by_cases h1 : most < 1
  · have d1 : decide (most < 1) = true := decide_eq_true h1
    clear h h1
    go_wp2_with fail
    go_ret2
    exact ⟨rfl, Ext.refl _ _⟩
  · have d1 : decide (most < 1) = false := decide_eq_false h1
    have d2 : decide (512 < most) = true := decide_eq_true (by omega)
    clear h h1
    go_wp2_with fail
    go_ret2
    exact ⟨rfl, Ext.refl _ _⟩
/-- The document's pacer that knows nobody. -/
def DA.new (most : Int) : DA := ⟨fresh most, none, 0, 0, none, 0, 0, none, 0, 0⟩
theorem DA.new_ok (most : Int) (T : Nat → Prop) (w : World) : (DA.new most).ok T w := ⟨Rd.nil _ _, Rd.nil _ _, Rd.nil _ _, fun k hk => absurd hk (inA_none k), fun k hk => absurd hk (inA_none k), fun k hk => absurd hk (inA_none k)⟩
set_option maxHeartbeats 800000 in
theorem new_d (most : Int) (w : World) :
    Calls Try.prog 16 #[.int .i64 most] w fun e w' => e = .returned (.tuple #[(DA.new (if most < 1 ∨ 512 < most then 0 else most)).v, .int .i64 (if most < 1 ∨ 512 < most then 180 else 0)]) ∧ New w w' := by
  have hn0 := New.alloc1 w (.cells zP 46)
  have b0 := blk_new w (.cells zP 46)
  go_enter Try.func16, Try.ntmps16
  go_upto_region 1 with (fail)
  generalize w.alloc (.cells zP 46) = w0 at *
  by_cases h1 : most < 1
  · have HC := hide (show most < 1 ∨ 512 < most from .inl h1)
    have d1 : decide (most < 1) = true := decide_eq_true h1
    clear h1
    have r0 := (blk_cell b0 0).trans rfl
    have rf0 := blk_free b0 0
    have r1 := (blk_cell b0 1).trans rfl
    have rf1 := blk_free b0 1
    have r2 := (blk_cell b0 2).trans rfl
    have rf2 := blk_free b0 2
    have r3 := (blk_cell b0 3).trans rfl
    have rf3 := blk_free b0 3
    have r4 := (blk_cell b0 4).trans rfl
    have rf4 := blk_free b0 4
    have r5 := (blk_cell b0 5).trans rfl
    have rf5 := blk_free b0 5
    go_wp2_with fail
    obtain ⟨wz, hwz, Yz, Sz⟩ := set6 b0 rfl (.slice none 0 0) (.slice none 0 0) (.slice none 0 0) (.int .i64 0) (.int .i64 0) (.int .i64 0)
    rw [← hwz]
    clear hwz r0 r1 r2 r3 r4 r5 rf0 rf1 rf2 rf3 rf4 rf5
    have z0 := (blk_cell Yz 0).trans rfl
    have z1 := (blk_cell Yz 1).trans rfl
    have z2 := (blk_cell Yz 2).trans rfl
    have z3 := (blk_cell Yz 3).trans rfl
    have z4 := (blk_cell Yz 4).trans rfl
    have z5 := (blk_cell Yz 5).trans rfl
    have N9 : New w wz := hn0.trans Sz (fun j hj e => by omega)
    refine bodyPost_ret (v := .tuple #[(DA.new (0)).v, .int .i64 180]) (by simp [results, Try.results16, go_sem, z0, z1, z2, z3, z4, z5, DA.new, fresh]) rfl ?_
    exact ⟨by simp only [if_pos HC.out], N9⟩
  · have d1 : decide (most < 1) = false := decide_eq_false h1
    by_cases h2 : 512 < most
    · have HC := hide (show most < 1 ∨ 512 < most from .inr h2)
      have d2 : decide (512 < most) = true := decide_eq_true h2
      clear h1 h2
      have r0 := (blk_cell b0 0).trans rfl
      have rf0 := blk_free b0 0
      have r1 := (blk_cell b0 1).trans rfl
      have rf1 := blk_free b0 1
      have r2 := (blk_cell b0 2).trans rfl
      have rf2 := blk_free b0 2
      have r3 := (blk_cell b0 3).trans rfl
      have rf3 := blk_free b0 3
      have r4 := (blk_cell b0 4).trans rfl
      have rf4 := blk_free b0 4
      have r5 := (blk_cell b0 5).trans rfl
      have rf5 := blk_free b0 5
      go_wp2_with fail
      obtain ⟨wz, hwz, Yz, Sz⟩ := set6 b0 rfl (.slice none 0 0) (.slice none 0 0) (.slice none 0 0) (.int .i64 0) (.int .i64 0) (.int .i64 0)
      rw [← hwz]
      clear hwz r0 r1 r2 r3 r4 r5 rf0 rf1 rf2 rf3 rf4 rf5
      have z0 := (blk_cell Yz 0).trans rfl
      have z1 := (blk_cell Yz 1).trans rfl
      have z2 := (blk_cell Yz 2).trans rfl
      have z3 := (blk_cell Yz 3).trans rfl
      have z4 := (blk_cell Yz 4).trans rfl
      have z5 := (blk_cell Yz 5).trans rfl
      have N9 : New w wz := hn0.trans Sz (fun j hj e => by omega)
      refine bodyPost_ret (v := .tuple #[(DA.new (0)).v, .int .i64 180]) (by simp [results, Try.results16, go_sem, z0, z1, z2, z3, z4, z5, DA.new, fresh]) rfl ?_
      exact ⟨by simp only [if_pos HC.out], N9⟩
    · have HC := hide (show ¬ (most < 1 ∨ 512 < most) from fun h => h.elim h1 h2)
      have d2 : decide (512 < most) = false := decide_eq_false h2
      clear h1 h2
      have r0 := (blk_cell b0 0).trans rfl
      have rf0 := blk_free b0 0
      have r1 := (blk_cell b0 1).trans rfl
      have rf1 := blk_free b0 1
      have r2 := (blk_cell b0 2).trans rfl
      have rf2 := blk_free b0 2
      have r3 := (blk_cell b0 3).trans rfl
      have rf3 := blk_free b0 3
      have r4 := (blk_cell b0 4).trans rfl
      have rf4 := blk_free b0 4
      have r5 := (blk_cell b0 5).trans rfl
      have rf5 := blk_free b0 5
      go_wp2_with fail
      obtain ⟨wz, hwz, Yz, Sz⟩ := set6 b0 rfl (.slice none 0 0) (.slice none 0 0) (.slice none 0 0) (.int .i64 most) (.int .i64 0) (.int .i64 0)
      rw [← hwz]
      clear hwz r0 r1 r2 r3 r4 r5 rf0 rf1 rf2 rf3 rf4 rf5
      have z0 := (blk_cell Yz 0).trans rfl
      have z1 := (blk_cell Yz 1).trans rfl
      have z2 := (blk_cell Yz 2).trans rfl
      have z3 := (blk_cell Yz 3).trans rfl
      have z4 := (blk_cell Yz 4).trans rfl
      have z5 := (blk_cell Yz 5).trans rfl
      have N9 : New w wz := hn0.trans Sz (fun j hj e => by omega)
      refine bodyPost_ret (v := .tuple #[(DA.new (most)).v, .int .i64 0]) (by simp [results, Try.results16, go_sem, z0, z1, z2, z3, z4, z5, DA.new, fresh]) rfl ?_
      exact ⟨by simp only [if_neg HC.out], N9⟩
end Go.Proofs.Ytmonhhodbinagaa
