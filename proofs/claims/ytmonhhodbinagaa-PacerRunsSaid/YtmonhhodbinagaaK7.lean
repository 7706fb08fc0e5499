/- Walks: whose turn it is. -/
import Derived.Test.YtmonhhodbinagaaK6a
import Derived.Test.YtmonhhodbinagaaK6b
namespace Go.Proofs.Ytmonhhodbinagaa
open Go.RowKit Go.Maps
set_option maxRecDepth 100000

/-- Whose turn it is, whether one waits, how many urgent turns are counted. -/
def turnOf (s : PS) : Nat × Bool × Int :=
  if 0 < (s.u 1).length ∧ (s.u 0).length = 0 then (1, true, 0)
  else if 0 < (s.u 1).length ∧ s.run < 4 then (1, true, s.run + 1)
  else if 0 < (s.u 0).length then (0, true, 0)
  else (0, false, s.run)
theorem Pac.rund {w w' : World} {p : Nat} {s : PS} {b : Nat} {r : Nat → Nat} {U : Nat → Nat → Prop} (h : Pac w p s b r U) (v : Int) : Pac (w.setCell ⟨p, 4, none⟩ (.int .i64 v)) p { s with run := v } b r U ∧ Ext (fun k => k = p) w (w.setCell ⟨p, 4, none⟩ (.int .i64 v)) := by
  have hs : Ext (fun k => k = p) w (w.setCell ⟨p, 4, none⟩ (.int .i64 v)) := (Ext.refl _ _).set (by rfl)
  exact ⟨⟨blk_set h.blk 4 _, h.map.keep hs (fun e => h.pb e.symm), fun c hc => (h.q c hc).keep hs (fun k hk e => h.dp c hc (e ▸ hk)), h.pb, h.dp, h.db, h.dq⟩, hs⟩
theorem Pac.totald {w w' : World} {p : Nat} {s : PS} {b : Nat} {r : Nat → Nat} {U : Nat → Nat → Prop} (h : Pac w p s b r U) (v : Int) : Pac (w.setCell ⟨p, 5, none⟩ (.int .i64 v)) p { s with total := v } b r U ∧ Ext (fun k => k = p) w (w.setCell ⟨p, 5, none⟩ (.int .i64 v)) := by
  have hs : Ext (fun k => k = p) w (w.setCell ⟨p, 5, none⟩ (.int .i64 v)) := (Ext.refl _ _).set (by rfl)
  exact ⟨⟨blk_set h.blk 5 _, h.map.keep hs (fun e => h.pb e.symm), fun c hc => (h.q c hc).keep hs (fun k hk e => h.dp c hc (e ▸ hk)), h.pb, h.dp, h.db, h.dq⟩, hs⟩
theorem len_qn {w : World} {r : Nat} {T : Nat → Prop} {xs : List (Int × Int)} (h : RQ w r T xs) {n : Nat} (hn : n = xs.length) :
    Calls Try.prog 41 #[.pointer (some ⟨r, 0, none⟩)] w fun e w' => e = .returned (.int .i64 n) ∧ w = w' := by
  rw [hn]
  exact len_q h
set_option maxHeartbeats 1600000 in
theorem turn_p {w : World} {p : Nat} {s : PS} {b : Nat} {r : Nat → Nat} {U : Nat → Nat → Prop} (h : Pac w p s b r U) (h1 : 0 ≤ s.run) (h2 : s.run ≤ 4) (c : Nat) (ok : Bool) (run : Int) (ht : turnOf s = (c, ok, run)) :
    Calls Try.prog 29 #[.pointer (some ⟨p, 0, none⟩)] w fun e w' => e = .returned (.tuple #[.int .i64 c, .bool ok]) ∧ Pac w' p { s with run := run } b r U ∧ Ext (fun k => k = p) w w' := by
  have q0 : ∀ y : Lat (fun _ => False) w, y.W.cell? ⟨p, 1, none⟩ = some (.pointer (some ⟨r 0, 0, none⟩)) := fun y => (blk_cell (New.keep y.ext h.blk) 1).trans rfl
  have q1 : ∀ y : Lat (fun _ => False) w, y.W.cell? ⟨p, 2, none⟩ = some (.pointer (some ⟨r 1, 0, none⟩)) := fun y => (blk_cell (New.keep y.ext h.blk) 2).trans rfl
  unfold turnOf at ht
  obtain ⟨n0, hn0⟩ : ∃ n, n = (s.u 0).length := ⟨_, rfl⟩
  obtain ⟨n1, hn1⟩ : ∃ n, n = (s.u 1).length := ⟨_, rfl⟩
  rw [← hn0, ← hn1] at ht
  have HT := hide ht
  have HN0 := hide hn0
  have HN1 := hide hn1
  clear ht hn0 hn1
  go_enter Try.func29, Try.ntmps29
  go_wp2_with fail
  refine mix_start (fun _ => False) w (by kernel_rfl) ?_
  refine mix_batch [0, 1, 2, 3, 4, 6, 7, 8, 9, 10] (by kernel_rfl) 4 _ _ _ (by kernel_rfl) (lat_mem (by (repeat (first | exact Ext.refl _ _ | assumption | apply Ext.alloc | apply Ext.drewN | apply Ext.drew | refine Ext.setCell ?_ (fun h => by first | rfl | exact absurd h (by dsimp only; omega)) _)))) ?_
  simp only [pickOps, List.getD_cons_zero, List.getD_cons_succ]
  repeat (go_big_quiet_step (fail))
  refine wpQuiet_nil ?_
  refine mix_loud (i := 5) (by kernel_rfl) rfl (fun K hK => ?_)
  go_simp
  refine (len_qn ((h.q 0 (by omega)).keep (show New w _ by (repeat (first | exact Ext.refl _ _ | assumption | apply Ext.alloc | apply Ext.drewN | apply Ext.drew | refine Ext.setCell ?_ (fun h => by first | rfl | exact absurd h (by dsimp only; omega)) _))) (fun _ _ h => h)) HN0.out).mono ?_
  rintro e w2 ⟨rfl, rfl⟩
  refine hK.out _ _ (lat_mem (by (repeat (first | exact Ext.refl _ _ | assumption | apply Ext.alloc | apply Ext.drewN | apply Ext.drew | refine Ext.setCell ?_ (fun h => by first | rfl | exact absurd h (by dsimp only; omega)) _)))) ?_
  clear hK
  refine mix_loud (i := 11) (by kernel_rfl) rfl (fun K hK => ?_)
  go_simp
  refine (len_qn ((h.q 1 (by omega)).keep (show New w _ by (repeat (first | exact Ext.refl _ _ | assumption | apply Ext.alloc | apply Ext.drewN | apply Ext.drew | refine Ext.setCell ?_ (fun h => by first | rfl | exact absurd h (by dsimp only; omega)) _))) (fun _ _ h => h)) HN1.out).mono ?_
  rintro e w2 ⟨rfl, rfl⟩
  refine hK.out _ _ (lat_mem (by (repeat (first | exact Ext.refl _ _ | assumption | apply Ext.alloc | apply Ext.drewN | apply Ext.drew | refine Ext.setCell ?_ (fun h => by first | rfl | exact absurd h (by dsimp only; omega)) _)))) ?_
  clear hK
  refine mix_batch [12, 13] (by kernel_rfl) 0 _ _ _ (by kernel_rfl) (lat_mem (by (repeat (first | exact Ext.refl _ _ | assumption | apply Ext.alloc | apply Ext.drewN | apply Ext.drew | refine Ext.setCell ?_ (fun h => by first | rfl | exact absurd h (by dsimp only; omega)) _)))) ?_
  simp only [pickOps, List.getD_cons_zero, List.getD_cons_succ]
  repeat (go_big_quiet_step (fail))
  refine wpQuiet_nil ?_
  refine wpAnyH_done (by kernel_rfl) (NoPanic.normal ?_) _
  clear q0 q1
  have hn2 : New w w.drew := by (repeat (first | exact Ext.refl _ _ | assumption | apply Ext.alloc | apply Ext.drewN | apply Ext.drew | refine Ext.setCell ?_ (fun h => by first | rfl | exact absurd h (by dsimp only; omega)) _))
  have h2 := h.new hn2
  generalize w.drew = w2 at *
  have c4 := (blk_cell h2.blk 4).trans rfl
  have f4 := blk_free h2.blk 4
  by_cases a1 : 0 < n1
  · have e1 : decide (0 < (n1 : Int)) = true := decide_eq_true (by omega)
    have e1n : decide (0 < n1) = true := decide_eq_true (by omega)
    by_cases a0 : n0 = 0
    · have e0 : ((n0 : Int) == 0) = true := by simpa using a0
      have HT1 := HT.out
      rw [if_pos ⟨a1, a0⟩] at HT1
      simp only [Prod.mk.injEq] at HT1
      obtain ⟨rfl, rfl, rfl⟩ := HT1
      clear HT
      obtain ⟨h3, he⟩ := h2.rund (w' := w2) 0
      go_wp2_with fail
      go_ret2
      exact ⟨rfl, h3, hn2.to.trans he (fun _ _ h => h)⟩
    · have e0 : ((n0 : Int) == 0) = false := by simpa using a0
      have e4 : decide (0 < (n0 : Int)) = true := decide_eq_true (by omega)
      have e4n : decide (0 < n0) = true := decide_eq_true (by omega)
      by_cases a2 : s.run < 4
      · have e2 : decide (s.run < 4) = true := decide_eq_true a2
        have HT1 := HT.out
        rw [if_neg (fun h => a0 h.2), if_pos ⟨a1, a2⟩] at HT1
        simp only [Prod.mk.injEq] at HT1
        obtain ⟨rfl, rfl, rfl⟩ := HT1
        clear HT
        obtain ⟨h3, he⟩ := h2.rund (w' := w2) (s.run + 1)
        go_wp2_with fail
        go_ret2
        exact ⟨rfl, h3, hn2.to.trans he (fun _ _ h => h)⟩
      · have e2 : decide (s.run < 4) = false := decide_eq_false a2
        have HT1 := HT.out
        rw [if_neg (fun h => a0 h.2), if_neg (fun h => a2 h.2), if_pos (by omega)] at HT1
        simp only [Prod.mk.injEq] at HT1
        obtain ⟨rfl, rfl, rfl⟩ := HT1
        clear HT a2
        obtain ⟨h3, he⟩ := h2.rund (w' := w2) 0
        go_wp2_with fail
        go_ret2
        exact ⟨rfl, h3, hn2.to.trans he (fun _ _ h => h)⟩
  · have e1 : decide (0 < (n1 : Int)) = false := decide_eq_false (by omega)
    have e1n : decide (0 < n1) = false := decide_eq_false (by omega)
    by_cases a0 : 0 < n0
    · have e4 : decide (0 < (n0 : Int)) = true := decide_eq_true (by omega)
      have HT1 := HT.out
      rw [if_neg (fun h => a1 h.1), if_neg (fun h => a1 h.1), if_pos a0] at HT1
      simp only [Prod.mk.injEq] at HT1
      obtain ⟨rfl, rfl, rfl⟩ := HT1
      clear HT
      obtain ⟨h3, he⟩ := h2.rund (w' := w2) 0
      go_wp2_with fail
      go_ret2
      exact ⟨rfl, h3, hn2.to.trans he (fun _ _ h => h)⟩
    · have e4 : decide (0 < (n0 : Int)) = false := decide_eq_false (by omega)
      have HT1 := HT.out
      rw [if_neg (fun h => a1 h.1), if_neg (fun h => a1 h.1), if_neg a0] at HT1
      simp only [Prod.mk.injEq] at HT1
      obtain ⟨rfl, rfl, rfl⟩ := HT1
      clear HT
      go_wp2_with fail
      go_ret2
      exact ⟨rfl, h2, hn2.to⟩
end Go.Proofs.Ytmonhhodbinagaa
