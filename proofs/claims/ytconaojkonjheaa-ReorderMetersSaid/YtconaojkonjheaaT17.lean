/- The law on reports. -/
import Derived.Test.YtconaojkonjheaaT16
namespace Go.Proofs.Ytconaojkonjheaa
open Go.RowKit Go.Maps
set_option maxRecDepth 100000

theorem rep_eq (r : Rp) (w : World) : Calls Try.prog 16 #[rpV r, rpV r] w fun e w' => e = .returned (.bool true) ∧ New w w' := by
  unfold rpV
  go_enter Try.func16, Try.ntmps16
  go_wp2_with fail
  go_ret
  exact ⟨rfl, by (repeat (first | exact Ext.refl _ _ | assumption | apply Ext.alloc | apply Ext.drewN | apply Ext.drew | refine Ext.setCell ?_ (fun h => by first | rfl | exact absurd h (by dsimp only; omega)) _))⟩

theorem heldF_val {l : List Int} {m : Nat} (h : IsMex l m) : heldF l = ((cnt l m : Nat) : Int) := by
  obtain rfl := h.uniq (mexOf_spec l)
  rfl
theorem RP_awake : RP [0, 2, 3, 1] = ⟨4, 0, 1, 2, 2, 2⟩ := by
  have h1 : RP [0] = ⟨1, 0, 0, 0, 0, 0⟩ := by
    have := RP_snoc [] 0
    rw [RP_nil, heldF_val (l := [] ++ [0]) (m := 1) (by unfold IsMex; decide)] at this
    exact this
  have h2 : RP [0, 2] = ⟨2, 0, 0, 0, 0, 1⟩ := by
    have := RP_snoc [0] 2
    rw [h1, heldF_val (l := [0] ++ [2]) (m := 1) (by unfold IsMex; decide)] at this
    exact this
  have h3 : RP [0, 2, 3] = ⟨3, 0, 0, 0, 0, 2⟩ := by
    have := RP_snoc [0, 2] 3
    rw [h2, heldF_val (l := [0, 2] ++ [3]) (m := 1) (by unfold IsMex; decide)] at this
    exact this
  have := RP_snoc [0, 2, 3] 1
  rw [h3, heldF_val (l := [0, 2, 3] ++ [1]) (m := 4) (by unfold IsMex; decide)] at this
  exact this

theorem rd_ints (w : World) (l : List Int) (hn : l.length ≤ 4096) : Rd (w.alloc (.cells (vsi l).toArray 3)) 1 (some ⟨w.heap.size, 0, none⟩) l.length l.length (vsi l) :=
  rd_lit w 3 1 l.length (vsi l).toArray (by omega) (by simp [vsi]) (by intro u hu; simp [vsi] at hu; obtain ⟨_, _, rfl⟩ := hu; rfl)

set_option maxHeartbeats 1000000 in
theorem awake_any (w : World) : Calls Try.prog 18 #[] w fun e w' => e = .returned (.bool true) ∧ New w w' := by
  have hml : mayL [0, 2, 3, 1] := ⟨by decide, by decide⟩
  go_enter Try.func18, Try.ntmps18
  go_wp2_with fail
  refine (of_any _ 4 4 [0, 2, 3, 1] _ (rd_ints w [0, 2, 3, 1] (by decide))).mono ?_
  rintro e w1 ⟨rfl, hn1⟩
  rw [if_pos hml, RP_awake, errL_yes hml]
  unfold rpV
  go_wp2_with fail
  have hrd := rd_ints (w1.alloc (.cells #[.int .i64 4, .int .i64 0, .int .i64 1, .int .i64 2, .int .i64 2, .int .i64 2] 25)) [0, 2, 3, 1] (by decide)
  rw [World.size_alloc] at hrd
  refine (rises_any _ 4 4 [0, 2, 3, 1] _ hrd).mono ?_
  rintro e w2 ⟨rfl, hn2⟩
  rw [show riC ([0, 2, 3, 1] : List Int) ([0, 2, 3, 1] : List Int).length = 2 by decide]
  go_wp2_with fail
  go_ret
  exact ⟨rfl, ((New.alloc1 w _).then hn1).then ((show New w1 _ by (repeat (first | exact Ext.refl _ _ | assumption | apply Ext.alloc | apply Ext.drewN | apply Ext.drew | refine Ext.setCell ?_ (fun h => by first | rfl | exact absurd h (by dsimp only; omega)) _))).then hn2)⟩

set_option maxHeartbeats 4000000 in
theorem law_reports_walk (A : Option Addr) (m c : Nat) (L : List Int) (w : World) (h : Rd w 1 A m c (vsi L)) :
    Calls Try.prog 3 #[.slice A m c] w fun e w' => e = .returned (.bool true) ∧ New w w' := by
  obtain ⟨n, hn⟩ : ∃ n, n = min m 60 := ⟨_, rfl⟩
  have hcut := h.takei n (by omega)
  have hcap := h.cap
  generalize L.take n = l at hcut
  have HN := hide hn
  clear hn
  go_enter Try.func3, Try.ntmps3
  go_wp2_with fail
  refine (cut_any A m c n _ hcap HN.out).mono ?_
  rintro e w1 ⟨rfl, rfl⟩
  go_wp2_with fail
  refine (of_any A n c l _ hcut).mono ?_
  rintro e w1 ⟨rfl, hn1⟩
  obtain ⟨R, hR⟩ : ∃ R, R = if mayL l then RP l else ⟨0, 0, 0, 0, 0, 0⟩ := ⟨_, rfl⟩
  rw [← hR]
  have HR := hide hR
  clear hR
  unfold rpV
  go_wp2_with fail
  refine (rof_any A n c l _ (hcut.new (hn1.then (New.alloc1 _ _)))).mono ?_
  rintro e w2 ⟨rfl, hn2⟩
  rw [← HR.out]
  unfold rpV
  go_wp2_with fail
  have hN2 : New w (w2.alloc (.cells #[.int .i64 R.came, .int .i64 R.rep, .int .i64 R.reo, .int .i64 R.ext, .int .i64 R.late, .int .i64 R.held] 29)) := (hn1.then (New.alloc1 _ _)).then (hn2.then (New.alloc1 _ _))
  have hba := (hn2.then (New.alloc1 w2 (.cells #[.int .i64 R.came, .int .i64 R.rep, .int .i64 R.reo, .int .i64 R.ext, .int .i64 R.late, .int .i64 R.held] 29))).keep (blk_new w1 _)
  have hbb := blk_new w2 (.cells #[.int .i64 R.came, .int .i64 R.rep, .int .i64 R.reo, .int .i64 R.ext, .int .i64 R.late, .int .i64 R.held] 29)
  generalize w2.alloc (.cells #[.int .i64 R.came, .int .i64 R.rep, .int .i64 R.reo, .int .i64 R.ext, .int .i64 R.late, .int .i64 R.held] 29) = w3 at *
  refine (Extents_any A n c l _ (hcut.new hN2)).mono ?_
  rintro e w4 ⟨Ax, mx', cx, rfl, hx4, hn4⟩
  go_wp2_with fail
  have hN4 := hN2.then hn4
  refine (rExtents_any A n c l _ (hcut.new hN4)).mono ?_
  rintro e w5 ⟨Ay, my, cy, rfl, hy5, hn5⟩
  go_wp2_with fail
  have hN5 := hN4.then hn5
  refine (Lates_any A n c l _ (hcut.new hN5)).mono ?_
  rintro e w6 ⟨Au, mu, cu, rfl, hu6, hn6⟩
  go_wp2_with fail
  have hN6 := hN5.then hn6
  refine (rLates_any A n c l _ (hcut.new hN6)).mono ?_
  rintro e w7 ⟨Av, mv, cv, rfl, hv7, hn7⟩
  have hN7 := hN6.then hn7
  have hn37 := (hn4.then hn5).then (hn6.then hn7)
  have hba7 := hn37.keep hba
  have hbb7 := hn37.keep hbb
  have a0 := (blk_cell hba7 0).trans rfl
  have b0 := (blk_cell hbb7 0).trans rfl
  have a1 := (blk_cell hba7 1).trans rfl
  have b1 := (blk_cell hbb7 1).trans rfl
  have a2 := (blk_cell hba7 2).trans rfl
  have b2 := (blk_cell hbb7 2).trans rfl
  have a3 := (blk_cell hba7 3).trans rfl
  have b3 := (blk_cell hbb7 3).trans rfl
  have a4 := (blk_cell hba7 4).trans rfl
  have b4 := (blk_cell hbb7 4).trans rfl
  have a5 := (blk_cell hba7 5).trans rfl
  have b5 := (blk_cell hbb7 5).trans rfl
  have hse := rep_eq R w7
  unfold rpV at hse
  go_wp2_with fail
  refine hse.mono ?_
  rintro e w8 ⟨rfl, hn8⟩
  clear a0 a1 a2 a3 a4 a5 b0 b1 b2 b3 b4 b5
  have hN8 := hN7.then hn8
  have hX : Rd w8 1 Ax mx' cx _ := (hx4.rd.new ((hn5.then hn6).then hn7)).new hn8
  have hY : Rd w8 1 Ay my cy _ := (hy5.rd.new (hn6.then hn7)).new hn8
  have hU : Rd w8 1 Au mu cu _ := (hu6.rd.new hn7).new hn8
  have hV : Rd w8 1 Av mv cv _ := hv7.rd.new hn8
  generalize (if mayL l then gs extF l else []) = X at hX hY
  generalize (if mayL l then gs lateF l else []) = Y at hU hV
  clear hx4 hy5 hu6 hv7 hba hbb hba7 hbb7 hse
  go_wp2_with fail
  refine (same_any Ax Ay _ _ _ _ X X _ hX hY).mono ?_
  rintro e w9 ⟨rfl, nd9, rfl⟩
  rw [decide_eq_true (rfl : X = X)]
  go_wp2_with fail
  refine (same_any Au Av _ _ _ _ Y Y _ (hU.new (new_draw _ nd9)) (hV.new (new_draw _ nd9))).mono ?_
  rintro e w10 ⟨rfl, nd10, rfl⟩
  rw [decide_eq_true (rfl : Y = Y)]
  go_wp2_with fail
  refine (awake_any _).mono ?_
  rintro e w11 ⟨rfl, hn11⟩
  go_wp2_with fail
  go_ret
  exact ⟨rfl, (hN8.then (new_draw w8 (nd9 + nd10))).then hn11⟩

theorem law_reports (A : Option Addr) (m c : Nat) (L : List Int) (w : World) (h : Rd w 1 A m c (L.map (Value.int .i64))) (_ : ∀ x ∈ L, (Lit.int .i64 x).wf = true) (_ : m * 8 ≤ 140737488351232) :
    Calls Try.prog 3 #[.slice A m c] w fun e w' => e = .returned (.bool true) ∧ New w w' := law_reports_walk A m c L w h
end Go.Proofs.Ytconaojkonjheaa
