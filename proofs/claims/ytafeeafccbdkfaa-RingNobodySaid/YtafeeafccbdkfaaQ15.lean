/- Walks: the document's Push and Below. -/
import Derived.Test.YtafeeafccbdkfaaQ14
namespace Go.Proofs.Ytafeeafccbdkfaa
open Go.RowKit
set_option maxRecDepth 100000

theorem two_new (w : World) (a b : Array Value) (s t : TypeId) : ∃ w0, w0 = (w.alloc (.cells a s)).alloc (.cells b t) ∧ w0.heap[w.heap.size]? = some (.cells a s) ∧ w0.heap[w.heap.size + 1]? = some (.cells b t) ∧ New w w0 ∧ w0.heap.size = w.heap.size + 2 := by
  refine ⟨_, rfl, blk_alloc (blk_new w _) _, ?_, by (repeat (first | exact Ext.refl _ _ | assumption | apply Ext.alloc | apply Ext.drewN | apply Ext.drew | refine Ext.setCell ?_ (fun h => by first | rfl | exact absurd h (by dsimp only; omega)) _)), by simp⟩
  have := blk_new (w.alloc (Obj.cells a s)) (Obj.cells b t)
  rwa [World.size_alloc] at this
/-- What turns only blocks beyond w's is new. -/
theorem new_of {w w0 w' : World} (h : New w w0) (he : Ext (fun k => w.heap.size + 1 ≤ k) w0 w') : New w w' :=
  ⟨he.os.trans h.os, he.tape.trans h.tape, he.output.trans h.output, Nat.le_trans h.size he.size, fun i hi _ => (he.block i (Nat.lt_of_lt_of_le hi h.size) (by omega)).trans (h.block i hi (fun h => h))⟩

set_option maxHeartbeats 800000 in
theorem rpush_no (A : Option Addr) (n c : Nat) (N : Nat) (B : Option Addr) (m d : Nat) (w : World) (hn : n ≤ N) (hN : N ≤ 4096) (hm : m ≤ 9223372036854775807) (h : ¬ n + m ≤ N) :
    Calls Try.prog 40 #[.agg #[.slice A n c, .int .i64 N], .slice B m d] w fun e w' => e = .returned (.tuple #[.agg #[.slice A n c, .int .i64 N], .int .i64 8]) ∧ New w w' := by
  have d1 : decide ((N : Int) - n < m) = true := decide_eq_true (by omega)
  go_enter Try.func40, Try.ntmps40
  go_wp2_with fail
  refine bodyPost_ret (v := .tuple #[.agg #[.slice A n c, .int .i64 N], .int .i64 8]) (by simp [results, Try.results40, go_sem]) rfl ⟨rfl, by (repeat (first | exact Ext.refl _ _ | assumption | apply Ext.alloc | apply Ext.drewN | apply Ext.drew | refine Ext.setCell ?_ (fun h => by first | rfl | exact absurd h (by dsimp only; omega)) _))⟩

set_option maxHeartbeats 2000000 in
theorem rpush_yes (A : Option Addr) (n c : Nat) (xs : List Int) (N : Nat) (B : Option Addr) (m d : Nat) (l : List Int) (w : World) (hr : Rd w 1 A n c (vsi xs)) (hl : Rd w 1 B m d (vsi l)) (hN : N ≤ 4096) (h : n + m ≤ N) :
    Calls Try.prog 40 #[.agg #[.slice A n c, .int .i64 N], .slice B m d] w fun e w' => ∃ A' c', e = .returned (.tuple #[.agg #[.slice A' (n + m) c', .int .i64 N], .int .i64 0]) ∧ Own w' w.heap.size 3 1 A' (n + m) c' (vsi (xs ++ l)) ∧ New w w' := by
  have d1 : decide ((N : Int) - n < m) = false := decide_eq_false (by omega)
  go_enter Try.func40, Try.ntmps40
  have hl0 := Own.lit0 ((w.alloc (.cells #[.slice A n c, .int .i64 N] 31)).alloc (.cells #[.slice none 0 0, .int .i64 0] 31)) (w.heap.size + 2) 3 1 (by simp)
  rw [World.size_alloc, World.size_alloc] at hl0
  obtain ⟨w0, hw0, hb0, hb1, hn0, hs0⟩ := two_new w #[.slice A n c, .int .i64 N] #[.slice none 0 0, .int .i64 0] 31 31
  go_wp2_with (at_builtin; refine app_i rfl _ _ rfl (w.heap.size + 2) rfl rfl hl0 (hr.new (by (repeat (first | exact Ext.refl _ _ | assumption | apply Ext.alloc | apply Ext.drewN | apply Ext.drew | refine Ext.setCell ?_ (fun h => by first | rfl | exact absurd h (by dsimp only; omega)) _)))) (by omega) (by simp) ?_; intro A2 c2 w2 ho2 he2 hA2)
  rw [Nat.zero_add, List.nil_append] at ho2
  rw [← hw0] at he2
  have hn02 : New w0 w2 := (New.alloc1 w0 _).trans he2 (fun i hi hk => by have := (inA_some _ _).1 hk; simp at this; omega)
  have hb0' := hn02.keep hb0
  have hb1' := hn02.keep hb1
  have hs2 := hn02.size
  have HW := hide hw0
  clear hw0 hl0
  have g0 : ∀ x : Lat (fun k => w.heap.size + 1 ≤ k) w2, x.W.cell? ⟨w.heap.size, 0, none⟩ = some (.slice A n c) := fun x => (blk_cell (Ext.keep x.ext hb0' (by omega)) 0).trans rfl
  have g1 : ∀ x : Lat (fun k => w.heap.size + 1 ≤ k) w2, x.W.cell? ⟨w.heap.size, 1, none⟩ = some (.int .i64 N) := fun x => (blk_cell (Ext.keep x.ext hb0' (by omega)) 1).trans rfl
  refine mix_start (fun k => w.heap.size + 1 ≤ k) w2 (by kernel_rfl) ?_
  refine mix_batch [0, 1, 3, 4] (by kernel_rfl) 4 _ _ _ (by kernel_rfl) (lat_mem (by (repeat (first | exact Ext.refl _ _ | assumption | apply Ext.alloc | apply Ext.drewN | apply Ext.drew | refine Ext.setCell ?_ (fun h => by first | rfl | exact absurd h (by dsimp only; omega)) _)))) ?_
  simp only [pickOps, List.getD_cons_zero, List.getD_cons_succ]
  repeat (go_big_quiet_step (fail))
  refine wpQuiet_nil ?_
  refine mix_loud (i := 2) (by kernel_rfl) rfl (fun K hK => ?_)
  rw [if_pos (by kernel_rfl)]
  obtain ⟨A3, c3, w3, hrun, ho3, he3, hA3⟩ := run_app (P := Try.prog) w2.drew (w.heap.size + 2) 22 22 3 (.int .i64 0) 1 8 Try.underlying22 info_i rfl (by decide) (by decide) (ho2.new (show New w2 w2.drew by (repeat (first | exact Ext.refl _ _ | assumption | apply Ext.alloc | apply Ext.drewN | apply Ext.drew | refine Ext.setCell ?_ (fun h => by first | rfl | exact absurd h (by dsimp only; omega)) _)))) (hl.new (hn0.then (hn02.then (show New w2 w2.drew by (repeat (first | exact Ext.refl _ _ | assumption | apply Ext.alloc | apply Ext.drewN | apply Ext.drew | refine Ext.setCell ?_ (fun h => by first | rfl | exact absurd h (by dsimp only; omega)) _)))))) (by omega) (by show w.heap.size + 2 ≤ w2.heap.size; omega)
  refine Lib.wp_append_run _ _ _ _ _ rfl _ _ rfl rfl _ _ hrun ?_
  have he23 : Ext (fun k => w.heap.size + 1 ≤ k) w2 w3 := Ext.trans (show Ext (fun k => w.heap.size + 1 ≤ k) w2 w2.drew by (repeat (first | exact Ext.refl _ _ | assumption | apply Ext.alloc | apply Ext.drewN | apply Ext.drew | refine Ext.setCell ?_ (fun h => by first | rfl | exact absurd h (by dsimp only; omega)) _))) (he3.mono (fun k _ hk => by have := (ho2.at_ hk).1; omega)) (fun _ _ h => h)
  refine hK.out _ _ (lat_mem he23) ?_
  clear hK
  rw [← vsi_append] at ho3
  have hb3 : w3.heap[w.heap.size + 1]? = some (.cells #[.slice none 0 0, .int .i64 0] 31) := he3.keep (show w2.drew.heap[w.heap.size + 1]? = _ from hb1') (fun hk => by have := (ho2.at_ hk).1; omega)
  have j0 : w3.cell? ⟨w.heap.size + 1, 0, none⟩ = some (.slice none 0 0) := (blk_cell hb3 0).trans rfl
  have j1 : w3.cell? ⟨w.heap.size + 1, 1, none⟩ = some (.int .i64 0) := (blk_cell hb3 1).trans rfl
  have f0 := blk_free hb3 0
  have f1 := blk_free hb3 1
  go_simp
  refine mix_batch [5] (by kernel_rfl) 2 _ _ _ (by kernel_rfl) (lat_mem he23) ?_
  simp only [pickOps, List.getD_cons_zero, List.getD_cons_succ]
  repeat (go_big_quiet_step (fail))
  refine wpQuiet_nil ?_
  refine mix_loud (i := 6) (by kernel_rfl) rfl (fun K hK => ?_)
  go_simp
  have he34 : Ext (fun k => k = w.heap.size + 1) w3 ((w3.setCell ⟨w.heap.size + 1, 0, none⟩ (.slice A3 (n + m) c3)).setCell ⟨w.heap.size + 1, 1, none⟩ (.int .i64 N)) := ((Ext.refl _ w3).set (by rfl)).set (by rfl)
  have hb4 := blk_set (blk_set hb3 0 (.slice A3 (n + m) c3)) 1 (.int .i64 N)
  have ho4 := ho3.keep he34 (fun k hk e => by have := (ho3.at_ hk).1; omega)
  have he24 := he23.trans he34 (fun k _ e => by omega)
  refine hK.out _ _ (lat_mem he24) ?_
  clear hK j0 j1 f0 f1
  generalize (w3.setCell ⟨w.heap.size + 1, 0, none⟩ (.slice A3 (n + m) c3)).setCell ⟨w.heap.size + 1, 1, none⟩ (.int .i64 N) = w4 at *
  refine mix_batch [7] (by kernel_rfl) 0 _ _ _ (by kernel_rfl) (lat_mem he24) ?_
  simp only [pickOps, List.getD_cons_zero, List.getD_cons_succ]
  repeat (go_big_quiet_step (fail))
  refine wpQuiet_nil ?_
  refine wpAnyH_done (by kernel_rfl) (NoPanic.normal ?_) _
  clear g0 g1
  have d0 : w4.cell? ⟨w.heap.size + 1, 0, none⟩ = some (.slice A3 (n + m) c3) := (blk_cell hb4 0).trans rfl
  have d1 : w4.cell? ⟨w.heap.size + 1, 1, none⟩ = some (.int .i64 N) := (blk_cell hb4 1).trans rfl
  go_wp2
  refine bodyPost_ret (v := .tuple #[.agg #[.slice A3 (n + m) c3, .int .i64 N], .int .i64 0]) (by simp [results, Try.results40, go_sem, d0, d1]) rfl ?_
  exact ⟨A3, c3, rfl, ho4.le (by omega), new_of (hn0.then hn02) he24⟩

set_option maxHeartbeats 2000000 in
theorem rbelow_any (A : Option Addr) (n c : Nat) (xs : List Int) (N : Nat) (t : Int) (w : World) (h : Rd w 1 A n c (vsi xs)) (hn4 : n ≤ 4096) :
    Calls Try.prog 39 #[.agg #[.slice A n c, .int .i64 N], .int .i64 t] w fun e w' => ∃ A' c', e = .returned (.tuple #[.agg #[.slice A' (xs.filter (fun x => decide (t ≤ x))).length c', .int .i64 N], .int .i64 ((n : Int) - (xs.filter (fun x => decide (t ≤ x))).length)]) ∧ Own w' w.heap.size 3 1 A' (xs.filter (fun x => decide (t ≤ x))).length c' (vsi (xs.filter (fun x => decide (t ≤ x)))) ∧ New w w' := by
  obtain ⟨f, hf⟩ : ∃ f : Int → Bool, f = fun x => decide (t ≤ x) := ⟨_, rfl⟩
  rw [← hf]
  have HF := hide hf
  clear hf
  have hlen := h.leni
  have HL := hide hlen
  clear hlen
  obtain ⟨w0, hw0, hb0, hb1, hn0, hs0⟩ := two_new w #[.slice A n c, .int .i64 N] #[.slice none 0 0, .int .i64 0] 31 31
  go_enter Try.func39, Try.ntmps39
  go_wp2_with fail
  rw [← hw0]
  have HW := hide hw0
  clear hw0
  go_loopw [6, 7] (fun s6 s21 wr => Ext (fun k => w.heap.size + 2 ≤ k) w0 wr ∧ ∃ k A' c', k ≤ n ∧ s21 = .int .i64 (k : Nat) ∧ s6 = .slice A' ((xs.take k).filter f).length c' ∧ Own wr (w.heap.size + 2) 3 1 A' ((xs.take k).filter f).length c' (vsi ((xs.take k).filter f))) (fun _ i _ => n - (intOf i).toNat)
  case atStart => exact ⟨Ext.refl _ _, 0, none, 0, Nat.zero_le _, rfl, by simp, by simpa [vsi] using Own.nil _ _ _ _⟩
  case round =>
    obtain ⟨hew, k, A', c', hk, rfl, rfl, ho⟩ := hrel
    have hnw : New w0 wr := hew.mono (fun k hk h => absurd hk (by omega))
    have hbw := hnw.keep hb0
    have hb1w := hnw.keep hb1
    have k0 : wr.cell? ⟨w.heap.size, 0, none⟩ = some (.slice A n c) := (blk_cell hbw 0).trans rfl
    have k1 : wr.cell? ⟨w.heap.size, 1, none⟩ = some (.int .i64 N) := (blk_cell hbw 1).trans rfl
    have hml : ((xs.take k).filter f).length ≤ 4096 := Nat.le_trans (List.length_filter_le _ _) (by rw [List.length_take]; have := HL.out; omega)
    obtain ⟨L, hL⟩ : ∃ L, L = (xs.take k).filter f := ⟨_, rfl⟩
    rw [← hL] at hml ho
    rw [← hL]
    have HLL := hide hL
    clear hL
    by_cases hkn : k < n
    · have d1 : decide ((k : Int) < n) = true := decide_eq_true (by omega)
      have d2 : decide (k < n) = true := decide_eq_true (by omega)
      obtain ⟨ad, rfl⟩ := h.some (by omega)
      obtain ⟨x, hx⟩ : ∃ x, xs[k]? = some x := ⟨_, List.getElem?_eq_getElem (by have := HL.out; omega)⟩
      have hcx := ((h.new hn0).new hnw).celli hx
      have hnext : (xs.take (k + 1)).filter f = L ++ (if f x then [x] else []) := by rw [take_snoc xs k x hx, List.filter_append, ← HLL.out]; cases hfx : f x <;> simp [hfx]
      have HX := hide hnext
      clear hx hnext
      by_cases htx : t ≤ x
      · have d3 : decide (t ≤ x) = true := decide_eq_true (by omega)
        have hfx : f x = true := by rw [HF.out]; exact decide_eq_true htx
        have hsz := hew.size
        go_wp2_with (at_builtin; refine app_i rfl _ _ rfl (w.heap.size + 2) rfl rfl (ho.new (New.alloc1 _ _)) (rd_box _ _ _ rfl) (by omega) (by simp; omega) ?_; intro A2 c2 w2 ho2 he2 hA2)
        have hx2 := HX.out
        rw [hfx, if_pos rfl] at hx2
        have hN := (hew.alloc _).trans he2 (fun k hk hj => by have := (ho.at_ hj).1; omega)
        go_roundw
        case rel =>
          refine ⟨hN, k + 1, A2, c2, by omega, by go_num, by rw [hx2]; simp, by rw [hx2, vsi_append]; simpa [vsi] using ho2⟩
        case measure => simp [intOf]; omega
      · have d3 : decide (t ≤ x) = false := decide_eq_false (by omega)
        have hfx : f x = false := by rw [HF.out]; exact decide_eq_false htx
        go_wp2_with fail
        have hx2 := HX.out
        rw [hfx] at hx2
        simp only [Bool.false_eq_true, if_false, List.append_nil] at hx2
        go_roundw
        case rel =>
          refine ⟨hew, k + 1, A', c', by omega, by go_num, by rw [hx2], by rw [hx2]; exact ho⟩
        case measure => simp [intOf]; omega
    · have d1 : decide ((k : Int) < n) = false := decide_eq_false (by omega)
      have d2 : decide (k < n) = false := decide_eq_false (by omega)
      have hfin : xs.filter f = L := by rw [HLL.out, List.take_of_length_le (by have := HL.out; omega)]
      have HFN := hide hfin
      clear hfin
      go_wp2_with fail
      clear k0 k1
      have g0 : ∀ x : Lat (fun k => w.heap.size + 1 ≤ k) wr, x.W.cell? ⟨w.heap.size, 0, none⟩ = some (.slice A n c) := fun x => (blk_cell (Ext.keep x.ext hbw (by omega)) 0).trans rfl
      have g1 : ∀ x : Lat (fun k => w.heap.size + 1 ≤ k) wr, x.W.cell? ⟨w.heap.size, 1, none⟩ = some (.int .i64 N) := fun x => (blk_cell (Ext.keep x.ext hbw (by omega)) 1).trans rfl
      refine mix_start (fun k => w.heap.size + 1 ≤ k) wr (by kernel_rfl) ?_
      refine mix_batch [0, 1, 2, 3, 4, 5, 6, 7, 8, 9] (by kernel_rfl) 2 _ _ _ (by kernel_rfl) (lat_mem (by (repeat (first | exact Ext.refl _ _ | assumption | apply Ext.alloc | apply Ext.drewN | apply Ext.drew | refine Ext.setCell ?_ (fun h => by first | rfl | exact absurd h (by dsimp only; omega)) _)))) ?_
      simp only [pickOps, List.getD_cons_zero, List.getD_cons_succ]
      repeat (go_big_quiet_step (fail))
      refine wpQuiet_nil ?_
      have j0 : wr.cell? ⟨w.heap.size + 1, 0, none⟩ = some (.slice none 0 0) := (blk_cell hb1w 0).trans rfl
      have j1 : wr.cell? ⟨w.heap.size + 1, 1, none⟩ = some (.int .i64 0) := (blk_cell hb1w 1).trans rfl
      have f0 := blk_free hb1w 0
      have f1 := blk_free hb1w 1
      refine mix_loud (i := 10) (by kernel_rfl) rfl (fun K hK => ?_)
      go_simp
      have he34 : Ext (fun k => w.heap.size + 1 = k) wr (((wr.setCell ⟨w.heap.size + 1, 0, none⟩ (.slice A' L.length c')).setCell ⟨w.heap.size + 1, 1, none⟩ (.int .i64 N)).drew) := (((Ext.refl _ wr).set (by rfl)).set (by rfl)).drew
      have hb4 : (((wr.setCell ⟨w.heap.size + 1, 0, none⟩ (.slice A' L.length c')).setCell ⟨w.heap.size + 1, 1, none⟩ (.int .i64 N)).drew).heap[w.heap.size + 1]? = _ := blk_set (blk_set hb1w 0 (.slice A' L.length c')) 1 (.int .i64 N)
      have ho4 := ho.keep he34 (fun k hk e => by have := (ho.at_ hk).1; omega)
      have he35 := he34.mono (T := fun k => w.heap.size + 1 ≤ k) (fun k _ e => by omega)
      refine hK.out _ _ (lat_mem he35) ?_
      clear hK j0 j1 f0 f1
      generalize ((wr.setCell ⟨w.heap.size + 1, 0, none⟩ (.slice A' L.length c')).setCell ⟨w.heap.size + 1, 1, none⟩ (.int .i64 N)).drew = w4 at *
      refine mix_batch [11] (by kernel_rfl) 0 _ _ _ (by kernel_rfl) (lat_mem he35) ?_
      simp only [pickOps, List.getD_cons_zero, List.getD_cons_succ]
      repeat (go_big_quiet_step (fail))
      refine wpQuiet_nil ?_
      refine wpAnyH_done (by kernel_rfl) (NoPanic.normal ?_) _
      clear g0 g1
      have d0 : w4.cell? ⟨w.heap.size + 1, 0, none⟩ = some (.slice A' L.length c') := (blk_cell hb4 0).trans rfl
      have d1 : w4.cell? ⟨w.heap.size + 1, 1, none⟩ = some (.int .i64 N) := (blk_cell hb4 1).trans rfl
      go_wp2
      refine bodyPost_ret (v := .tuple #[.agg #[.slice A' L.length c', .int .i64 N], .int .i64 ((n : Int) - L.length)]) (by simp [results, Try.results39, go_sem, d0, d1]) rfl ?_
      rw [HFN.out]
      exact ⟨A', c', rfl, ho4.le (by omega), new_of (hn0.then hnw) he35⟩
end Go.Proofs.Ytafeeafccbdkfaa
