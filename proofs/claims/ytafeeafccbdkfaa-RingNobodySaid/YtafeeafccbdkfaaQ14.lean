/- Walks: Drop; the document's New, Pop and Below. -/
import Derived.Test.YtafeeafccbdkfaaQ12
import Derived.Deep.DeepCutAuto
namespace Go.Proofs.Ytafeeafccbdkfaa
open Go.RowKit
set_option maxRecDepth 100000

/-- Block q is a call's words. -/
def Opb (w : World) (q : Nat) (d : Int) (v : Value) (t : Int) : Prop := w.heap[q]? = some (.cells #[.int .u8 d, v, .int .i64 t] 56)
theorem Opb.keep {S : Nat → Prop} {w w' : World} {q : Nat} {d : Int} {v : Value} {t : Int} (h : Opb w q d v t) (he : Ext S w w') (hs : ¬ S q) : Opb w' q d v t := he.keep (show w.heap[q]? = _ from h) hs
theorem Opb.c2 {w : World} {q : Nat} {d : Int} {v : Value} {t : Int} (h : Opb w q d v t) : w.cell? ⟨q, 2, none⟩ = some (.int .i64 t) := (blk_cell h 2).trans rfl

set_option maxHeartbeats 400000 in
theorem is_below (q : Nat) (d : Int) (v : Value) (t x : Int) (w : World) (h : Opb w q d v t) :
    Calls Try.prog 38 #[.int .i64 x, .pointer (some ⟨q, 0, none⟩)] w fun e w' => e = .returned (.bool (decide (x < t))) ∧ w = w' := by
  have c2 := h.c2
  go_enter Try.func38, Try.ntmps38
  go_wp2
  go_ret
  exact ⟨rfl, rfl⟩

set_option maxHeartbeats 2000000 in
theorem drop_any (p : Nat) (A : Option Addr) (n c : Nat) (xs : List Int) (room : Nat) (q : Nat) (d : Int) (v : Value) (t : Int) (w : World) (h : Rngi w p A n c xs room) (hq : Opb w q d v t) (hpq : q ≠ p) (hqA : ¬ inA A q) :
    Calls Try.prog 28 #[.pointer (some ⟨p, 0, none⟩), .func (.func 38) #[] #[.pointer (some ⟨q, 0, none⟩)]] w fun e w' => ∃ A' c', e = .returned (.int .i64 ((n : Int) - (xs.filter (fun x => decide (t ≤ x))).length)) ∧ Rngi w' p A' (xs.filter (fun x => decide (t ≤ x))).length c' (xs.filter (fun x => decide (t ≤ x))) room ∧ Ext (fun k => k = p) w w' ∧ Frs w A A' := by
  obtain ⟨f, hf⟩ : ∃ f : Int → Bool, f = fun x => decide (t ≤ x) := ⟨_, rfl⟩
  rw [← hf]
  have HF := hide hf
  clear hf
  have c0 := h.c0
  have hr2 := h.r2
  have hle := h.le
  go_enter Try.func28, Try.ntmps28
  go_wp2_with fail
  refine (none_i p A n c xs room _ h).mono ?_
  rintro e w1 ⟨rfl, rfl⟩
  go_wp2_with fail
  have hlen := h.len
  have HL := hide hlen
  clear hlen
  have hpl := h.lt
  have hql := blk_lt (show w.heap[q]? = _ from hq)
  go_loopw [6, 21] (fun s6 s21 wr => New w wr ∧ ∃ k A' c', k ≤ n ∧ s21 = .int .i64 (k : Nat) ∧ s6 = .slice A' ((xs.take k).filter f).length c' ∧ Own wr w.heap.size 3 1 A' ((xs.take k).filter f).length c' (vsi ((xs.take k).filter f))) (fun _ i _ => n - (intOf i).toNat)
  case atStart => exact ⟨Ext.refl _ _, 0, none, 0, Nat.zero_le _, rfl, by simp, by simpa [vsi] using Own.nil _ _ _ _⟩
  case round =>
    obtain ⟨hnw, k, A', c', hk, rfl, rfl, ho⟩ := hrel
    have hml : ((xs.take k).filter f).length ≤ 1024 := Nat.le_trans (List.length_filter_le _ _) (by rw [List.length_take]; omega)
    obtain ⟨L, hL⟩ : ∃ L, L = (xs.take k).filter f := ⟨_, rfl⟩
    rw [← hL] at hml ho
    rw [← hL]
    have HLL := hide hL
    clear hL
    by_cases hkn : k < n
    · have d1 : decide ((k : Int) < n) = true := decide_eq_true (by omega)
      have d2 : decide (k < n) = true := decide_eq_true (by omega)
      obtain ⟨ad, rfl⟩ := h.own.rd.some (by omega)
      obtain ⟨x, hx⟩ : ∃ x, xs[k]? = some x := ⟨_, List.getElem?_eq_getElem (by have := HL.out; omega)⟩
      have hcx := (h.own.rd.new hnw).celli hx
      have hnext : (xs.take (k + 1)).filter f = L ++ (if f x then [x] else []) := by rw [take_snoc xs k x hx, List.filter_append, ← HLL.out]; cases hfx : f x <;> simp [hfx]
      have HX := hide hnext
      clear hx hnext
      go_wp2_with fail
      refine (is_below q d v t x _ (hq.keep hnw (fun h => h))).mono ?_
      rintro e w1 ⟨rfl, rfl⟩
      by_cases htx : t ≤ x
      · have d3 : decide (x < t) = false := decide_eq_false (by omega)
        have hfx : f x = true := by rw [HF.out]; exact decide_eq_true htx
        rw [d3]
        have hsz := hnw.size
        go_wp2_with (at_builtin; refine app_i rfl _ _ rfl w.heap.size rfl rfl (ho.new (New.alloc1 _ _)) (rd_box _ _ _ rfl) (by omega) (by simp; omega) ?_; intro A2 c2 w2 ho2 he2 hA2)
        have hx2 := HX.out
        rw [hfx, if_pos rfl] at hx2
        have hN := (hnw.then (New.alloc1 _ _)).trans he2 (fun k hk hj => by have := (ho.at_ hj).1; omega)
        go_roundw
        case rel =>
          refine ⟨hN, k + 1, A2, c2, by omega, by go_num, by rw [hx2]; simp, by rw [hx2, vsi_append]; simpa [vsi] using ho2⟩
        case measure => simp [intOf]; omega
      · have d3 : decide (x < t) = true := decide_eq_true (by omega)
        have hfx : f x = false := by rw [HF.out]; exact decide_eq_false htx
        rw [d3]
        go_wp2_with fail
        have hx2 := HX.out
        rw [hfx] at hx2
        simp only [Bool.false_eq_true, if_false, List.append_nil] at hx2
        go_roundw
        case rel =>
          refine ⟨hnw, k + 1, A', c', by omega, by go_num, by rw [hx2], by rw [hx2]; exact ho⟩
        case measure => simp [intOf]; omega
    · have d1 : decide ((k : Int) < n) = false := decide_eq_false (by omega)
      have d2 : decide (k < n) = false := decide_eq_false (by omega)
      have hpw := hnw.keep h.blk
      have k0 : wr.cell? ⟨p, 0, none⟩ = some (.slice A n c) := blk_cell hpw 0
      have k1 := blk_free hpw 0
      have hfin : xs.filter f = L := by rw [HLL.out, List.take_of_length_le (by have := HL.out; omega)]
      have HFN := hide hfin
      clear hfin
      go_wp2_with fail
      go_ret
      rw [HFN.out]
      have hs2 := ((Ext.refl (fun k => k = p) wr).set (by rfl) : Ext (fun k => k = p) wr (wr.setCell ⟨p, 0, none⟩ (.slice A' L.length c')))
      have hLn : L.length ≤ n := by
        have := HLL.out
        have h2 := List.length_filter_le f (xs.take k)
        rw [← this, List.length_take] at h2
        omega
      refine ⟨A', c', rfl, ⟨blk_set hpw 0 _, ?_, h.r1, h.r2, by omega⟩, hnw.to.trans hs2 (fun _ _ h => h), fun k hk => .inr (ho.at_ hk).1⟩
      exact (ho.keep hs2 (fun k hk e => by have := (ho.at_ hk).1; omega)).rebase (fun k hk => by have := (ho.at_ hk).1; omega)

set_option maxHeartbeats 400000 in
theorem rnew_yes (r : Int) (h1 : 1 ≤ r) (h2 : r ≤ 1024) (w : World) :
    Calls Try.prog 20 #[.int .i64 r] w fun e w' => e = .returned (.tuple #[.agg #[.slice none 0 0, .int .i64 r], .int .i64 0]) ∧ New w w' := by
  have d1 : decide (r < 1) = false := decide_eq_false (by omega)
  have d2 : decide (1024 < r) = false := decide_eq_false (by omega)
  go_enter Try.func20, Try.ntmps20
  go_wp2
  refine bodyPost_ret (v := .tuple #[.agg #[.slice none 0 0, .int .i64 r], .int .i64 0]) (by simp [results, Try.results20, go_sem]) rfl ⟨rfl, by (repeat (first | exact Ext.refl _ _ | assumption | apply Ext.alloc | apply Ext.drewN | apply Ext.drew | refine Ext.setCell ?_ (fun h => by first | rfl | exact absurd h (by dsimp only; omega)) _))⟩
set_option maxHeartbeats 400000 in
theorem rnew_no (r : Int) (h : r < 1 ∨ 1024 < r) (w : World) :
    Calls Try.prog 20 #[.int .i64 r] w fun e w' => e = .returned (.tuple #[.agg #[.slice none 0 0, .int .i64 0], .int .i64 40]) ∧ New w w' := by
  by_cases h1 : r < 1
  · have d1 : decide (r < 1) = true := decide_eq_true (by omega)
    go_enter Try.func20, Try.ntmps20
    go_wp2
    refine bodyPost_ret (v := .tuple #[.agg #[.slice none 0 0, .int .i64 0], .int .i64 40]) (by simp [results, Try.results20, go_sem]) rfl ⟨rfl, by (repeat (first | exact Ext.refl _ _ | assumption | apply Ext.alloc | apply Ext.drewN | apply Ext.drew | refine Ext.setCell ?_ (fun h => by first | rfl | exact absurd h (by dsimp only; omega)) _))⟩
  · have d1 : decide (r < 1) = false := decide_eq_false (by omega)
    have d2 : decide (1024 < r) = true := decide_eq_true (by omega)
    go_enter Try.func20, Try.ntmps20
    go_wp2
    refine bodyPost_ret (v := .tuple #[.agg #[.slice none 0 0, .int .i64 0], .int .i64 40]) (by simp [results, Try.results20, go_sem]) rfl ⟨rfl, by (repeat (first | exact Ext.refl _ _ | assumption | apply Ext.alloc | apply Ext.drewN | apply Ext.drew | refine Ext.setCell ?_ (fun h => by first | rfl | exact absurd h (by dsimp only; omega)) _))⟩

set_option maxHeartbeats 800000 in
theorem rpop_no (A : Option Addr) (c : Nat) (N : Int) (w : World) :
    Calls Try.prog 37 #[.agg #[.slice A 0 c, .int .i64 N]] w fun e w' => e = .returned (.tuple #[.agg #[.slice A 0 c, .int .i64 N], .int .i64 0, .bool false]) ∧ New w w' := by
  go_enter Try.func37, Try.ntmps37
  go_wp2
  refine bodyPost_ret (v := .tuple #[.agg #[.slice A 0 c, .int .i64 N], .int .i64 0, .bool false]) (by simp [results, Try.results37, go_sem]) rfl ⟨rfl, by (repeat (first | exact Ext.refl _ _ | assumption | apply Ext.alloc | apply Ext.drewN | apply Ext.drew | refine Ext.setCell ?_ (fun h => by first | rfl | exact absurd h (by dsimp only; omega)) _))⟩
set_option maxHeartbeats 800000 in
theorem rpop_yes (A : Option Addr) (n c : Nat) (x : Int) (xs : List Int) (N : Int) (w : World) (h : Rd w 1 A n c (vsi (x :: xs))) :
    Calls Try.prog 37 #[.agg #[.slice A n c, .int .i64 N]] w fun e w' => e = .returned (.tuple #[.agg #[.slice (sl A c 1 1) (n - 1) (c - 1), .int .i64 N], .int .i64 x, .bool true]) ∧ New w w' := by
  have hlen := h.leni
  have h1n : 1 ≤ n := by rw [← hlen]; simp
  have hn0 : ¬ n = 0 := by omega
  have hz : ((n : Int) == 0) = false := by simp; omega
  have s1 := run_cut_l (P := Try.prog) 22 3 1 Try.underlying22 size_i A n c 1 1 rfl h1n .i64
  obtain ⟨ad, rfl⟩ := h.some (by omega)
  have cx := h.celli (k := 0) rfl
  rw [show ad.add 0 = ad from rfl] at cx
  have HL := hide hlen
  clear hlen
  go_enter Try.func37, Try.ntmps37
  have hlt := h.lt (by omega) (by omega) ((inA_some _ _).2 rfl)
  obtain ⟨w0, hw0⟩ : ∃ w0, w0 = (w.alloc (.cells #[.slice (some ad) n c, .int .i64 N] 31)).alloc (.cells #[.slice none 0 0, .int .i64 0] 31) := ⟨_, rfl⟩
  have hb0 : w0.heap[w.heap.size]? = some (.cells #[.slice (some ad) n c, .int .i64 N] 31) := by rw [hw0]; exact blk_alloc (blk_new w _) _
  have hb1 : w0.heap[w.heap.size + 1]? = some (.cells #[.slice none 0 0, .int .i64 0] 31) := by rw [hw0]; have := blk_new (w.alloc (Obj.cells #[.slice (some ad) n c, .int .i64 N] 31)) (Obj.cells #[.slice none 0 0, .int .i64 0] 31); rwa [World.size_alloc] at this
  have hn0 : New w w0 := by rw [hw0]; (repeat (first | exact Ext.refl _ _ | assumption | apply Ext.alloc | apply Ext.drewN | apply Ext.drew | refine Ext.setCell ?_ (fun h => by first | rfl | exact absurd h (by dsimp only; omega)) _))
  go_wp2_with fail
  rw [← hw0]
  have HW := hide hw0
  clear hw0
  have g0 : ∀ x : Lat (fun k => w.heap.size + 1 ≤ k) w0, x.W.cell? ⟨w.heap.size, 0, none⟩ = some (.slice (some ad) n c) := fun x => (blk_cell (Ext.keep x.ext hb0 (by omega)) 0).trans rfl
  have g1 : ∀ x : Lat (fun k => w.heap.size + 1 ≤ k) w0, x.W.cell? ⟨w.heap.size, 1, none⟩ = some (.int .i64 N) := fun x => (blk_cell (Ext.keep x.ext hb0 (by omega)) 1).trans rfl
  have g2 : ∀ y : Lat (fun k => w.heap.size + 1 ≤ k) w0, y.W.cell? ad = some (.int .i64 x) := fun y => by
    rw [World.cell?_of_block (w := w0)]
    · rw [World.cell?_of_block (w := w)]
      · exact cx
      · exact hn0.block _ hlt (fun h => h)
    · exact y.ext.block _ (by have := hn0.size; omega) (by omega)
  refine mix_start (fun k => w.heap.size + 1 ≤ k) w0 (by kernel_rfl) ?_
  refine mix_batch [0, 1, 2, 3, 4, 5, 6, 7, 8, 9] (by kernel_rfl) 3 _ _ _ (by kernel_rfl) (lat_mem (by (repeat (first | exact Ext.refl _ _ | assumption | apply Ext.alloc | apply Ext.drewN | apply Ext.drew | refine Ext.setCell ?_ (fun h => by first | rfl | exact absurd h (by dsimp only; omega)) _)))) ?_
  simp only [pickOps, List.getD_cons_zero, List.getD_cons_succ]
  repeat (go_big_quiet_step (fail))
  refine wpQuiet_nil ?_
  have j0 : w0.cell? ⟨w.heap.size + 1, 0, none⟩ = some (.slice none 0 0) := (blk_cell hb1 0).trans rfl
  have j1 : w0.cell? ⟨w.heap.size + 1, 1, none⟩ = some (.int .i64 0) := (blk_cell hb1 1).trans rfl
  have f0 := blk_free hb1 0
  have f1 := blk_free hb1 1
  refine mix_loud (i := 10) (by kernel_rfl) rfl (fun K hK => ?_)
  go_simp
  have he34 : Ext (fun k => w.heap.size + 1 ≤ k) w0 (((w0.setCell ⟨w.heap.size + 1, 0, none⟩ (.slice (sl (some ad) c 1 1) (n - 1) (c - 1))).setCell ⟨w.heap.size + 1, 1, none⟩ (.int .i64 N)).drew) := (((Ext.refl _ w0).set (by show w.heap.size + 1 ≤ w.heap.size + 1; omega)).set (by show w.heap.size + 1 ≤ w.heap.size + 1; omega)).drew
  have hb4 : (((w0.setCell ⟨w.heap.size + 1, 0, none⟩ (.slice (sl (some ad) c 1 1) (n - 1) (c - 1))).setCell ⟨w.heap.size + 1, 1, none⟩ (.int .i64 N)).drew).heap[w.heap.size + 1]? = _ := blk_set (blk_set hb1 0 (.slice (sl (some ad) c 1 1) (n - 1) (c - 1))) 1 (.int .i64 N)
  refine hK.out _ _ (lat_mem he34) ?_
  clear hK j0 j1 f0 f1
  generalize ((w0.setCell ⟨w.heap.size + 1, 0, none⟩ (.slice (sl (some ad) c 1 1) (n - 1) (c - 1))).setCell ⟨w.heap.size + 1, 1, none⟩ (.int .i64 N)).drew = w4 at *
  refine mix_batch [11, 12] (by kernel_rfl) 0 _ _ _ (by kernel_rfl) (lat_mem he34) ?_
  simp only [pickOps, List.getD_cons_zero, List.getD_cons_succ]
  repeat (go_big_quiet_step (fail))
  refine wpQuiet_nil ?_
  refine wpAnyH_done (by kernel_rfl) (NoPanic.normal ?_) _
  clear g0 g1 g2
  have d0 : w4.cell? ⟨w.heap.size + 1, 0, none⟩ = some (.slice (sl (some ad) c 1 1) (n - 1) (c - 1)) := (blk_cell hb4 0).trans rfl
  have d1 : w4.cell? ⟨w.heap.size + 1, 1, none⟩ = some (.int .i64 N) := (blk_cell hb4 1).trans rfl
  go_wp2
  refine bodyPost_ret (v := .tuple #[.agg #[.slice (sl (some ad) c 1 1) (n - 1) (c - 1), .int .i64 N], .int .i64 x, .bool true]) (by simp [results, Try.results37, go_sem, d0, d1]) rfl ?_
  have hN : New w w4 := ⟨he34.os.trans hn0.os, he34.tape.trans hn0.tape, he34.output.trans hn0.output, Nat.le_trans hn0.size he34.size, fun i hi _ => (he34.block i (Nat.lt_of_lt_of_le hi hn0.size) (by omega)).trans (hn0.block i hi (fun h => h))⟩
  exact ⟨rfl, hN⟩
end Go.Proofs.Ytafeeafccbdkfaa
