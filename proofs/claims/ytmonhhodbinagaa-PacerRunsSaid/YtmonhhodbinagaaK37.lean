/- The document's pacer: something is owed to a key. -/
import Derived.Test.YtmonhhodbinagaaK35
import Derived.Test.YtmonhhodbinagaaK36
namespace Go.Proofs.Ytmonhhodbinagaa
open Go.RowKit Go.Maps
set_option maxRecDepth 100000

/-- What Owe does. -/
def oweR (s : PS) (k : Int × Int) (n : Int) : PS × Int :=
  match fnd s.L k with
  | none => (s, 7)
  | some x => if n < 1 then (s, 1) else if 1152921504606846976 - x.pend < n then (s, 5) else (oweS s x n, 0)
set_option maxHeartbeats 4000000 in
theorem owe_d (x : DA) (k : Int × Int) (n : Int) (T : Nat → Prop) (w : World) (h : x.ok T w) (hT : ∀ j, T j → j < w.heap.size) (hw : x.s.Wf) (s' : PS) (er : Int) (hr : oweR x.s k n = (s', er)) :
    Calls Try.prog 37 #[x.v, kV k, .int .i64 n] w fun e w' => ∃ y : DA, e = .returned (.tuple #[y.v, .int .i64 er]) ∧ y.ok T w' ∧ y.s = s' ∧ New w w' := by
  have hl0 : x.n0 ≤ 512 := by have := h.l0; have := hw.m1; have := hw.m2; omega
  have hl1 : x.n1 ≤ 512 := by have := h.l1; have := hw.ulen 0; omega
  have hl2 : x.n2 ≤ 512 := by have := h.l2; have := hw.ulen 1; omega
  obtain ⟨w0, hw0, b1, b2, b3, hn0, hz0⟩ := threeNew w x.o #[.int .i64 k.1, .int .i64 k.2] zP 46 49 46
  go_enter Try.func37, Try.ntmps37
  go_upto_region 1 with (fail)
  rw [← hw0]
  clear hw0
  have hb0 : w.heap.size + 3 ≤ w0.heap.size := by omega
  clear hz0
  have h0 := h.new hn0
  unfold oweR at hr
  have c0 := (blk_cell b1 0).trans rfl
  have c1 := (blk_cell b1 1).trans rfl
  have c2 := (blk_cell b1 2).trans rfl
  have c3 := (blk_cell b1 3).trans rfl
  have c4 := (blk_cell b1 4).trans rfl
  have c5 := (blk_cell b1 5).trans rfl
  have k0 := (blk_cell b2 0).trans rfl
  have k1 := (blk_cell b2 1).trans rfl
  go_wp2_with fail
  cases hf : fnd x.s.L k with
  | none =>
    rw [hf] at hr
    obtain ⟨rfl, rfl⟩ : x.s = s' ∧ (7 : Int) = er := ⟨congrArg Prod.fst hr, congrArg Prod.snd hr⟩
    clear hr
    refine (find_d x k (-1) _ h0.r0 (by omega) (Pos.no hf)).mono ?_
    rintro e w1 ⟨rfl, hn1⟩
    have g := hn1.keep b3
    have p := hn1.keep b1
    clear c0 c1 c2 c3 c4 c5 k0 k1 hf
    have c0 := (blk_cell p 0).trans rfl
    have c1 := (blk_cell p 1).trans rfl
    have c2 := (blk_cell p 2).trans rfl
    have c3 := (blk_cell p 3).trans rfl
    have c4 := (blk_cell p 4).trans rfl
    have c5 := (blk_cell p 5).trans rfl
    have r0 := (blk_cell g 0).trans rfl
    have rf0 := blk_free g 0
    have r1 := (blk_cell g 1).trans rfl
    have rf1 := blk_free g 1
    have r2 := (blk_cell g 2).trans rfl
    have rf2 := blk_free g 2
    have r3 := (blk_cell g 3).trans rfl
    have rf3 := blk_free g 3
    have r4 := (blk_cell g 4).trans rfl
    have rf4 := blk_free g 4
    have r5 := (blk_cell g 5).trans rfl
    have rf5 := blk_free g 5
    go_wp2_with fail
    obtain ⟨wz, hwz, Yz, Sz⟩ := set6 g rfl (.slice x.a0 x.n0 x.c0) (.slice x.a1 x.n1 x.c1) (.slice x.a2 x.n2 x.c2) (.int .i64 x.s.most) (.int .i64 x.s.run) (.int .i64 x.s.total)
    rw [← hwz]
    clear hwz c0 c1 c2 c3 c4 c5 r0 r1 r2 r3 r4 r5 rf0 rf1 rf2 rf3 rf4 rf5
    have z0 := (blk_cell Yz 0).trans rfl
    have z1 := (blk_cell Yz 1).trans rfl
    have z2 := (blk_cell Yz 2).trans rfl
    have z3 := (blk_cell Yz 3).trans rfl
    have z4 := (blk_cell Yz 4).trans rfl
    have z5 := (blk_cell Yz 5).trans rfl
    have N9 : New w wz := (hn0.then hn1).trans Sz (fun j hj e => by omega)
    refine bodyPost_ret (v := .tuple #[x.v, .int .i64 7]) (by simp [results, Try.results37, go_sem, z0, z1, z2, z3, z4, z5]) rfl ?_
    refine ⟨x, rfl, h.new N9, rfl, N9⟩
  | some z =>
    rw [hf] at hr
    obtain ⟨hzm, hzk⟩ := fnd_mem hf
    obtain ⟨i, hp, hi, hil⟩ := Pos.yes hw.nd hzm
    rw [hzk] at hp
    have hil2 : i < x.n0 := by have := h.l0; omega
    have d1 : decide ((i : Int) < 0) = false := decide_eq_false (by omega)
    have hp0 := hw.p0 z hzm
    have hp1 := hw.p1 z hzm
    have hcl := hide (hw.cls z hzm)
    refine (find_d x k i _ h0.r0 (by omega) hp).mono ?_
    rintro e w1 ⟨rfl, hn1⟩
    have g := hn1.keep b3
    have p := hn1.keep b1
    have h1 := h0.new hn1
    have HI := hide hi
    have HZK := hide hzk
    clear c0 c1 c2 c3 c4 c5 k0 k1 hf hi hzm hzk hp hil
    by_cases hn : n < 1
    · dsimp only at hr
      rw [if_pos hn] at hr
      obtain ⟨rfl, rfl⟩ : x.s = s' ∧ (1 : Int) = er := ⟨congrArg Prod.fst hr, congrArg Prod.snd hr⟩
      have d2 : decide (n < 1) = true := decide_eq_true hn
      clear hr hn
      have c0 := (blk_cell p 0).trans rfl
      have c1 := (blk_cell p 1).trans rfl
      have c2 := (blk_cell p 2).trans rfl
      have c3 := (blk_cell p 3).trans rfl
      have c4 := (blk_cell p 4).trans rfl
      have c5 := (blk_cell p 5).trans rfl
      have r0 := (blk_cell g 0).trans rfl
      have rf0 := blk_free g 0
      have r1 := (blk_cell g 1).trans rfl
      have rf1 := blk_free g 1
      have r2 := (blk_cell g 2).trans rfl
      have rf2 := blk_free g 2
      have r3 := (blk_cell g 3).trans rfl
      have rf3 := blk_free g 3
      have r4 := (blk_cell g 4).trans rfl
      have rf4 := blk_free g 4
      have r5 := (blk_cell g 5).trans rfl
      have rf5 := blk_free g 5
      go_wp2_with fail
      obtain ⟨wz, hwz, Yz, Sz⟩ := set6 g rfl (.slice x.a0 x.n0 x.c0) (.slice x.a1 x.n1 x.c1) (.slice x.a2 x.n2 x.c2) (.int .i64 x.s.most) (.int .i64 x.s.run) (.int .i64 x.s.total)
      rw [← hwz]
      clear hwz c0 c1 c2 c3 c4 c5 r0 r1 r2 r3 r4 r5 rf0 rf1 rf2 rf3 rf4 rf5
      have z0 := (blk_cell Yz 0).trans rfl
      have z1 := (blk_cell Yz 1).trans rfl
      have z2 := (blk_cell Yz 2).trans rfl
      have z3 := (blk_cell Yz 3).trans rfl
      have z4 := (blk_cell Yz 4).trans rfl
      have z5 := (blk_cell Yz 5).trans rfl
      have N9 : New w wz := (hn0.then hn1).trans Sz (fun j hj e => by omega)
      refine bodyPost_ret (v := .tuple #[x.v, .int .i64 1]) (by simp [results, Try.results37, go_sem, z0, z1, z2, z3, z4, z5]) rfl ?_
      refine ⟨x, rfl, h.new N9, rfl, N9⟩
    dsimp only at hr
    rw [if_neg hn] at hr
    have d2 : decide (n < 1) = false := decide_eq_false hn
    have d3 : decide (i < x.n0) = true := decide_eq_true hil2
    obtain ⟨ad, hA⟩ := h1.r0.some (by omega)
    have hrr := h1.r0
    rw [hA] at hrr
    obtain ⟨t0, t1, t2, t3, t4⟩ := hrr.cell5 HI.out
    have c0 : w1.cell? ⟨w.heap.size, 0, none⟩ = some (.slice (some ad) x.n0 x.c0) := by rw [← hA]; exact (blk_cell p 0).trans rfl
    clear hrr
    have hlt0 : w.heap.size + 3 ≤ w1.heap.size := by have := hn1.size; omega
    go_upto_region 7 with (fail)
    have hx2 := blk_new w1 (.cells (kn5 z) 59)
    have hn2 := New.alloc1 w1 (.cells (kn5 z) 59)
    have hz2 : (w1.alloc (.cells (kn5 z) 59)).heap.size = w1.heap.size + 1 := by simp
    have hXlt : w1.heap.size < (w1.alloc (.cells (kn5 z) 59)).heap.size := by omega
    clear hz2
    obtain ⟨w2, hw2⟩ : ∃ v, v = w1.alloc (.cells (kn5 z) 59) := ⟨_, rfl⟩
    rw [← hw2] at hx2 hn2 hXlt
    rw [show w1.alloc (.cells #[.int .i64 z.k.1, .int .i64 z.k.2, .int .i64 z.cls, .int .i64 z.pend, .int .i64 z.iss] 59) = w2 from hw2.symm]
    clear hw2 c0 t0 t1 t2 t3 t4 hA
    obtain ⟨X, hX⟩ : ∃ X, X = w1.heap.size := ⟨_, rfl⟩
    rw [← hX] at hx2 hXlt ⊢
    have p2 := hn2.keep p
    have g2 := hn2.keep g
    have hXlo : w.heap.size + 3 ≤ X := by omega
    clear hX
    have x3 := (blk_cell hx2 3).trans rfl
    by_cases hf : 1152921504606846976 - z.pend < n
    · rw [if_pos hf] at hr
      obtain ⟨rfl, rfl⟩ : x.s = s' ∧ (5 : Int) = er := ⟨congrArg Prod.fst hr, congrArg Prod.snd hr⟩
      have d4 : decide (1152921504606846976 - z.pend < n) = true := decide_eq_true hf
      clear hr hf
      have c0 := (blk_cell p2 0).trans rfl
      have c1 := (blk_cell p2 1).trans rfl
      have c2 := (blk_cell p2 2).trans rfl
      have c3 := (blk_cell p2 3).trans rfl
      have c4 := (blk_cell p2 4).trans rfl
      have c5 := (blk_cell p2 5).trans rfl
      have r0 := (blk_cell g2 0).trans rfl
      have rf0 := blk_free g2 0
      have r1 := (blk_cell g2 1).trans rfl
      have rf1 := blk_free g2 1
      have r2 := (blk_cell g2 2).trans rfl
      have rf2 := blk_free g2 2
      have r3 := (blk_cell g2 3).trans rfl
      have rf3 := blk_free g2 3
      have r4 := (blk_cell g2 4).trans rfl
      have rf4 := blk_free g2 4
      have r5 := (blk_cell g2 5).trans rfl
      have rf5 := blk_free g2 5
      go_wp2_with fail
      obtain ⟨wz, hwz, Yz, Sz⟩ := set6 g2 rfl (.slice x.a0 x.n0 x.c0) (.slice x.a1 x.n1 x.c1) (.slice x.a2 x.n2 x.c2) (.int .i64 x.s.most) (.int .i64 x.s.run) (.int .i64 x.s.total)
      rw [← hwz]
      clear hwz c0 c1 c2 c3 c4 c5 r0 r1 r2 r3 r4 r5 rf0 rf1 rf2 rf3 rf4 rf5
      have z0 := (blk_cell Yz 0).trans rfl
      have z1 := (blk_cell Yz 1).trans rfl
      have z2 := (blk_cell Yz 2).trans rfl
      have z3 := (blk_cell Yz 3).trans rfl
      have z4 := (blk_cell Yz 4).trans rfl
      have z5 := (blk_cell Yz 5).trans rfl
      have N9 : New w wz := ((hn0.then hn1).then hn2).trans Sz (fun j hj e => by omega)
      refine bodyPost_ret (v := .tuple #[x.v, .int .i64 5]) (by simp [results, Try.results37, go_sem, z0, z1, z2, z3, z4, z5]) rfl ?_
      refine ⟨x, rfl, h.new N9, rfl, N9⟩
    rw [if_neg hf] at hr
    have d4 : decide (1152921504606846976 - z.pend < n) = false := decide_eq_false hf
    obtain ⟨rfl, rfl⟩ : oweS x.s z n = s' ∧ (0 : Int) = er := ⟨congrArg Prod.fst hr, congrArg Prod.snd hr⟩
    clear hr
    have N2 := (hn0.then hn1).then hn2
    obtain ⟨T2, hT2⟩ : ∃ T2 : Nat → Prop, T2 = fun j => T j ∨ (w.heap.size ≤ j ∧ j < w2.heap.size) := ⟨_, rfl⟩
    have hTl : ∀ j, T2 j → j < w2.heap.size := fun j hj => by
      rw [hT2] at hj
      exact hj.elim (fun hj => Nat.lt_of_lt_of_le (hT j hj) N2.size) (fun hj => hj.2)
    have hTT : ∀ j, T j → T2 j := fun j hj => by rw [hT2]; exact .inl hj
    have hTp : T2 w.heap.size := by rw [hT2]; exact .inr ⟨Nat.le_refl _, by omega⟩
    have hTg : T2 (w.heap.size + 2) := by rw [hT2]; exact .inr ⟨by omega, by omega⟩
    have hTX : T2 X := by rw [hT2]; exact .inr ⟨by omega, by omega⟩
    have hok2 : x.ok T2 w2 := (h.wide (S := T2) (fun j hj => by rw [hT2] at hj; exact hj.imp id (fun hj => hj.1))).new N2
    have HI2 := HI.out
    clear hT2
    by_cases hz : z.pend = 0
    · have d5 : (z.pend == 0) = true := by simpa using hz
      have HZ := hide hz
      clear hz
      have c0 := (blk_cell p2 0).trans rfl
      have c1 := (blk_cell p2 1).trans rfl
      have c2 := (blk_cell p2 2).trans rfl
      have c3 := (blk_cell p2 3).trans rfl
      have c4 := (blk_cell p2 4).trans rfl
      have c5 := (blk_cell p2 5).trans rfl
      have x0 := (blk_cell hx2 0).trans rfl
      have x1 := (blk_cell hx2 1).trans rfl
      have x2 := (blk_cell hx2 2).trans rfl
      have x3 := (blk_cell hx2 3).trans rfl
      have x4 := (blk_cell hx2 4).trans rfl
      go_wp2_with fail
      refine (behind_d x z hcl.out T2 _ hok2 hTl (by omega) (by omega)).mono ?_
      rintro e w3 ⟨y, he, hok, hys, hn3⟩
      replace he : e = .returned (.agg #[.slice y.a0 y.n0 y.c0, .slice y.a1 y.n1 y.c1, .slice y.a2 y.n2 y.c2, .int .i64 y.s.most, .int .i64 y.s.run, .int .i64 y.s.total]) := he
      subst he
      have hyL : y.s.L = x.s.L := by rw [hys]; rfl
      have hyn : y.n0 = x.n0 := by rw [← hok.l0, hyL]; exact h.l0
      have hyn2 : y.n0 ≤ 1000 := by omega
      have HYL := hide hyL
      have HYS := hide hys
      clear hys hyL hyn
      have p3 := hn3.keep p2
      have g3 := hn3.keep g2
      have hx3 := hn3.keep hx2
      have hXlt3 : X < w3.heap.size := blk_lt hx3
      clear c0 c1 c2 c3 c4 c5 d5
      have c0 := (blk_cell p3 0).trans rfl
      have cf0 := blk_free p3 0
      have c1 := (blk_cell p3 1).trans rfl
      have cf1 := blk_free p3 1
      have c2 := (blk_cell p3 2).trans rfl
      have cf2 := blk_free p3 2
      have c3 := (blk_cell p3 3).trans rfl
      have cf3 := blk_free p3 3
      have c4 := (blk_cell p3 4).trans rfl
      have cf4 := blk_free p3 4
      have c5 := (blk_cell p3 5).trans rfl
      have cf5 := blk_free p3 5
      go_upto_region 11 with (fail)
      obtain ⟨w4, hw4, p4, S4⟩ := set6 p3 rfl (.slice y.a0 y.n0 y.c0) (.slice y.a1 y.n1 y.c1) (.slice y.a2 y.n2 y.c2) (.int .i64 y.s.most) (.int .i64 y.s.run) (.int .i64 y.s.total)
      rw [← hw4]
      clear hw4 c0 c1 c2 c3 c4 c5 cf0 cf1 cf2 cf3 cf4 cf5
      have g4 := S4.keep g3 (by omega)
      have hx4 := S4.keep hx3 (by omega)
      have N4 : New w w4 := (N2.then hn3).trans S4 (fun j hj e => by omega)
      have hok4 : y.ok T2 w4 := hok.keep S4 (fun j e => .inl (by rw [show j = w.heap.size from e]; exact hTp))
      have hsz4 : w2.heap.size ≤ w4.heap.size := by have := hn3.size; have := S4.size; omega
      have xt3 : w4.cell? ⟨X, 3, none⟩ = some (.int .i64 z.pend) := (blk_cell hx4 3).trans rfl
      have xtf := blk_free hx4 3
      clear x0 x1 x2 x3 x4
      go_upto_region 12 with (fail)
      have hx5 := blk_set hx4 3 (.int .i64 (z.pend + n))
      have S5 : Ext (fun j => j = X) w4 (w4.setCell ⟨X, 3, none⟩ (.int .i64 (z.pend + n))) := (Ext.refl _ w4).set (by rfl)
      clear xt3 xtf
      generalize w4.setCell ⟨X, 3, none⟩ (.int .i64 (z.pend + n)) = w5 at *
      have p5 := S5.keep p4 (by omega)
      have g5 := S5.keep g4 (by omega)
      have N5 : New w w5 := N4.trans S5 (fun j hj e => by omega)
      have hok5 := hok4.keep S5 (fun j e => .inl (by rw [show j = X from e]; exact hTX))
      have c0 : w5.cell? ⟨w.heap.size, 0, none⟩ = some (.slice y.a0 y.n0 y.c0) := (blk_cell p5 0).trans rfl
      have c1 : w5.cell? ⟨w.heap.size, 1, none⟩ = some (.slice y.a1 y.n1 y.c1) := (blk_cell p5 1).trans rfl
      have c2 : w5.cell? ⟨w.heap.size, 2, none⟩ = some (.slice y.a2 y.n2 y.c2) := (blk_cell p5 2).trans rfl
      have c3 : w5.cell? ⟨w.heap.size, 3, none⟩ = some (.int .i64 y.s.most) := (blk_cell p5 3).trans rfl
      have c4 : w5.cell? ⟨w.heap.size, 4, none⟩ = some (.int .i64 y.s.run) := (blk_cell p5 4).trans rfl
      have c5 : w5.cell? ⟨w.heap.size, 5, none⟩ = some (.int .i64 y.s.total) := (blk_cell p5 5).trans rfl
      have x0 : w5.cell? ⟨X, 0, none⟩ = some (.int .i64 z.k.1) := (blk_cell hx5 0).trans rfl
      have x1 : w5.cell? ⟨X, 1, none⟩ = some (.int .i64 z.k.2) := (blk_cell hx5 1).trans rfl
      have x2 : w5.cell? ⟨X, 2, none⟩ = some (.int .i64 z.cls) := (blk_cell hx5 2).trans rfl
      have x3 : w5.cell? ⟨X, 3, none⟩ = some (.int .i64 (z.pend + n)) := (blk_cell hx5 3).trans rfl
      have x4 : w5.cell? ⟨X, 4, none⟩ = some (.int .i64 z.iss) := (blk_cell hx5 4).trans rfl
      go_wp2_with fail
      refine (with_d y i z { z with pend := z.pend + n } (by rw [HYL.out]; exact HI.out) rfl (by rw [HYL.out]; exact hw.nd) T2 _ hok5 (fun j hj => Nat.lt_of_lt_of_le (hTl j hj) (Nat.le_trans hsz4 S5.size)) (by omega)).mono ?_
      rintro e w6 ⟨u, he, hok6, hus, hn6⟩
      have HUS := hide hus
      clear hus
      replace he : e = .returned (.agg #[.slice u.a0 u.n0 u.c0, .slice u.a1 u.n1 u.c1, .slice u.a2 u.n2 u.c2, .int .i64 u.s.most, .int .i64 u.s.run, .int .i64 u.s.total]) := he
      subst he
      have g6 := hn6.keep g5
      clear c0 c1 c2 c3 c4 c5 x0 x1 x2 x3 x4
      have r0 := (blk_cell g6 0).trans rfl
      have rf0 := blk_free g6 0
      have r1 := (blk_cell g6 1).trans rfl
      have rf1 := blk_free g6 1
      have r2 := (blk_cell g6 2).trans rfl
      have rf2 := blk_free g6 2
      have r3 := (blk_cell g6 3).trans rfl
      have rf3 := blk_free g6 3
      have r4 := (blk_cell g6 4).trans rfl
      have rf4 := blk_free g6 4
      have r5 := (blk_cell g6 5).trans rfl
      have rf5 := blk_free g6 5
      go_wp2_with fail
      obtain ⟨wz, hwz, Yz, Sz⟩ := set6 g6 rfl (.slice u.a0 u.n0 u.c0) (.slice u.a1 u.n1 u.c1) (.slice u.a2 u.n2 u.c2) (.int .i64 u.s.most) (.int .i64 u.s.run) (.int .i64 u.s.total)
      rw [← hwz]
      clear hwz r0 r1 r2 r3 r4 r5 rf0 rf1 rf2 rf3 rf4 rf5
      have z0 := (blk_cell Yz 0).trans rfl
      have z1 := (blk_cell Yz 1).trans rfl
      have z2 := (blk_cell Yz 2).trans rfl
      have z3 := (blk_cell Yz 3).trans rfl
      have z4 := (blk_cell Yz 4).trans rfl
      have z5 := (blk_cell Yz 5).trans rfl
      have N9 : New w wz := (N5.then hn6).trans Sz (fun j hj e => by omega)
      refine bodyPost_ret (v := .tuple #[u.v, .int .i64 0]) (by simp [results, Try.results37, go_sem, z0, z1, z2, z3, z4, z5]) rfl ?_
      refine ⟨u, rfl, (hok6.keep Sz (fun j e => .inl (by rw [show j = w.heap.size + 2 from e]; exact hTg))).wide (fun j hj => .inl (hTT j hj)), ?_, N9⟩
      rw [HUS.out]
      rw [HYS.out]
      simp only [oweS, behS, if_pos HZ.out]
    · have d5 : (z.pend == 0) = false := by simpa using hz
      have HZ := hide hz
      clear hz
      have x0 := (blk_cell hx2 0).trans rfl
      have x1 := (blk_cell hx2 1).trans rfl
      have x2 := (blk_cell hx2 2).trans rfl
      have x3 := (blk_cell hx2 3).trans rfl
      have x4 := (blk_cell hx2 4).trans rfl
      go_upto_region 11 with (fail)
      have xt3 : w2.cell? ⟨X, 3, none⟩ = some (.int .i64 z.pend) := (blk_cell hx2 3).trans rfl
      have xtf := blk_free hx2 3
      clear x0 x1 x2 x3 x4
      go_upto_region 12 with (fail)
      have hx5 := blk_set hx2 3 (.int .i64 (z.pend + n))
      have S5 : Ext (fun j => j = X) w2 (w2.setCell ⟨X, 3, none⟩ (.int .i64 (z.pend + n))) := (Ext.refl _ w2).set (by rfl)
      clear xt3 xtf
      generalize w2.setCell ⟨X, 3, none⟩ (.int .i64 (z.pend + n)) = w5 at *
      have p5 := S5.keep p2 (by omega)
      have g5 := S5.keep g2 (by omega)
      have N5 : New w w5 := N2.trans S5 (fun j hj e => by omega)
      have hok5 := hok2.keep S5 (fun j e => .inl (by rw [show j = X from e]; exact hTX))
      have c0 : w5.cell? ⟨w.heap.size, 0, none⟩ = some (.slice x.a0 x.n0 x.c0) := (blk_cell p5 0).trans rfl
      have c1 : w5.cell? ⟨w.heap.size, 1, none⟩ = some (.slice x.a1 x.n1 x.c1) := (blk_cell p5 1).trans rfl
      have c2 : w5.cell? ⟨w.heap.size, 2, none⟩ = some (.slice x.a2 x.n2 x.c2) := (blk_cell p5 2).trans rfl
      have c3 : w5.cell? ⟨w.heap.size, 3, none⟩ = some (.int .i64 x.s.most) := (blk_cell p5 3).trans rfl
      have c4 : w5.cell? ⟨w.heap.size, 4, none⟩ = some (.int .i64 x.s.run) := (blk_cell p5 4).trans rfl
      have c5 : w5.cell? ⟨w.heap.size, 5, none⟩ = some (.int .i64 x.s.total) := (blk_cell p5 5).trans rfl
      have x0 : w5.cell? ⟨X, 0, none⟩ = some (.int .i64 z.k.1) := (blk_cell hx5 0).trans rfl
      have x1 : w5.cell? ⟨X, 1, none⟩ = some (.int .i64 z.k.2) := (blk_cell hx5 1).trans rfl
      have x2 : w5.cell? ⟨X, 2, none⟩ = some (.int .i64 z.cls) := (blk_cell hx5 2).trans rfl
      have x3 : w5.cell? ⟨X, 3, none⟩ = some (.int .i64 (z.pend + n)) := (blk_cell hx5 3).trans rfl
      have x4 : w5.cell? ⟨X, 4, none⟩ = some (.int .i64 z.iss) := (blk_cell hx5 4).trans rfl
      go_wp2_with fail
      refine (with_d x i z { z with pend := z.pend + n } HI.out rfl hw.nd T2 _ hok5 (fun j hj => Nat.lt_of_lt_of_le (hTl j hj) S5.size) (by omega)).mono ?_
      rintro e w6 ⟨u, he, hok6, hus, hn6⟩
      have HUS := hide hus
      clear hus
      replace he : e = .returned (.agg #[.slice u.a0 u.n0 u.c0, .slice u.a1 u.n1 u.c1, .slice u.a2 u.n2 u.c2, .int .i64 u.s.most, .int .i64 u.s.run, .int .i64 u.s.total]) := he
      subst he
      have g6 := hn6.keep g5
      clear c0 c1 c2 c3 c4 c5 x0 x1 x2 x3 x4
      have r0 := (blk_cell g6 0).trans rfl
      have rf0 := blk_free g6 0
      have r1 := (blk_cell g6 1).trans rfl
      have rf1 := blk_free g6 1
      have r2 := (blk_cell g6 2).trans rfl
      have rf2 := blk_free g6 2
      have r3 := (blk_cell g6 3).trans rfl
      have rf3 := blk_free g6 3
      have r4 := (blk_cell g6 4).trans rfl
      have rf4 := blk_free g6 4
      have r5 := (blk_cell g6 5).trans rfl
      have rf5 := blk_free g6 5
      go_wp2_with fail
      obtain ⟨wz, hwz, Yz, Sz⟩ := set6 g6 rfl (.slice u.a0 u.n0 u.c0) (.slice u.a1 u.n1 u.c1) (.slice u.a2 u.n2 u.c2) (.int .i64 u.s.most) (.int .i64 u.s.run) (.int .i64 u.s.total)
      rw [← hwz]
      clear hwz r0 r1 r2 r3 r4 r5 rf0 rf1 rf2 rf3 rf4 rf5
      have z0 := (blk_cell Yz 0).trans rfl
      have z1 := (blk_cell Yz 1).trans rfl
      have z2 := (blk_cell Yz 2).trans rfl
      have z3 := (blk_cell Yz 3).trans rfl
      have z4 := (blk_cell Yz 4).trans rfl
      have z5 := (blk_cell Yz 5).trans rfl
      have N9 : New w wz := (N5.then hn6).trans Sz (fun j hj e => by omega)
      refine bodyPost_ret (v := .tuple #[u.v, .int .i64 0]) (by simp [results, Try.results37, go_sem, z0, z1, z2, z3, z4, z5]) rfl ?_
      refine ⟨u, rfl, (hok6.keep Sz (fun j e => .inl (by rw [show j = w.heap.size + 2 from e]; exact hTg))).wide (fun j hj => .inl (hTT j hj)), ?_, N9⟩
      rw [HUS.out]
      simp only [oweS, if_neg HZ.out]
end Go.Proofs.Ytmonhhodbinagaa
