/- The document's pacer: a key goes behind its class' queue. -/
import Derived.Test.YtmonhhodbinagaaK33
namespace Go.Proofs.Ytmonhhodbinagaa
open Go.RowKit Go.Maps
set_option maxRecDepth 100000

/-- A key goes behind. -/
def behS (s : PS) (z : Kn) : PS := { s with u := upd s.u z.cls.toNat (s.u z.cls.toNat ++ [z.k]) }
set_option maxHeartbeats 2000000 in
theorem behind_d1 (x : DA) (z : Kn) (hz : z.cls = 1) (T : Nat → Prop) (w : World) (h : x.ok T w) (hT : ∀ j, T j → j < w.heap.size) (hs : x.n2 ≤ 1000) :
    Calls Try.prog 46 #[x.v, .agg (kn5 z)] w fun e w' => ∃ y : DA, e = .returned y.v ∧ y.ok T w' ∧ y.s = behS x.s z ∧ New w w' := by
  obtain ⟨w0, hw0, b1, b2, b3, hn0, hz0⟩ := threeNew w x.o (kn5 z) zP 46 59 46
  go_enter Try.func46, Try.ntmps46
  go_upto_region 1 with (fail)
  rw [← hw0]
  clear hw0
  have hr0 := h.r2.new hn0
  have c0 := (blk_cell b1 0).trans rfl
  have c1 := (blk_cell b1 1).trans rfl
  have c2 := (blk_cell b1 2).trans rfl
  have c3 := (blk_cell b1 3).trans rfl
  have c4 := (blk_cell b1 4).trans rfl
  have c5 := (blk_cell b1 5).trans rfl
  have k0 := (blk_cell b2 0).trans rfl
  have k1 := (blk_cell b2 1).trans rfl
  have k2 := (blk_cell b2 2).trans rfl
  have k3 := (blk_cell b2 3).trans rfl
  have k4 := (blk_cell b2 4).trans rfl
  have d1 : (z.cls == 1) = true := by rw [hz]; rfl
  have hlt1 : w.heap.size < w0.heap.size := by omega
  have hlt2 : w.heap.size + 1 < w0.heap.size := by omega
  have hb2 : w.heap.size + 3 ≤ w0.heap.size := by omega
  clear hz0
  go_upto_region 2 with (fail)
  go_upto_region 3 with (at_builtin; refine app_d rfl _ _ rfl (w.heap.size + 3) rfl rfl (Own.lit0 _ _ _ _ hb2) (hr0.new (New.alloc1 _ _)) (by omega) (by simp; omega) ?_; intro A1 f1 w3 ho3 he3 hA3; rw [Nat.zero_add] at ho3 ⊢; rw [List.nil_append] at ho3)
  have hn3 : New w0 w3 := (New.alloc1 _ _).trans he3 (fun i hi h => by have := (inA_some _ _).1 h; simp at this; omega)
  have p3 := hn3.keep b1
  have q3 := hn3.keep b2
  have g3 := hn3.keep b3
  have hsz3 := hn3.size
  have hb3 : w.heap.size + 3 ≤ w3.heap.size := by omega
  clear c0 c1 c2 c3 c4 c5 k0 k1 k2 k3 k4 he3 hA3 d1
  have k0 := (blk_cell q3 0).trans rfl
  have k1 := (blk_cell q3 1).trans rfl
  have hlt1 : w.heap.size < w3.heap.size := blk_lt p3
  have hlt2 : w.heap.size + 1 < w3.heap.size := blk_lt q3
  have hrb : Rd (w3.alloc (.cells #[.int .i64 z.k.1, .int .i64 z.k.2] 49)) 2 (some ⟨w3.heap.size, 0, none⟩) 1 1 (kcs [z.k]) := rd_lit w3 49 2 1 #[.int .i64 z.k.1, .int .i64 z.k.2] (by omega) rfl (by simp [Value.oneCell'])
  go_upto_region 4 with (at_builtin; refine app_d rfl _ _ rfl (w.heap.size + 3) rfl rfl (ho3.new (New.alloc1 _ _)) hrb (by omega) (by simp; omega) ?_; intro A2 f2 w4 ho4 he4 hA4; have hn4 : Ext (inA A1) w3 w4 := (New.alloc1 _ _).to.trans he4 (fun _ _ h => h); have p4 := hn4.keep p3 (fun hj => by have := (ho3.at_ hj).1; omega); have kp : w4.cell? ⟨w.heap.size, 2, none⟩ = some (.slice x.a2 x.n2 x.c2) := (blk_cell p4 2).trans rfl; have kf := blk_free p4 2)
  have g4 := hn4.keep g3 (fun hj => by have := (ho3.at_ hj).1; omega)
  have p5 := blk_set p4 2 (.slice A2 (x.n2 + 1) f2)
  have S5 : Ext (fun j => j = w.heap.size) w4 (w4.setCell ⟨w.heap.size, 2, none⟩ (.slice A2 (x.n2 + 1) f2)) := (Ext.refl _ w4).set (by rfl)
  have g5 := S5.keep g4 (by omega)
  have ho5 := ho4.keep S5 (fun j hj e => by have := (ho4.at_ hj).1; omega)
  clear kp kf k0 k1
  generalize w4.setCell ⟨w.heap.size, 2, none⟩ (.slice A2 (x.n2 + 1) f2) = w5 at *
  have c0 : w5.cell? ⟨w.heap.size, 0, none⟩ = some (.slice x.a0 x.n0 x.c0) := (blk_cell p5 0).trans rfl
  have c1 : w5.cell? ⟨w.heap.size, 1, none⟩ = some (.slice x.a1 x.n1 x.c1) := (blk_cell p5 1).trans rfl
  have c2 : w5.cell? ⟨w.heap.size, 2, none⟩ = some (.slice A2 (x.n2 + 1) f2) := (blk_cell p5 2).trans rfl
  have c3 : w5.cell? ⟨w.heap.size, 3, none⟩ = some (.int .i64 x.s.most) := (blk_cell p5 3).trans rfl
  have c4 : w5.cell? ⟨w.heap.size, 4, none⟩ = some (.int .i64 x.s.run) := (blk_cell p5 4).trans rfl
  have c5 : w5.cell? ⟨w.heap.size, 5, none⟩ = some (.int .i64 x.s.total) := (blk_cell p5 5).trans rfl
  have r0 := (blk_cell g5 0).trans rfl
  have rf0 := blk_free g5 0
  have r1 := (blk_cell g5 1).trans rfl
  have rf1 := blk_free g5 1
  have r2 := (blk_cell g5 2).trans rfl
  have rf2 := blk_free g5 2
  have r3 := (blk_cell g5 3).trans rfl
  have rf3 := blk_free g5 3
  have r4 := (blk_cell g5 4).trans rfl
  have rf4 := blk_free g5 4
  have r5 := (blk_cell g5 5).trans rfl
  have rf5 := blk_free g5 5
  go_wp2_with fail
  obtain ⟨wz, hwz, Yz, Sz⟩ := set6 g5 rfl (.slice x.a0 x.n0 x.c0) (.slice x.a1 x.n1 x.c1) (.slice A2 (x.n2 + 1) f2) (.int .i64 x.s.most) (.int .i64 x.s.run) (.int .i64 x.s.total)
  rw [← hwz]
  clear hwz c0 c1 c2 c3 c4 c5 r0 r1 r2 r3 r4 r5 rf0 rf1 rf2 rf3 rf4 rf5
  have z0 := (blk_cell Yz 0).trans rfl
  have z1 := (blk_cell Yz 1).trans rfl
  have z2 := (blk_cell Yz 2).trans rfl
  have z3 := (blk_cell Yz 3).trans rfl
  have z4 := (blk_cell Yz 4).trans rfl
  have z5 := (blk_cell Yz 5).trans rfl
  have N3 := hn0.then hn3
  have N4 := N3.trans hn4 (fun j hj h => by have := (ho3.at_ h).1; omega)
  have N5 : New w w5 := N4.trans S5 (fun j hj e => by omega)
  have N9 : New w wz := N5.trans Sz (fun j hj e => by omega)
  have ho9 := ho5.keep Sz (fun j hj e => by have := (ho5.at_ hj).1; omega)
  refine bodyPost_ret (v := .agg #[.slice x.a0 x.n0 x.c0, .slice x.a1 x.n1 x.c1, .slice A2 (x.n2 + 1) f2, .int .i64 x.s.most, .int .i64 x.s.run, .int .i64 x.s.total]) (by simp [results, Try.results46, go_sem, z0, z1, z2, z3, z4, z5]) rfl ?_
  refine ⟨⟨behS x.s z, x.a0, x.n0, x.c0, x.a1, x.n1, x.c1, A2, x.n2 + 1, f2⟩, rfl, ⟨h.r0.new N9, (by show Rd wz 2 x.a1 x.n1 x.c1 (kcs (upd x.s.u z.cls.toNat _ 0)); rw [upd_other _ _ (by rw [hz]; decide)]; exact h.r1.new N9), ?_, h.t0.new N9, h.t1.new N9, ?_⟩, rfl, N9⟩
  · show Rd wz 2 A2 (x.n2 + 1) f2 (kcs (upd x.s.u z.cls.toNat _ 1))
    rw [show z.cls.toNat = 1 by rw [hz]; rfl, upd_same, kcs_append]
    exact ho9.rd
  · intro j hj
    have h9 := ho9.at_ hj
    exact ⟨fun ht => by have := hT j ht; omega, h9.2⟩
set_option maxHeartbeats 2000000 in
theorem behind_d0 (x : DA) (z : Kn) (hz : z.cls = 0) (T : Nat → Prop) (w : World) (h : x.ok T w) (hT : ∀ j, T j → j < w.heap.size) (hs : x.n1 ≤ 1000) :
    Calls Try.prog 46 #[x.v, .agg (kn5 z)] w fun e w' => ∃ y : DA, e = .returned y.v ∧ y.ok T w' ∧ y.s = behS x.s z ∧ New w w' := by
  obtain ⟨w0, hw0, b1, b2, b3, hn0, hz0⟩ := threeNew w x.o (kn5 z) zP 46 59 46
  go_enter Try.func46, Try.ntmps46
  go_upto_region 1 with (fail)
  rw [← hw0]
  clear hw0
  have hr0 := h.r1.new hn0
  have c0 := (blk_cell b1 0).trans rfl
  have c1 := (blk_cell b1 1).trans rfl
  have c2 := (blk_cell b1 2).trans rfl
  have c3 := (blk_cell b1 3).trans rfl
  have c4 := (blk_cell b1 4).trans rfl
  have c5 := (blk_cell b1 5).trans rfl
  have k0 := (blk_cell b2 0).trans rfl
  have k1 := (blk_cell b2 1).trans rfl
  have k2 := (blk_cell b2 2).trans rfl
  have k3 := (blk_cell b2 3).trans rfl
  have k4 := (blk_cell b2 4).trans rfl
  have d1 : (z.cls == 1) = false := by rw [hz]; rfl
  have hlt1 : w.heap.size < w0.heap.size := by omega
  have hlt2 : w.heap.size + 1 < w0.heap.size := by omega
  have hb2 : w.heap.size + 3 ≤ w0.heap.size := by omega
  clear hz0
  go_upto_region 5 with (fail)
  go_upto_region 6 with (at_builtin; refine app_d rfl _ _ rfl (w.heap.size + 3) rfl rfl (Own.lit0 _ _ _ _ hb2) (hr0.new (New.alloc1 _ _)) (by omega) (by simp; omega) ?_; intro A1 f1 w3 ho3 he3 hA3; rw [Nat.zero_add] at ho3 ⊢; rw [List.nil_append] at ho3)
  have hn3 : New w0 w3 := (New.alloc1 _ _).trans he3 (fun i hi h => by have := (inA_some _ _).1 h; simp at this; omega)
  have p3 := hn3.keep b1
  have q3 := hn3.keep b2
  have g3 := hn3.keep b3
  have hsz3 := hn3.size
  have hb3 : w.heap.size + 3 ≤ w3.heap.size := by omega
  clear c0 c1 c2 c3 c4 c5 k0 k1 k2 k3 k4 he3 hA3 d1
  have k0 := (blk_cell q3 0).trans rfl
  have k1 := (blk_cell q3 1).trans rfl
  have hlt1 : w.heap.size < w3.heap.size := blk_lt p3
  have hlt2 : w.heap.size + 1 < w3.heap.size := blk_lt q3
  have hrb : Rd (w3.alloc (.cells #[.int .i64 z.k.1, .int .i64 z.k.2] 49)) 2 (some ⟨w3.heap.size, 0, none⟩) 1 1 (kcs [z.k]) := rd_lit w3 49 2 1 #[.int .i64 z.k.1, .int .i64 z.k.2] (by omega) rfl (by simp [Value.oneCell'])
  go_upto_region 7 with (at_builtin; refine app_d rfl _ _ rfl (w.heap.size + 3) rfl rfl (ho3.new (New.alloc1 _ _)) hrb (by omega) (by simp; omega) ?_; intro A2 f2 w4 ho4 he4 hA4; have hn4 : Ext (inA A1) w3 w4 := (New.alloc1 _ _).to.trans he4 (fun _ _ h => h); have p4 := hn4.keep p3 (fun hj => by have := (ho3.at_ hj).1; omega); have kp : w4.cell? ⟨w.heap.size, 1, none⟩ = some (.slice x.a1 x.n1 x.c1) := (blk_cell p4 1).trans rfl; have kf := blk_free p4 1)
  have g4 := hn4.keep g3 (fun hj => by have := (ho3.at_ hj).1; omega)
  have p5 := blk_set p4 1 (.slice A2 (x.n1 + 1) f2)
  have S5 : Ext (fun j => j = w.heap.size) w4 (w4.setCell ⟨w.heap.size, 1, none⟩ (.slice A2 (x.n1 + 1) f2)) := (Ext.refl _ w4).set (by rfl)
  have g5 := S5.keep g4 (by omega)
  have ho5 := ho4.keep S5 (fun j hj e => by have := (ho4.at_ hj).1; omega)
  clear kp kf k0 k1
  generalize w4.setCell ⟨w.heap.size, 1, none⟩ (.slice A2 (x.n1 + 1) f2) = w5 at *
  have c0 : w5.cell? ⟨w.heap.size, 0, none⟩ = some (.slice x.a0 x.n0 x.c0) := (blk_cell p5 0).trans rfl
  have c1 : w5.cell? ⟨w.heap.size, 1, none⟩ = some (.slice A2 (x.n1 + 1) f2) := (blk_cell p5 1).trans rfl
  have c2 : w5.cell? ⟨w.heap.size, 2, none⟩ = some (.slice x.a2 x.n2 x.c2) := (blk_cell p5 2).trans rfl
  have c3 : w5.cell? ⟨w.heap.size, 3, none⟩ = some (.int .i64 x.s.most) := (blk_cell p5 3).trans rfl
  have c4 : w5.cell? ⟨w.heap.size, 4, none⟩ = some (.int .i64 x.s.run) := (blk_cell p5 4).trans rfl
  have c5 : w5.cell? ⟨w.heap.size, 5, none⟩ = some (.int .i64 x.s.total) := (blk_cell p5 5).trans rfl
  have r0 := (blk_cell g5 0).trans rfl
  have rf0 := blk_free g5 0
  have r1 := (blk_cell g5 1).trans rfl
  have rf1 := blk_free g5 1
  have r2 := (blk_cell g5 2).trans rfl
  have rf2 := blk_free g5 2
  have r3 := (blk_cell g5 3).trans rfl
  have rf3 := blk_free g5 3
  have r4 := (blk_cell g5 4).trans rfl
  have rf4 := blk_free g5 4
  have r5 := (blk_cell g5 5).trans rfl
  have rf5 := blk_free g5 5
  go_wp2_with fail
  obtain ⟨wz, hwz, Yz, Sz⟩ := set6 g5 rfl (.slice x.a0 x.n0 x.c0) (.slice A2 (x.n1 + 1) f2) (.slice x.a2 x.n2 x.c2) (.int .i64 x.s.most) (.int .i64 x.s.run) (.int .i64 x.s.total)
  rw [← hwz]
  clear hwz c0 c1 c2 c3 c4 c5 r0 r1 r2 r3 r4 r5 rf0 rf1 rf2 rf3 rf4 rf5
  have z0 := (blk_cell Yz 0).trans rfl
  have z1 := (blk_cell Yz 1).trans rfl
  have z2 := (blk_cell Yz 2).trans rfl
  have z3 := (blk_cell Yz 3).trans rfl
  have z4 := (blk_cell Yz 4).trans rfl
  have z5 := (blk_cell Yz 5).trans rfl
  have N3 := hn0.then hn3
  have N4 := N3.trans hn4 (fun j hj h => by have := (ho3.at_ h).1; omega)
  have N5 : New w w5 := N4.trans S5 (fun j hj e => by omega)
  have N9 : New w wz := N5.trans Sz (fun j hj e => by omega)
  have ho9 := ho5.keep Sz (fun j hj e => by have := (ho5.at_ hj).1; omega)
  refine bodyPost_ret (v := .agg #[.slice x.a0 x.n0 x.c0, .slice A2 (x.n1 + 1) f2, .slice x.a2 x.n2 x.c2, .int .i64 x.s.most, .int .i64 x.s.run, .int .i64 x.s.total]) (by simp [results, Try.results46, go_sem, z0, z1, z2, z3, z4, z5]) rfl ?_
  refine ⟨⟨behS x.s z, x.a0, x.n0, x.c0, A2, x.n1 + 1, f2, x.a2, x.n2, x.c2⟩, rfl, ⟨h.r0.new N9, ?_, (by show Rd wz 2 x.a2 x.n2 x.c2 (kcs (upd x.s.u z.cls.toNat _ 1)); rw [upd_other _ _ (by rw [hz]; decide)]; exact h.r2.new N9), h.t0.new N9, ?_, h.t2.new N9⟩, rfl, N9⟩
  · show Rd wz 2 A2 (x.n1 + 1) f2 (kcs (upd x.s.u z.cls.toNat _ 0))
    rw [show z.cls.toNat = 0 by rw [hz]; rfl, upd_same, kcs_append]
    exact ho9.rd
  · intro j hj
    have h9 := ho9.at_ hj
    exact ⟨fun ht => by have := hT j ht; omega, h9.2⟩
theorem behind_d (x : DA) (z : Kn) (hz : z.cls = 0 ∨ z.cls = 1) (T : Nat → Prop) (w : World) (h : x.ok T w) (hT : ∀ j, T j → j < w.heap.size) (hs1 : x.n1 ≤ 1000) (hs2 : x.n2 ≤ 1000) :
    Calls Try.prog 46 #[x.v, .agg (kn5 z)] w fun e w' => ∃ y : DA, e = .returned y.v ∧ y.ok T w' ∧ y.s = behS x.s z ∧ New w w' :=
  hz.elim (fun e => behind_d0 x z e T w h hT hs1) (fun e => behind_d1 x z e T w h hT hs2)
end Go.Proofs.Ytmonhhodbinagaa
