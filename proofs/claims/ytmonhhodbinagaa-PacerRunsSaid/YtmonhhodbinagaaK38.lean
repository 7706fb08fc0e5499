/- The document's pacer: a key is forgotten. -/
import Derived.Test.YtmonhhodbinagaaK34
import Derived.Test.YtmonhhodbinagaaK36
namespace Go.Proofs.Ytmonhhodbinagaa
open Go.RowKit Go.Maps
set_option maxRecDepth 100000

theorem size_5 : (Try.prog.info? 59).map (fun i => i.size) = some 5 := by kernel_rfl
/-- A key is forgotten. -/
def forgetS (s : PS) (k : Int × Int) : PS := { s with L := noK s.L k, u := fun c => noQ (s.u c) k }
def forgetR (s : PS) (k : Int × Int) : PS × Int × Bool :=
  match fnd s.L k with
  | none => (s, 0, false)
  | some x => (forgetS s k, x.pend, true)
theorem noK_none {L : List Kn} {k : Int × Int} (h : ∀ y ∈ L, y.k ≠ k) : noK L k = L := by
  unfold noK
  exact List.filter_eq_self.2 (fun y hy => decide_eq_true (h y hy))
theorem noK_at {L : List Kn} (hn : (L.map Kn.k).Nodup) {i : Nat} {x : Kn} (hi : L[i]? = some x) : noK L x.k = L.take i ++ L.drop (i + 1) := by
  induction L generalizing i with
  | nil => simp at hi
  | cons y r ih =>
    simp only [List.map_cons, List.nodup_cons] at hn
    cases i with
    | zero =>
      simp only [List.getElem?_cons_zero, Option.some.injEq] at hi
      subst hi
      have e : noK r y.k = r := noK_none (fun u hu e => hn.1 (by rw [← e]; exact List.mem_map_of_mem hu))
      unfold noK at e ⊢
      rw [List.filter_cons, if_neg (by simp), e]
      rfl
    | succ i =>
      rw [List.getElem?_cons_succ] at hi
      have hyx : y.k ≠ x.k := fun e => hn.1 (by rw [e]; exact List.mem_map_of_mem (List.mem_of_getElem? hi))
      have e := ih hn.2 hi
      unfold noK at e ⊢
      rw [List.filter_cons, if_pos (by simpa using hyx), e]
      rfl
set_option maxHeartbeats 4000000 in
theorem forget_d (x : DA) (k : Int × Int) (T : Nat → Prop) (w : World) (h : x.ok T w) (hT : ∀ j, T j → j < w.heap.size) (hw : x.s.Wf) (s' : PS) (m : Int) (b : Bool) (hr : forgetR x.s k = (s', m, b)) :
    Calls Try.prog 35 #[x.v, kV k] w fun e w' => ∃ y : DA, e = .returned (.tuple #[y.v, .int .i64 m, .bool b]) ∧ y.ok T w' ∧ y.s = s' ∧ New w w' := by
  have hl0 : x.n0 ≤ 512 := by have := h.l0; have := hw.m1; have := hw.m2; omega
  have hl1 : x.n1 ≤ 512 := by have := h.l1; have := hw.ulen 0; omega
  have hl2 : x.n2 ≤ 512 := by have := h.l2; have := hw.ulen 1; omega
  obtain ⟨w0, hw0, b1, b2, b3, hn0, hz0⟩ := threeNew w x.o #[.int .i64 k.1, .int .i64 k.2] zP 46 49 46
  go_enter Try.func35, Try.ntmps35
  go_upto_region 1 with (fail)
  rw [← hw0]
  clear hw0
  have hb0 : w.heap.size + 3 ≤ w0.heap.size := by omega
  clear hz0
  have h0 := h.new hn0
  unfold forgetR at hr
  have c0 := (blk_cell b1 0).trans rfl
  have c1 := (blk_cell b1 1).trans rfl
  have c2 := (blk_cell b1 2).trans rfl
  have c3 := (blk_cell b1 3).trans rfl
  have c4 := (blk_cell b1 4).trans rfl
  have c5 := (blk_cell b1 5).trans rfl
  have k0 := (blk_cell b2 0).trans rfl
  have k1 := (blk_cell b2 1).trans rfl
  go_wp2_with fail
  cases hf : fnd x.s.L k with
  | none =>
    rw [hf] at hr
    obtain ⟨rfl, rfl, rfl⟩ : x.s = s' ∧ (0 : Int) = m ∧ false = b := ⟨congrArg Prod.fst hr, congrArg (fun u => u.2.1) hr, congrArg (fun u => u.2.2) hr⟩
    clear hr
    refine (find_d x k (-1) _ h0.r0 (by omega) (Pos.no hf)).mono ?_
    rintro e w1 ⟨rfl, hn1⟩
    have g := hn1.keep b3
    have p := hn1.keep b1
    clear c0 c1 c2 c3 c4 c5 k0 k1 hf
    have c0 := (blk_cell p 0).trans rfl
    have c1 := (blk_cell p 1).trans rfl
    have c2 := (blk_cell p 2).trans rfl
    have c3 := (blk_cell p 3).trans rfl
    have c4 := (blk_cell p 4).trans rfl
    have c5 := (blk_cell p 5).trans rfl
    have r0 := (blk_cell g 0).trans rfl
    have rf0 := blk_free g 0
    have r1 := (blk_cell g 1).trans rfl
    have rf1 := blk_free g 1
    have r2 := (blk_cell g 2).trans rfl
    have rf2 := blk_free g 2
    have r3 := (blk_cell g 3).trans rfl
    have rf3 := blk_free g 3
    have r4 := (blk_cell g 4).trans rfl
    have rf4 := blk_free g 4
    have r5 := (blk_cell g 5).trans rfl
    have rf5 := blk_free g 5
    go_wp2_with fail
    obtain ⟨wz, hwz, Yz, Sz⟩ := set6 g rfl (.slice x.a0 x.n0 x.c0) (.slice x.a1 x.n1 x.c1) (.slice x.a2 x.n2 x.c2) (.int .i64 x.s.most) (.int .i64 x.s.run) (.int .i64 x.s.total)
    rw [← hwz]
    clear hwz c0 c1 c2 c3 c4 c5 r0 r1 r2 r3 r4 r5 rf0 rf1 rf2 rf3 rf4 rf5
    have z0 := (blk_cell Yz 0).trans rfl
    have z1 := (blk_cell Yz 1).trans rfl
    have z2 := (blk_cell Yz 2).trans rfl
    have z3 := (blk_cell Yz 3).trans rfl
    have z4 := (blk_cell Yz 4).trans rfl
    have z5 := (blk_cell Yz 5).trans rfl
    have N9 : New w wz := (hn0.then hn1).trans Sz (fun j hj e => by omega)
    refine bodyPost_ret (v := .tuple #[x.v, .int .i64 0, .bool false]) (by simp [results, Try.results35, go_sem, z0, z1, z2, z3, z4, z5]) rfl ?_
    refine ⟨x, rfl, h.new N9, rfl, N9⟩
  | some z =>
    rw [hf] at hr
    obtain ⟨rfl, rfl, rfl⟩ : forgetS x.s k = s' ∧ z.pend = m ∧ true = b := ⟨congrArg Prod.fst hr, congrArg (fun u => u.2.1) hr, congrArg (fun u => u.2.2) hr⟩
    clear hr
    obtain ⟨hzm, hzk⟩ := fnd_mem hf
    obtain ⟨i, hp, hi, hil⟩ := Pos.yes hw.nd hzm
    have hno := noK_at hw.nd hi
    rw [hzk] at hp hno
    have hil2 : i < x.n0 := by have := h.l0; omega
    have d1 : decide ((i : Int) < 0) = false := decide_eq_false (by omega)
    refine (find_d x k i _ h0.r0 (by omega) hp).mono ?_
    rintro e w1 ⟨rfl, hn1⟩
    have g := hn1.keep b3
    have p := hn1.keep b1
    have q := hn1.keep b2
    have h1 := h0.new hn1
    have HI := hide hi
    have HNO := hide hno
    clear c0 c1 c2 c3 c4 c5 k0 k1 hf hi hzm hzk hp hil hno
    have d3 : decide (i < x.n0) = true := decide_eq_true hil2
    obtain ⟨ad, hA⟩ := h1.r0.some (by omega)
    have hrr := h1.r0
    rw [hA] at hrr
    obtain ⟨t0, t1, t2, t3, t4⟩ := hrr.cell5 HI.out
    have hcap : x.n0 ≤ x.c0 := hrr.cap
    have c0 : w1.cell? ⟨w.heap.size, 0, none⟩ = some (.slice (some ad) x.n0 x.c0) := by rw [← hA]; exact (blk_cell p 0).trans rfl
    have hlt0 : w.heap.size + 3 ≤ w1.heap.size := by have := hn1.size; omega
    have HA := hide hA
    clear hA
    have s1 := run_cut_h (P := Try.prog) 43 59 5 Try.underlying43 size_5 (some ad) x.n0 x.c0 i i rfl (by omega) .i64
    have s2 := run_cut_l (P := Try.prog) 43 59 5 Try.underlying43 size_5 (some ad) x.n0 x.c0 ((i : Int) + 1) (i + 1) (by omega) (by omega) .i64
    have hlt1 : w.heap.size < w1.heap.size := by omega
    have ht1 := hrr.take i (by omega)
    have ht2 := hrr.drop (i + 1) (by omega)
    rw [kns_take] at ht1
    rw [kns_drop] at ht2
    go_upto_region 5 with (fail)
    go_upto_region 6 with (at_builtin; refine app_5 rfl _ _ rfl (w.heap.size + 3) rfl rfl (Own.lit0 _ _ _ _ hlt0) (ht1.new (New.alloc1 _ _)) (by omega) (by simp; omega) ?_; intro A1 f1 w3 ho3 he3 hA3; rw [Nat.zero_add] at ho3 ⊢; rw [List.nil_append] at ho3)
    have hn3 : New w1 w3 := (New.alloc1 _ _).trans he3 (fun i hi h => by have := (inA_some _ _).1 h; simp at this; omega)
    have p3 := hn3.keep p
    have q3 := hn3.keep q
    have g3 := hn3.keep g
    have ht3 := ht2.new hn3
    have hsz3 := hn3.size
    clear c0 t0 t1 t2 t3 t4 he3 hA3 s1
    have c0 : w3.cell? ⟨w.heap.size, 0, none⟩ = some (.slice (some ad) x.n0 x.c0) := by rw [← HA.out]; exact (blk_cell p3 0).trans rfl
    go_upto_region 7 with (at_builtin; refine app_5 rfl _ _ rfl (w.heap.size + 3) rfl rfl ho3 ht3 (by omega) (by omega) ?_; intro A2 f2 w4 ho4 he4 hA4; have p4 := he4.keep p3 (fun hj => by have := (ho3.at_ hj).1; omega); have kp : w4.cell? ⟨w.heap.size, 0, none⟩ = some (.slice x.a0 x.n0 x.c0) := (blk_cell p4 0).trans rfl; have kf := blk_free p4 0)
    have q4 := he4.keep q3 (fun hj => by have := (ho3.at_ hj).1; omega)
    have g4 := he4.keep g3 (fun hj => by have := (ho3.at_ hj).1; omega)
    have N4 : New w w4 := ((hn0.then hn1).then hn3).trans he4 (fun j hj h => by have := (ho3.at_ h).1; omega)
    have p5 := blk_set p4 0 (.slice A2 (i + (x.n0 - (i + 1))) f2)
    have S5 : Ext (fun j => j = w.heap.size) w4 (w4.setCell ⟨w.heap.size, 0, none⟩ (.slice A2 (i + (x.n0 - (i + 1))) f2)) := (Ext.refl _ w4).set (by rfl)
    generalize w4.setCell ⟨w.heap.size, 0, none⟩ (.slice A2 (i + (x.n0 - (i + 1))) f2) = w5 at *
    have q5 := S5.keep q4 (by omega)
    have g5 := S5.keep g4 (by omega)
    have N5 : New w w5 := N4.trans S5 (fun j hj e => by omega)
    have ho5 := ho4.keep S5 (fun j hj e => by have := (ho4.at_ hj).1; omega)
    clear c0 kp kf s2
    have hlt5 : w.heap.size < w5.heap.size := blk_lt p5
    have c0 : w5.cell? ⟨w.heap.size, 0, none⟩ = some (.slice A2 (i + (x.n0 - (i + 1))) f2) := (blk_cell p5 0).trans rfl
    have c1 : w5.cell? ⟨w.heap.size, 1, none⟩ = some (.slice x.a1 x.n1 x.c1) := (blk_cell p5 1).trans rfl
    have c2 : w5.cell? ⟨w.heap.size, 2, none⟩ = some (.slice x.a2 x.n2 x.c2) := (blk_cell p5 2).trans rfl
    have c3 : w5.cell? ⟨w.heap.size, 3, none⟩ = some (.int .i64 x.s.most) := (blk_cell p5 3).trans rfl
    have c4 : w5.cell? ⟨w.heap.size, 4, none⟩ = some (.int .i64 x.s.run) := (blk_cell p5 4).trans rfl
    have c5 : w5.cell? ⟨w.heap.size, 5, none⟩ = some (.int .i64 x.s.total) := (blk_cell p5 5).trans rfl
    have k0 := (blk_cell q5 0).trans rfl
    have k1 := (blk_cell q5 1).trans rfl
    go_wp2_with fail
    refine (without_d _ _ _ _ k _ (h.r1.new N5) (by omega)).mono ?_
    rintro e w6 ⟨B1, e1, rfl, ho6, hn6⟩
    have p6 := hn6.keep p5
    have q6 := hn6.keep q5
    have g6 := hn6.keep g5
    have N6 := N5.then hn6
    clear c1 k0 k1
    have kp : w6.cell? ⟨w.heap.size, 1, none⟩ = some (.slice x.a1 x.n1 x.c1) := (blk_cell p6 1).trans rfl
    have kf := blk_free p6 1
    have hB1 : ∀ j, inA B1 j → w.heap.size + 3 ≤ j := fun j hj => by have := (ho6.at_ hj).1; have := S5.size; have := he4.size; omega
    go_upto_region 8 with (fail)
    have p7 := blk_set p6 1 (.slice B1 (noQ (x.s.u 0) k).length e1)
    have S7 : Ext (fun j => j = w.heap.size) w6 (w6.setCell ⟨w.heap.size, 1, none⟩ (.slice B1 (noQ (x.s.u 0) k).length e1)) := (Ext.refl _ w6).set (by rfl)
    generalize w6.setCell ⟨w.heap.size, 1, none⟩ (.slice B1 (noQ (x.s.u 0) k).length e1) = w7 at *
    have q7 := S7.keep q6 (by omega)
    have g7 := S7.keep g6 (by omega)
    have N7 : New w w7 := N6.trans S7 (fun j hj e => by omega)
    have ho57 := (ho5.new hn6).keep S7 (fun j hj e => by have := (ho5.at_ hj).1; omega)
    have ho7 := ho6.keep S7 (fun j hj e => by have := hB1 j hj; omega)
    clear kp kf
    have hlt7 : w.heap.size < w7.heap.size := blk_lt p7
    have c2 : w7.cell? ⟨w.heap.size, 2, none⟩ = some (.slice x.a2 x.n2 x.c2) := (blk_cell p7 2).trans rfl
    have k0 := (blk_cell q7 0).trans rfl
    have k1 := (blk_cell q7 1).trans rfl
    go_wp2_with fail
    refine (without_d _ _ _ _ k _ (h.r2.new N7) (by omega)).mono ?_
    rintro e w8 ⟨B2, e2, rfl, ho8, hn8⟩
    have p8 := hn8.keep p7
    have g8 := hn8.keep g7
    have N8 := N7.then hn8
    clear c2 k0 k1
    have kp : w8.cell? ⟨w.heap.size, 2, none⟩ = some (.slice x.a2 x.n2 x.c2) := (blk_cell p8 2).trans rfl
    have kf := blk_free p8 2
    have hB2 : ∀ j, inA B2 j → w.heap.size + 3 ≤ j := fun j hj => by have := (ho8.at_ hj).1; have := S5.size; have := he4.size; have := S7.size; have := hn6.size; omega
    go_upto_region 9 with (fail)
    have p9 := blk_set p8 2 (.slice B2 (noQ (x.s.u 1) k).length e2)
    have S9 : Ext (fun j => j = w.heap.size) w8 (w8.setCell ⟨w.heap.size, 2, none⟩ (.slice B2 (noQ (x.s.u 1) k).length e2)) := (Ext.refl _ w8).set (by rfl)
    generalize w8.setCell ⟨w.heap.size, 2, none⟩ (.slice B2 (noQ (x.s.u 1) k).length e2) = w9 at *
    have g9 := S9.keep g8 (by omega)
    have Nn : New w w9 := N8.trans S9 (fun j hj e => by omega)
    have ho59 := (ho57.new hn8).keep S9 (fun j hj e => by have := (ho57.at_ hj).1; omega)
    have ho79 := (ho7.new hn8).keep S9 (fun j hj e => by have := hB1 j hj; omega)
    have ho9 := ho8.keep S9 (fun j hj e => by have := hB2 j hj; omega)
    clear kp kf
    have c0 : w9.cell? ⟨w.heap.size, 0, none⟩ = some (.slice A2 (i + (x.n0 - (i + 1))) f2) := (blk_cell p9 0).trans rfl
    have c1 : w9.cell? ⟨w.heap.size, 1, none⟩ = some (.slice B1 (noQ (x.s.u 0) k).length e1) := (blk_cell p9 1).trans rfl
    have c2 : w9.cell? ⟨w.heap.size, 2, none⟩ = some (.slice B2 (noQ (x.s.u 1) k).length e2) := (blk_cell p9 2).trans rfl
    have c3 : w9.cell? ⟨w.heap.size, 3, none⟩ = some (.int .i64 x.s.most) := (blk_cell p9 3).trans rfl
    have c4 : w9.cell? ⟨w.heap.size, 4, none⟩ = some (.int .i64 x.s.run) := (blk_cell p9 4).trans rfl
    have c5 : w9.cell? ⟨w.heap.size, 5, none⟩ = some (.int .i64 x.s.total) := (blk_cell p9 5).trans rfl
    have r0 := (blk_cell g9 0).trans rfl
    have rf0 := blk_free g9 0
    have r1 := (blk_cell g9 1).trans rfl
    have rf1 := blk_free g9 1
    have r2 := (blk_cell g9 2).trans rfl
    have rf2 := blk_free g9 2
    have r3 := (blk_cell g9 3).trans rfl
    have rf3 := blk_free g9 3
    have r4 := (blk_cell g9 4).trans rfl
    have rf4 := blk_free g9 4
    have r5 := (blk_cell g9 5).trans rfl
    have rf5 := blk_free g9 5
    go_wp2_with fail
    obtain ⟨wz, hwz, Yz, Sz⟩ := set6 g9 rfl (.slice A2 (i + (x.n0 - (i + 1))) f2) (.slice B1 (noQ (x.s.u 0) k).length e1) (.slice B2 (noQ (x.s.u 1) k).length e2) (.int .i64 x.s.most) (.int .i64 x.s.run) (.int .i64 x.s.total)
    rw [← hwz]
    clear hwz c0 c1 c2 c3 c4 c5 r0 r1 r2 r3 r4 r5 rf0 rf1 rf2 rf3 rf4 rf5
    have z0 := (blk_cell Yz 0).trans rfl
    have z1 := (blk_cell Yz 1).trans rfl
    have z2 := (blk_cell Yz 2).trans rfl
    have z3 := (blk_cell Yz 3).trans rfl
    have z4 := (blk_cell Yz 4).trans rfl
    have z5 := (blk_cell Yz 5).trans rfl
    have N9 : New w wz := Nn.trans Sz (fun j hj e => by omega)
    have ho5z := ho59.keep Sz (fun j hj e => by have := (ho59.at_ hj).1; omega)
    have ho7z := ho79.keep Sz (fun j hj e => by have := hB1 j hj; omega)
    have ho9z := ho9.keep Sz (fun j hj e => by have := hB2 j hj; omega)
    refine bodyPost_ret (v := .tuple #[.agg #[.slice A2 (i + (x.n0 - (i + 1))) f2, .slice B1 (noQ (x.s.u 0) k).length e1, .slice B2 (noQ (x.s.u 1) k).length e2, .int .i64 x.s.most, .int .i64 x.s.run, .int .i64 x.s.total], .int .i64 z.pend, .bool true]) (by simp [results, Try.results35, go_sem, z0, z1, z2, z3, z4, z5]) rfl ?_
    refine ⟨⟨forgetS x.s k, A2, i + (x.n0 - (i + 1)), f2, B1, (noQ (x.s.u 0) k).length, e1, B2, (noQ (x.s.u 1) k).length, e2⟩, rfl, ⟨?_, ho7z.rd, ho9z.rd, ?_, ?_, ?_⟩, rfl, N9⟩
    · show Rd wz 5 A2 _ f2 (kns (noK x.s.L k))
      rw [HNO.out, kns_append]
      exact ho5z.rd
    · intro j hj
      have h9 := ho5z.at_ hj
      exact ⟨fun ht => by have := hT j ht; omega, h9.2⟩
    · intro j hj
      have h9 := ho7z.at_ hj
      exact ⟨fun ht => by have := hT j ht; have := hB1 j hj; omega, h9.2⟩
    · intro j hj
      have h9 := ho9z.at_ hj
      exact ⟨fun ht => by have := hT j ht; have := hB2 j hj; omega, h9.2⟩
end Go.Proofs.Ytmonhhodbinagaa
