/- The document's pacer: a key is known. -/
import Derived.Test.YtmonhhodbinagaaK32
namespace Go.Proofs.Ytmonhhodbinagaa
open Go.RowKit Go.Maps
set_option maxRecDepth 100000

instance (k : Int × Int) : Decidable (may k) := by unfold may; infer_instance
/-- What Know does. -/
def knowR (s : PS) (k : Int × Int) (c : Int) : PS × Int :=
  if ¬ (may k ∧ (c = 0 ∨ c = 1)) then (s, 1) else if (fnd s.L k).isSome then (s, 180) else if s.most ≤ s.L.length then (s, 3) else (knowS s k c, 0)
set_option maxHeartbeats 4000000 in
theorem know_d (x : DA) (k : Int × Int) (c : Int) (T : Nat → Prop) (w : World) (h : x.ok T w) (hT : ∀ j, T j → j < w.heap.size) (hs : x.n0 ≤ 1000) (hnd : (x.s.L.map Kn.k).Nodup) (s' : PS) (er : Int) (hr : knowR x.s k c = (s', er)) :
    Calls Try.prog 34 #[x.v, kV k, .int .i64 c] w fun e w' => ∃ y : DA, e = .returned (.tuple #[y.v, .int .i64 er]) ∧ y.ok T w' ∧ y.s = s' ∧ New w w' := by
  obtain ⟨w0, hw0, b1, b2, b3, hn0, hz0⟩ := threeNew w x.o #[.int .i64 k.1, .int .i64 k.2] zP 46 49 46
  go_enter Try.func34, Try.ntmps34
  go_upto_region 1 with (fail)
  rw [← hw0]
  clear hw0
  have h0 := h.new hn0
  unfold knowR at hr
  have k0 := (blk_cell b2 0).trans rfl
  have k1 := (blk_cell b2 1).trans rfl
  go_wp2_with fail
  refine (may_d k (decide (may k)) _ rfl).mono ?_
  rintro e w1 ⟨rfl, hn1⟩
  have g := hn1.keep b3
  have p := hn1.keep b1
  have q := hn1.keep b2
  clear k0 k1
  by_cases hm : may k
  rotate_left
  · rw [if_pos (fun h => hm h.1)] at hr
    obtain ⟨rfl, rfl⟩ : x.s = s' ∧ (1 : Int) = er := ⟨congrArg Prod.fst hr, congrArg Prod.snd hr⟩
    clear hr
    rw [decide_eq_false hm]
    clear hm
    have c0 := (blk_cell p 0).trans rfl
    have c1 := (blk_cell p 1).trans rfl
    have c2 := (blk_cell p 2).trans rfl
    have c3 := (blk_cell p 3).trans rfl
    have c4 := (blk_cell p 4).trans rfl
    have c5 := (blk_cell p 5).trans rfl
    have r0 := (blk_cell g 0).trans rfl
    have rf0 := blk_free g 0
    have r1 := (blk_cell g 1).trans rfl
    have rf1 := blk_free g 1
    have r2 := (blk_cell g 2).trans rfl
    have rf2 := blk_free g 2
    have r3 := (blk_cell g 3).trans rfl
    have rf3 := blk_free g 3
    have r4 := (blk_cell g 4).trans rfl
    have rf4 := blk_free g 4
    have r5 := (blk_cell g 5).trans rfl
    have rf5 := blk_free g 5
    go_wp2_with fail
    obtain ⟨wz, hwz, Yz, Sz⟩ := set6 g rfl (.slice x.a0 x.n0 x.c0) (.slice x.a1 x.n1 x.c1) (.slice x.a2 x.n2 x.c2) (.int .i64 x.s.most) (.int .i64 x.s.run) (.int .i64 x.s.total)
    rw [← hwz]
    clear hwz c0 c1 c2 c3 c4 c5 r0 r1 r2 r3 r4 r5 rf0 rf1 rf2 rf3 rf4 rf5
    have z0 := (blk_cell Yz 0).trans rfl
    have z1 := (blk_cell Yz 1).trans rfl
    have z2 := (blk_cell Yz 2).trans rfl
    have z3 := (blk_cell Yz 3).trans rfl
    have z4 := (blk_cell Yz 4).trans rfl
    have z5 := (blk_cell Yz 5).trans rfl
    have N9 : New w wz := (hn0.then hn1).trans Sz (fun j hj e => by omega)
    refine bodyPost_ret (v := .tuple #[x.v, .int .i64 1]) (by simp [results, Try.results34, go_sem, z0, z1, z2, z3, z4, z5]) rfl ?_
    refine ⟨x, rfl, h.new N9, rfl, N9⟩
  by_cases hc : c = 0 ∨ c = 1
  rotate_left
  · rw [if_pos (fun h => hc h.2)] at hr
    obtain ⟨rfl, rfl⟩ : x.s = s' ∧ (1 : Int) = er := ⟨congrArg Prod.fst hr, congrArg Prod.snd hr⟩
    clear hr
    rw [decide_eq_true hm]
    have d1 : (c != 0) = true := by simp; omega
    have d2 : (c != 1) = true := by simp; omega
    clear hm hc
    have c0 := (blk_cell p 0).trans rfl
    have c1 := (blk_cell p 1).trans rfl
    have c2 := (blk_cell p 2).trans rfl
    have c3 := (blk_cell p 3).trans rfl
    have c4 := (blk_cell p 4).trans rfl
    have c5 := (blk_cell p 5).trans rfl
    have r0 := (blk_cell g 0).trans rfl
    have rf0 := blk_free g 0
    have r1 := (blk_cell g 1).trans rfl
    have rf1 := blk_free g 1
    have r2 := (blk_cell g 2).trans rfl
    have rf2 := blk_free g 2
    have r3 := (blk_cell g 3).trans rfl
    have rf3 := blk_free g 3
    have r4 := (blk_cell g 4).trans rfl
    have rf4 := blk_free g 4
    have r5 := (blk_cell g 5).trans rfl
    have rf5 := blk_free g 5
    go_wp2_with fail
    obtain ⟨wz, hwz, Yz, Sz⟩ := set6 g rfl (.slice x.a0 x.n0 x.c0) (.slice x.a1 x.n1 x.c1) (.slice x.a2 x.n2 x.c2) (.int .i64 x.s.most) (.int .i64 x.s.run) (.int .i64 x.s.total)
    rw [← hwz]
    clear hwz c0 c1 c2 c3 c4 c5 r0 r1 r2 r3 r4 r5 rf0 rf1 rf2 rf3 rf4 rf5
    have z0 := (blk_cell Yz 0).trans rfl
    have z1 := (blk_cell Yz 1).trans rfl
    have z2 := (blk_cell Yz 2).trans rfl
    have z3 := (blk_cell Yz 3).trans rfl
    have z4 := (blk_cell Yz 4).trans rfl
    have z5 := (blk_cell Yz 5).trans rfl
    have N9 : New w wz := (hn0.then hn1).trans Sz (fun j hj e => by omega)
    refine bodyPost_ret (v := .tuple #[x.v, .int .i64 1]) (by simp [results, Try.results34, go_sem, z0, z1, z2, z3, z4, z5]) rfl ?_
    refine ⟨x, rfl, h.new N9, rfl, N9⟩
  rw [if_neg (fun h => h ⟨hm, hc⟩)] at hr
  rw [decide_eq_true hm]
  have HM := hide hm
  clear hm
  have c0 := (blk_cell p 0).trans rfl
  have c1 := (blk_cell p 1).trans rfl
  have c2 := (blk_cell p 2).trans rfl
  have c3 := (blk_cell p 3).trans rfl
  have c4 := (blk_cell p 4).trans rfl
  have c5 := (blk_cell p 5).trans rfl
  have k0 := (blk_cell q 0).trans rfl
  have k1 := (blk_cell q 1).trans rfl
  have hcut : ∃ wc, wc = w1 := ⟨_, rfl⟩
  clear hcut
  rcases hc with rfl | rfl
  · go_wp2_with fail
    cases hf : fnd x.s.L k with
    | some z =>
      rw [hf] at hr
      obtain ⟨rfl, rfl⟩ : x.s = s' ∧ (180 : Int) = er := ⟨congrArg Prod.fst hr, congrArg Prod.snd hr⟩
      clear hr
      obtain ⟨hzm, hzk⟩ := fnd_mem hf
      obtain ⟨i, hp, hi, hil⟩ := Pos.yes hnd hzm
      rw [hzk] at hp
      have d1 : decide (0 ≤ (i : Int)) = true := decide_eq_true (by omega)
      refine (find_d x k i _ (h0.r0.new hn1) hs hp).mono ?_
      rintro e w2 ⟨rfl, hn2⟩
      have g2 := hn2.keep g
      have p2 := hn2.keep p
      clear c0 c1 c2 c3 c4 c5 k0 k1 hf hzm hzk hi hil hp
      have c0 := (blk_cell p2 0).trans rfl
      have c1 := (blk_cell p2 1).trans rfl
      have c2 := (blk_cell p2 2).trans rfl
      have c3 := (blk_cell p2 3).trans rfl
      have c4 := (blk_cell p2 4).trans rfl
      have c5 := (blk_cell p2 5).trans rfl
      have r0 := (blk_cell g2 0).trans rfl
      have rf0 := blk_free g2 0
      have r1 := (blk_cell g2 1).trans rfl
      have rf1 := blk_free g2 1
      have r2 := (blk_cell g2 2).trans rfl
      have rf2 := blk_free g2 2
      have r3 := (blk_cell g2 3).trans rfl
      have rf3 := blk_free g2 3
      have r4 := (blk_cell g2 4).trans rfl
      have rf4 := blk_free g2 4
      have r5 := (blk_cell g2 5).trans rfl
      have rf5 := blk_free g2 5
      go_wp2_with fail
      obtain ⟨wz, hwz, Yz, Sz⟩ := set6 g2 rfl (.slice x.a0 x.n0 x.c0) (.slice x.a1 x.n1 x.c1) (.slice x.a2 x.n2 x.c2) (.int .i64 x.s.most) (.int .i64 x.s.run) (.int .i64 x.s.total)
      rw [← hwz]
      clear hwz c0 c1 c2 c3 c4 c5 r0 r1 r2 r3 r4 r5 rf0 rf1 rf2 rf3 rf4 rf5
      have z0 := (blk_cell Yz 0).trans rfl
      have z1 := (blk_cell Yz 1).trans rfl
      have z2 := (blk_cell Yz 2).trans rfl
      have z3 := (blk_cell Yz 3).trans rfl
      have z4 := (blk_cell Yz 4).trans rfl
      have z5 := (blk_cell Yz 5).trans rfl
      have N9 : New w wz := ((hn0.then hn1).then hn2).trans Sz (fun j hj e => by omega)
      refine bodyPost_ret (v := .tuple #[x.v, .int .i64 180]) (by simp [results, Try.results34, go_sem, z0, z1, z2, z3, z4, z5]) rfl ?_
      refine ⟨x, rfl, h.new N9, rfl, N9⟩
    | none =>
      rw [hf] at hr
      simp only [Option.isSome_none, Bool.false_eq_true, if_false] at hr
      have HF := hide hf
      refine (find_d x k (-1) _ (h0.r0.new hn1) hs (Pos.no hf)).mono ?_
      rintro e w2 ⟨rfl, hn2⟩
      have g2 := hn2.keep g
      have p2 := hn2.keep p
      have q2 := hn2.keep q
      clear c0 c1 c2 c3 c4 c5 k0 k1 hf
      by_cases hm : x.s.most ≤ x.s.L.length
      · rw [if_pos hm] at hr
        obtain ⟨rfl, rfl⟩ : x.s = s' ∧ (3 : Int) = er := ⟨congrArg Prod.fst hr, congrArg Prod.snd hr⟩
        have d1 : decide (x.s.most ≤ (x.n0 : Int)) = true := decide_eq_true (by rw [← h.l0]; exact hm)
        clear hr hm
        have c0 := (blk_cell p2 0).trans rfl
        have c1 := (blk_cell p2 1).trans rfl
        have c2 := (blk_cell p2 2).trans rfl
        have c3 := (blk_cell p2 3).trans rfl
        have c4 := (blk_cell p2 4).trans rfl
        have c5 := (blk_cell p2 5).trans rfl
        have r0 := (blk_cell g2 0).trans rfl
        have rf0 := blk_free g2 0
        have r1 := (blk_cell g2 1).trans rfl
        have rf1 := blk_free g2 1
        have r2 := (blk_cell g2 2).trans rfl
        have rf2 := blk_free g2 2
        have r3 := (blk_cell g2 3).trans rfl
        have rf3 := blk_free g2 3
        have r4 := (blk_cell g2 4).trans rfl
        have rf4 := blk_free g2 4
        have r5 := (blk_cell g2 5).trans rfl
        have rf5 := blk_free g2 5
        go_wp2_with fail
        obtain ⟨wz, hwz, Yz, Sz⟩ := set6 g2 rfl (.slice x.a0 x.n0 x.c0) (.slice x.a1 x.n1 x.c1) (.slice x.a2 x.n2 x.c2) (.int .i64 x.s.most) (.int .i64 x.s.run) (.int .i64 x.s.total)
        rw [← hwz]
        clear hwz c0 c1 c2 c3 c4 c5 r0 r1 r2 r3 r4 r5 rf0 rf1 rf2 rf3 rf4 rf5
        have z0 := (blk_cell Yz 0).trans rfl
        have z1 := (blk_cell Yz 1).trans rfl
        have z2 := (blk_cell Yz 2).trans rfl
        have z3 := (blk_cell Yz 3).trans rfl
        have z4 := (blk_cell Yz 4).trans rfl
        have z5 := (blk_cell Yz 5).trans rfl
        have N9 : New w wz := ((hn0.then hn1).then hn2).trans Sz (fun j hj e => by omega)
        refine bodyPost_ret (v := .tuple #[x.v, .int .i64 3]) (by simp [results, Try.results34, go_sem, z0, z1, z2, z3, z4, z5]) rfl ?_
        refine ⟨x, rfl, h.new N9, rfl, N9⟩
      · rw [if_neg hm] at hr
        obtain ⟨rfl, rfl⟩ : knowS x.s k 0 = s' ∧ (0 : Int) = er := ⟨congrArg Prod.fst hr, congrArg Prod.snd hr⟩
        have d1 : decide (x.s.most ≤ (x.n0 : Int)) = false := decide_eq_false (by rw [← h.l0]; exact hm)
        clear hr hm
        have N2 := (hn0.then hn1).then hn2
        have hsz := N2.size
        have hr2 := h.r0.new N2
        have c0 := (blk_cell p2 0).trans rfl
        have c1 := (blk_cell p2 1).trans rfl
        have c2 := (blk_cell p2 2).trans rfl
        have c3 := (blk_cell p2 3).trans rfl
        have c4 := (blk_cell p2 4).trans rfl
        have c5 := (blk_cell p2 5).trans rfl
        have k0 := (blk_cell q2 0).trans rfl
        have k1 := (blk_cell q2 1).trans rfl
        have hb2 : w.heap.size + 3 ≤ w2.heap.size := by rw [← hz0]; exact (hn1.then hn2).size
        have hlt1 : w.heap.size < w2.heap.size := blk_lt p2
        have hlt2 : w.heap.size + 1 < w2.heap.size := blk_lt q2
        go_upto_region 7 with (fail)
        go_upto_region 8 with (at_builtin; refine app_5 rfl _ _ rfl (w.heap.size + 3) rfl rfl (Own.lit0 _ _ _ _ hb2) (hr2.new (New.alloc1 _ _)) (by omega) (by simp; omega) ?_; intro A1 f1 w3 ho3 he3 hA3; rw [Nat.zero_add] at ho3 ⊢; rw [List.nil_append] at ho3)
        have hn3 : New w2 w3 := (New.alloc1 _ _).trans he3 (fun i hi h => by have := (inA_some _ _).1 h; simp at this; omega)
        have p3 := hn3.keep p2
        have q3 := hn3.keep q2
        have g3 := hn3.keep g2
        have hsz3 := hn3.size
        have hb3 : w.heap.size + 3 ≤ w3.heap.size := by omega
        clear c0 c1 c2 c3 c4 c5 k0 k1 he3 hA3
        have k0 := (blk_cell q3 0).trans rfl
        have k1 := (blk_cell q3 1).trans rfl
        have hlt1 : w.heap.size < w3.heap.size := blk_lt p3
        have hlt2 : w.heap.size + 1 < w3.heap.size := blk_lt q3
        have hrb : Rd (w3.alloc (.cells #[.int .i64 k.1, .int .i64 k.2, .int .i64 0, .int .i64 0, .int .i64 0] 59)) 5 (some ⟨w3.heap.size, 0, none⟩) 1 1 (kns [⟨k, 0, 0, 0⟩]) := rd_lit w3 59 5 1 #[.int .i64 k.1, .int .i64 k.2, .int .i64 0, .int .i64 0, .int .i64 0] (by omega) rfl (by simp [Value.oneCell'])
        go_upto_region 9 with (at_builtin; refine app_5 rfl _ _ rfl (w.heap.size + 3) rfl rfl (ho3.new (New.alloc1 _ _)) hrb (by omega) (by simp; omega) ?_; intro A2 f2 w4 ho4 he4 hA4; have hn4 : Ext (inA A1) w3 w4 := (New.alloc1 _ _).to.trans he4 (fun _ _ h => h); have p4 := hn4.keep p3 (fun hj => by have := (ho3.at_ hj).1; omega); have kp : w4.cell? ⟨w.heap.size, 0, none⟩ = some (.slice x.a0 x.n0 x.c0) := (blk_cell p4 0).trans rfl; have kf := blk_free p4 0)
        have g4 := hn4.keep g3 (fun hj => by have := (ho3.at_ hj).1; omega)
        have p5 := blk_set p4 0 (.slice A2 (x.n0 + 1) f2)
        have S5 : Ext (fun j => j = w.heap.size) w4 (w4.setCell ⟨w.heap.size, 0, none⟩ (.slice A2 (x.n0 + 1) f2)) := (Ext.refl _ w4).set (by rfl)
        have g5 := S5.keep g4 (by omega)
        have ho5 := ho4.keep S5 (fun j hj e => by have := (ho4.at_ hj).1; omega)
        clear kp kf k0 k1
        generalize w4.setCell ⟨w.heap.size, 0, none⟩ (.slice A2 (x.n0 + 1) f2) = w5 at *
        have c0 : w5.cell? ⟨w.heap.size, 0, none⟩ = some (.slice A2 (x.n0 + 1) f2) := (blk_cell p5 0).trans rfl
        have c1 : w5.cell? ⟨w.heap.size, 1, none⟩ = some (.slice x.a1 x.n1 x.c1) := (blk_cell p5 1).trans rfl
        have c2 : w5.cell? ⟨w.heap.size, 2, none⟩ = some (.slice x.a2 x.n2 x.c2) := (blk_cell p5 2).trans rfl
        have c3 : w5.cell? ⟨w.heap.size, 3, none⟩ = some (.int .i64 x.s.most) := (blk_cell p5 3).trans rfl
        have c4 : w5.cell? ⟨w.heap.size, 4, none⟩ = some (.int .i64 x.s.run) := (blk_cell p5 4).trans rfl
        have c5 : w5.cell? ⟨w.heap.size, 5, none⟩ = some (.int .i64 x.s.total) := (blk_cell p5 5).trans rfl
        have r0 := (blk_cell g5 0).trans rfl
        have rf0 := blk_free g5 0
        have r1 := (blk_cell g5 1).trans rfl
        have rf1 := blk_free g5 1
        have r2 := (blk_cell g5 2).trans rfl
        have rf2 := blk_free g5 2
        have r3 := (blk_cell g5 3).trans rfl
        have rf3 := blk_free g5 3
        have r4 := (blk_cell g5 4).trans rfl
        have rf4 := blk_free g5 4
        have r5 := (blk_cell g5 5).trans rfl
        have rf5 := blk_free g5 5
        go_wp2_with fail
        obtain ⟨wz, hwz, Yz, Sz⟩ := set6 g5 rfl (.slice A2 (x.n0 + 1) f2) (.slice x.a1 x.n1 x.c1) (.slice x.a2 x.n2 x.c2) (.int .i64 x.s.most) (.int .i64 x.s.run) (.int .i64 x.s.total)
        rw [← hwz]
        clear hwz c0 c1 c2 c3 c4 c5 r0 r1 r2 r3 r4 r5 rf0 rf1 rf2 rf3 rf4 rf5
        have z0 := (blk_cell Yz 0).trans rfl
        have z1 := (blk_cell Yz 1).trans rfl
        have z2 := (blk_cell Yz 2).trans rfl
        have z3 := (blk_cell Yz 3).trans rfl
        have z4 := (blk_cell Yz 4).trans rfl
        have z5 := (blk_cell Yz 5).trans rfl
        have N3 := N2.then hn3
        have N4 := N3.trans hn4 (fun j hj h => by have := (ho3.at_ h).1; omega)
        have N5 : New w w5 := N4.trans S5 (fun j hj e => by omega)
        have N9 : New w wz := N5.trans Sz (fun j hj e => by omega)
        have ho9 := ho5.keep Sz (fun j hj e => by have := (ho5.at_ hj).1; omega)
        refine bodyPost_ret (v := .tuple #[.agg #[.slice A2 (x.n0 + 1) f2, .slice x.a1 x.n1 x.c1, .slice x.a2 x.n2 x.c2, .int .i64 x.s.most, .int .i64 x.s.run, .int .i64 x.s.total], .int .i64 0]) (by simp [results, Try.results34, go_sem, z0, z1, z2, z3, z4, z5]) rfl ?_
        refine ⟨⟨knowS x.s k 0, A2, x.n0 + 1, f2, x.a1, x.n1, x.c1, x.a2, x.n2, x.c2⟩, rfl, ⟨?_, h.r1.new N9, h.r2.new N9, ?_, h.t1.new N9, h.t2.new N9⟩, rfl, N9⟩
        · show Rd wz 5 A2 (x.n0 + 1) f2 (kns (x.s.L ++ [⟨k, 0, 0, 0⟩]))
          rw [kns_append]
          exact ho9.rd
        · intro j hj
          have h9 := ho9.at_ hj
          exact ⟨fun ht => by have := hT j ht; omega, h9.2⟩
  · go_wp2_with fail
    cases hf : fnd x.s.L k with
    | some z =>
      rw [hf] at hr
      obtain ⟨rfl, rfl⟩ : x.s = s' ∧ (180 : Int) = er := ⟨congrArg Prod.fst hr, congrArg Prod.snd hr⟩
      clear hr
      obtain ⟨hzm, hzk⟩ := fnd_mem hf
      obtain ⟨i, hp, hi, hil⟩ := Pos.yes hnd hzm
      rw [hzk] at hp
      have d1 : decide (0 ≤ (i : Int)) = true := decide_eq_true (by omega)
      refine (find_d x k i _ (h0.r0.new hn1) hs hp).mono ?_
      rintro e w2 ⟨rfl, hn2⟩
      have g2 := hn2.keep g
      have p2 := hn2.keep p
      clear c0 c1 c2 c3 c4 c5 k0 k1 hf hzm hzk hi hil hp
      have c0 := (blk_cell p2 0).trans rfl
      have c1 := (blk_cell p2 1).trans rfl
      have c2 := (blk_cell p2 2).trans rfl
      have c3 := (blk_cell p2 3).trans rfl
      have c4 := (blk_cell p2 4).trans rfl
      have c5 := (blk_cell p2 5).trans rfl
      have r0 := (blk_cell g2 0).trans rfl
      have rf0 := blk_free g2 0
      have r1 := (blk_cell g2 1).trans rfl
      have rf1 := blk_free g2 1
      have r2 := (blk_cell g2 2).trans rfl
      have rf2 := blk_free g2 2
      have r3 := (blk_cell g2 3).trans rfl
      have rf3 := blk_free g2 3
      have r4 := (blk_cell g2 4).trans rfl
      have rf4 := blk_free g2 4
      have r5 := (blk_cell g2 5).trans rfl
      have rf5 := blk_free g2 5
      go_wp2_with fail
      obtain ⟨wz, hwz, Yz, Sz⟩ := set6 g2 rfl (.slice x.a0 x.n0 x.c0) (.slice x.a1 x.n1 x.c1) (.slice x.a2 x.n2 x.c2) (.int .i64 x.s.most) (.int .i64 x.s.run) (.int .i64 x.s.total)
      rw [← hwz]
      clear hwz c0 c1 c2 c3 c4 c5 r0 r1 r2 r3 r4 r5 rf0 rf1 rf2 rf3 rf4 rf5
      have z0 := (blk_cell Yz 0).trans rfl
      have z1 := (blk_cell Yz 1).trans rfl
      have z2 := (blk_cell Yz 2).trans rfl
      have z3 := (blk_cell Yz 3).trans rfl
      have z4 := (blk_cell Yz 4).trans rfl
      have z5 := (blk_cell Yz 5).trans rfl
      have N9 : New w wz := ((hn0.then hn1).then hn2).trans Sz (fun j hj e => by omega)
      refine bodyPost_ret (v := .tuple #[x.v, .int .i64 180]) (by simp [results, Try.results34, go_sem, z0, z1, z2, z3, z4, z5]) rfl ?_
      refine ⟨x, rfl, h.new N9, rfl, N9⟩
    | none =>
      rw [hf] at hr
      simp only [Option.isSome_none, Bool.false_eq_true, if_false] at hr
      have HF := hide hf
      refine (find_d x k (-1) _ (h0.r0.new hn1) hs (Pos.no hf)).mono ?_
      rintro e w2 ⟨rfl, hn2⟩
      have g2 := hn2.keep g
      have p2 := hn2.keep p
      have q2 := hn2.keep q
      clear c0 c1 c2 c3 c4 c5 k0 k1 hf
      by_cases hm : x.s.most ≤ x.s.L.length
      · rw [if_pos hm] at hr
        obtain ⟨rfl, rfl⟩ : x.s = s' ∧ (3 : Int) = er := ⟨congrArg Prod.fst hr, congrArg Prod.snd hr⟩
        have d1 : decide (x.s.most ≤ (x.n0 : Int)) = true := decide_eq_true (by rw [← h.l0]; exact hm)
        clear hr hm
        have c0 := (blk_cell p2 0).trans rfl
        have c1 := (blk_cell p2 1).trans rfl
        have c2 := (blk_cell p2 2).trans rfl
        have c3 := (blk_cell p2 3).trans rfl
        have c4 := (blk_cell p2 4).trans rfl
        have c5 := (blk_cell p2 5).trans rfl
        have r0 := (blk_cell g2 0).trans rfl
        have rf0 := blk_free g2 0
        have r1 := (blk_cell g2 1).trans rfl
        have rf1 := blk_free g2 1
        have r2 := (blk_cell g2 2).trans rfl
        have rf2 := blk_free g2 2
        have r3 := (blk_cell g2 3).trans rfl
        have rf3 := blk_free g2 3
        have r4 := (blk_cell g2 4).trans rfl
        have rf4 := blk_free g2 4
        have r5 := (blk_cell g2 5).trans rfl
        have rf5 := blk_free g2 5
        go_wp2_with fail
        obtain ⟨wz, hwz, Yz, Sz⟩ := set6 g2 rfl (.slice x.a0 x.n0 x.c0) (.slice x.a1 x.n1 x.c1) (.slice x.a2 x.n2 x.c2) (.int .i64 x.s.most) (.int .i64 x.s.run) (.int .i64 x.s.total)
        rw [← hwz]
        clear hwz c0 c1 c2 c3 c4 c5 r0 r1 r2 r3 r4 r5 rf0 rf1 rf2 rf3 rf4 rf5
        have z0 := (blk_cell Yz 0).trans rfl
        have z1 := (blk_cell Yz 1).trans rfl
        have z2 := (blk_cell Yz 2).trans rfl
        have z3 := (blk_cell Yz 3).trans rfl
        have z4 := (blk_cell Yz 4).trans rfl
        have z5 := (blk_cell Yz 5).trans rfl
        have N9 : New w wz := ((hn0.then hn1).then hn2).trans Sz (fun j hj e => by omega)
        refine bodyPost_ret (v := .tuple #[x.v, .int .i64 3]) (by simp [results, Try.results34, go_sem, z0, z1, z2, z3, z4, z5]) rfl ?_
        refine ⟨x, rfl, h.new N9, rfl, N9⟩
      · rw [if_neg hm] at hr
        obtain ⟨rfl, rfl⟩ : knowS x.s k 1 = s' ∧ (0 : Int) = er := ⟨congrArg Prod.fst hr, congrArg Prod.snd hr⟩
        have d1 : decide (x.s.most ≤ (x.n0 : Int)) = false := decide_eq_false (by rw [← h.l0]; exact hm)
        clear hr hm
        have N2 := (hn0.then hn1).then hn2
        have hsz := N2.size
        have hr2 := h.r0.new N2
        have c0 := (blk_cell p2 0).trans rfl
        have c1 := (blk_cell p2 1).trans rfl
        have c2 := (blk_cell p2 2).trans rfl
        have c3 := (blk_cell p2 3).trans rfl
        have c4 := (blk_cell p2 4).trans rfl
        have c5 := (blk_cell p2 5).trans rfl
        have k0 := (blk_cell q2 0).trans rfl
        have k1 := (blk_cell q2 1).trans rfl
        have hb2 : w.heap.size + 3 ≤ w2.heap.size := by rw [← hz0]; exact (hn1.then hn2).size
        have hlt1 : w.heap.size < w2.heap.size := blk_lt p2
        have hlt2 : w.heap.size + 1 < w2.heap.size := blk_lt q2
        go_upto_region 7 with (fail)
        go_upto_region 8 with (at_builtin; refine app_5 rfl _ _ rfl (w.heap.size + 3) rfl rfl (Own.lit0 _ _ _ _ hb2) (hr2.new (New.alloc1 _ _)) (by omega) (by simp; omega) ?_; intro A1 f1 w3 ho3 he3 hA3; rw [Nat.zero_add] at ho3 ⊢; rw [List.nil_append] at ho3)
        have hn3 : New w2 w3 := (New.alloc1 _ _).trans he3 (fun i hi h => by have := (inA_some _ _).1 h; simp at this; omega)
        have p3 := hn3.keep p2
        have q3 := hn3.keep q2
        have g3 := hn3.keep g2
        have hsz3 := hn3.size
        have hb3 : w.heap.size + 3 ≤ w3.heap.size := by omega
        clear c0 c1 c2 c3 c4 c5 k0 k1 he3 hA3
        have k0 := (blk_cell q3 0).trans rfl
        have k1 := (blk_cell q3 1).trans rfl
        have hlt1 : w.heap.size < w3.heap.size := blk_lt p3
        have hlt2 : w.heap.size + 1 < w3.heap.size := blk_lt q3
        have hrb : Rd (w3.alloc (.cells #[.int .i64 k.1, .int .i64 k.2, .int .i64 1, .int .i64 0, .int .i64 0] 59)) 5 (some ⟨w3.heap.size, 0, none⟩) 1 1 (kns [⟨k, 1, 0, 0⟩]) := rd_lit w3 59 5 1 #[.int .i64 k.1, .int .i64 k.2, .int .i64 1, .int .i64 0, .int .i64 0] (by omega) rfl (by simp [Value.oneCell'])
        go_upto_region 9 with (at_builtin; refine app_5 rfl _ _ rfl (w.heap.size + 3) rfl rfl (ho3.new (New.alloc1 _ _)) hrb (by omega) (by simp; omega) ?_; intro A2 f2 w4 ho4 he4 hA4; have hn4 : Ext (inA A1) w3 w4 := (New.alloc1 _ _).to.trans he4 (fun _ _ h => h); have p4 := hn4.keep p3 (fun hj => by have := (ho3.at_ hj).1; omega); have kp : w4.cell? ⟨w.heap.size, 0, none⟩ = some (.slice x.a0 x.n0 x.c0) := (blk_cell p4 0).trans rfl; have kf := blk_free p4 0)
        have g4 := hn4.keep g3 (fun hj => by have := (ho3.at_ hj).1; omega)
        have p5 := blk_set p4 0 (.slice A2 (x.n0 + 1) f2)
        have S5 : Ext (fun j => j = w.heap.size) w4 (w4.setCell ⟨w.heap.size, 0, none⟩ (.slice A2 (x.n0 + 1) f2)) := (Ext.refl _ w4).set (by rfl)
        have g5 := S5.keep g4 (by omega)
        have ho5 := ho4.keep S5 (fun j hj e => by have := (ho4.at_ hj).1; omega)
        clear kp kf k0 k1
        generalize w4.setCell ⟨w.heap.size, 0, none⟩ (.slice A2 (x.n0 + 1) f2) = w5 at *
        have c0 : w5.cell? ⟨w.heap.size, 0, none⟩ = some (.slice A2 (x.n0 + 1) f2) := (blk_cell p5 0).trans rfl
        have c1 : w5.cell? ⟨w.heap.size, 1, none⟩ = some (.slice x.a1 x.n1 x.c1) := (blk_cell p5 1).trans rfl
        have c2 : w5.cell? ⟨w.heap.size, 2, none⟩ = some (.slice x.a2 x.n2 x.c2) := (blk_cell p5 2).trans rfl
        have c3 : w5.cell? ⟨w.heap.size, 3, none⟩ = some (.int .i64 x.s.most) := (blk_cell p5 3).trans rfl
        have c4 : w5.cell? ⟨w.heap.size, 4, none⟩ = some (.int .i64 x.s.run) := (blk_cell p5 4).trans rfl
        have c5 : w5.cell? ⟨w.heap.size, 5, none⟩ = some (.int .i64 x.s.total) := (blk_cell p5 5).trans rfl
        have r0 := (blk_cell g5 0).trans rfl
        have rf0 := blk_free g5 0
        have r1 := (blk_cell g5 1).trans rfl
        have rf1 := blk_free g5 1
        have r2 := (blk_cell g5 2).trans rfl
        have rf2 := blk_free g5 2
        have r3 := (blk_cell g5 3).trans rfl
        have rf3 := blk_free g5 3
        have r4 := (blk_cell g5 4).trans rfl
        have rf4 := blk_free g5 4
        have r5 := (blk_cell g5 5).trans rfl
        have rf5 := blk_free g5 5
        go_wp2_with fail
        obtain ⟨wz, hwz, Yz, Sz⟩ := set6 g5 rfl (.slice A2 (x.n0 + 1) f2) (.slice x.a1 x.n1 x.c1) (.slice x.a2 x.n2 x.c2) (.int .i64 x.s.most) (.int .i64 x.s.run) (.int .i64 x.s.total)
        rw [← hwz]
        clear hwz c0 c1 c2 c3 c4 c5 r0 r1 r2 r3 r4 r5 rf0 rf1 rf2 rf3 rf4 rf5
        have z0 := (blk_cell Yz 0).trans rfl
        have z1 := (blk_cell Yz 1).trans rfl
        have z2 := (blk_cell Yz 2).trans rfl
        have z3 := (blk_cell Yz 3).trans rfl
        have z4 := (blk_cell Yz 4).trans rfl
        have z5 := (blk_cell Yz 5).trans rfl
        have N3 := N2.then hn3
        have N4 := N3.trans hn4 (fun j hj h => by have := (ho3.at_ h).1; omega)
        have N5 : New w w5 := N4.trans S5 (fun j hj e => by omega)
        have N9 : New w wz := N5.trans Sz (fun j hj e => by omega)
        have ho9 := ho5.keep Sz (fun j hj e => by have := (ho5.at_ hj).1; omega)
        refine bodyPost_ret (v := .tuple #[.agg #[.slice A2 (x.n0 + 1) f2, .slice x.a1 x.n1 x.c1, .slice x.a2 x.n2 x.c2, .int .i64 x.s.most, .int .i64 x.s.run, .int .i64 x.s.total], .int .i64 0]) (by simp [results, Try.results34, go_sem, z0, z1, z2, z3, z4, z5]) rfl ?_
        refine ⟨⟨knowS x.s k 1, A2, x.n0 + 1, f2, x.a1, x.n1, x.c1, x.a2, x.n2, x.c2⟩, rfl, ⟨?_, h.r1.new N9, h.r2.new N9, ?_, h.t1.new N9, h.t2.new N9⟩, rfl, N9⟩
        · show Rd wz 5 A2 (x.n0 + 1) f2 (kns (x.s.L ++ [⟨k, 1, 0, 0⟩]))
          rw [kns_append]
          exact ho9.rd
        · intro j hj
          have h9 := ho9.at_ hj
          exact ⟨fun ht => by have := hT j ht; omega, h9.2⟩
end Go.Proofs.Ytmonhhodbinagaa
