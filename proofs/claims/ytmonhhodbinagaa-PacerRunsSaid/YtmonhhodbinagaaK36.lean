/- The document's pacer: with another one at a place. -/
import Derived.Test.YtmonhhodbinagaaK33
namespace Go.Proofs.Ytmonhhodbinagaa
open Go.RowKit Go.Maps
set_option maxRecDepth 100000

theorem kns_cons (y : Kn) (r : List Kn) : kns (y :: r) = .int .i64 y.k.1 :: .int .i64 y.k.2 :: .int .i64 y.cls :: .int .i64 y.pend :: .int .i64 y.iss :: kns r := rfl
theorem kns_set (L : List Kn) (i : Nat) (z : Kn) (h : i < L.length) :
    (((((kns L).set (i * 5) (.int .i64 z.k.1)).set (i * 5 + 1) (.int .i64 z.k.2)).set (i * 5 + 2) (.int .i64 z.cls)).set (i * 5 + 3) (.int .i64 z.pend)).set (i * 5 + 4) (.int .i64 z.iss) = kns (L.set i z) := by
  induction L generalizing i with
  | nil => cases h
  | cons y r ih =>
    cases i with
    | zero => rw [List.set_cons_zero, kns_cons, kns_cons]; rfl
    | succ i =>
      have e := ih i (by simpa using h)
      rw [List.set_cons_succ, kns_cons, kns_cons, ← e]
      have e0 : (i + 1) * 5 = i * 5 + 1 + 1 + 1 + 1 + 1 := by omega
      have e1 : (i + 1) * 5 + 1 = (i * 5 + 1) + 1 + 1 + 1 + 1 + 1 := by omega
      have e2 : (i + 1) * 5 + 2 = (i * 5 + 2) + 1 + 1 + 1 + 1 + 1 := by omega
      have e3 : (i + 1) * 5 + 3 = (i * 5 + 3) + 1 + 1 + 1 + 1 + 1 := by omega
      have e4 : (i + 1) * 5 + 4 = (i * 5 + 4) + 1 + 1 + 1 + 1 + 1 := by omega
      rw [e1, e2, e3, e4, e0]
      simp only [List.set_cons_succ]
/-- The key's place turned. -/
theorem setK_at {L : List Kn} (hn : (L.map Kn.k).Nodup) {i : Nat} {y z : Kn} (hy : L[i]? = some y) (hk : y.k = z.k) : L.set i z = setK L z := by
  obtain ⟨hi, hy⟩ := List.getElem?_eq_some_iff.1 hy
  apply List.ext_getElem
  · simp [setK]
  · intro j h1 h2
    rw [List.length_set] at h1
    rw [List.getElem_set, show (setK L z)[j] = if L[j].k = z.k then z else L[j] by simp [setK]]
    by_cases e : i = j
    · subst e
      rw [if_pos rfl, hy, if_pos hk]
    · rw [if_neg e, if_neg]
      intro hh
      have hpw := List.pairwise_iff_getElem.1 hn
      have h3 : (L.map Kn.k)[i]'(by simpa using hi) = (L.map Kn.k)[j]'(by simpa using h1) := by
        rw [List.getElem_map, List.getElem_map, hy, hk, hh]
      rcases Nat.lt_or_gt_of_ne e with h | h
      · exact hpw i j _ _ h h3
      · exact hpw j i _ _ h h3.symm
theorem own_set5 {w : World} {base n c B : Nat} {e : TypeId} {L : List Kn} (h : Own w base e 5 (some ⟨B, 0, none⟩) n c (kns L)) (i : Nat) (z : Kn) (hi : i < L.length) :
    ∃ w', w' = (((((w.setCell ⟨B, i * 5, none⟩ (.int .i64 z.k.1)).setCell ⟨B, i * 5 + 1, none⟩ (.int .i64 z.k.2)).setCell ⟨B, i * 5 + 2, none⟩ (.int .i64 z.cls)).setCell ⟨B, i * 5 + 3, none⟩ (.int .i64 z.pend)).setCell ⟨B, i * 5 + 4, none⟩ (.int .i64 z.iss)) ∧ Own w' base e 5 (some ⟨B, 0, none⟩) n c (kns (L.set i z)) ∧ Ext (fun j => j = B) w w' := by
  have hl := kns_len L
  have e0 : ∀ j, (⟨B, 0, none⟩ : Addr).add j = ⟨B, j, none⟩ := fun j => by rw [add_at, Nat.zero_add]
  have h0 := h.set (i * 5) (by omega) (.int .i64 z.k.1) rfl
  have h1 := h0.set (i * 5 + 1) (by simp; omega) (.int .i64 z.k.2) rfl
  have h2 := h1.set (i * 5 + 2) (by simp; omega) (.int .i64 z.cls) rfl
  have h3 := h2.set (i * 5 + 3) (by simp; omega) (.int .i64 z.pend) rfl
  have h4 := h3.set (i * 5 + 4) (by simp; omega) (.int .i64 z.iss) rfl
  rw [kns_set L i z hi] at h4
  simp only [e0] at h4
  refine ⟨_, rfl, h4, ?_⟩
  exact ((((((Ext.refl _ w)).set (by rfl)).set (by rfl)).set (by rfl)).set (by rfl)).set (by rfl)
set_option maxHeartbeats 2000000 in
theorem with_d (x : DA) (i : Nat) (y z : Kn) (hy : x.s.L[i]? = some y) (hk : y.k = z.k) (hnd : (x.s.L.map Kn.k).Nodup) (T : Nat → Prop) (w : World) (h : x.ok T w) (hT : ∀ j, T j → j < w.heap.size) (hs : x.n0 ≤ 1000) :
    Calls Try.prog 47 #[x.v, .int .i64 i, .agg (kn5 z)] w fun e w' => ∃ y : DA, e = .returned y.v ∧ y.ok T w' ∧ y.s = { x.s with L := setK x.s.L z } ∧ New w w' := by
  obtain ⟨w0, hw0, b1, b2, b3, hn0, hz0⟩ := threeNew w x.o (kn5 z) zP 46 59 46
  have hset := setK_at hnd hy hk
  have hin := (List.getElem?_eq_some_iff.1 hy).1
  have hl0 := h.l0
  have hil : i < x.n0 := by omega
  have HS := hide hset
  have HL := hide hin
  have HY := hide hy
  clear hset hin hl0 hy hk hnd
  go_enter Try.func47, Try.ntmps47
  go_upto_region 1 with (fail)
  rw [← hw0]
  clear hw0
  have hr0 := h.r0.new hn0
  have c0 := (blk_cell b1 0).trans rfl
  have c1 := (blk_cell b1 1).trans rfl
  have c2 := (blk_cell b1 2).trans rfl
  have c3 := (blk_cell b1 3).trans rfl
  have c4 := (blk_cell b1 4).trans rfl
  have c5 := (blk_cell b1 5).trans rfl
  have hlt1 : w.heap.size < w0.heap.size := by omega
  have hb2 : w.heap.size + 3 ≤ w0.heap.size := by omega
  clear hz0
  go_upto_region 2 with (at_builtin; refine app_5 rfl _ _ rfl (w.heap.size + 3) rfl rfl (Own.lit0 _ _ _ _ hb2) (hr0.new (New.alloc1 _ _)) (by omega) (by simp; omega) ?_; intro A1 f1 w3 ho3 he3 hA3; rw [Nat.zero_add] at ho3 ⊢; rw [List.nil_append] at ho3)
  have hn3 : New w0 w3 := (New.alloc1 _ _).trans he3 (fun i hi h => by have := (inA_some _ _).1 h; simp at this; omega)
  have p3 := hn3.keep b1
  have q3 := hn3.keep b2
  have g3 := hn3.keep b3
  clear c0 c1 c2 c3 c4 c5 he3 hA3
  obtain ⟨ad, rfl⟩ := ho3.some (by omega)
  have had := ho3.addr
  obtain ⟨B, hB⟩ : ∃ B, B = ad.block := ⟨_, rfl⟩
  rw [← hB] at had
  subst had
  clear hB
  have hBlo := (ho3.at_ ⟨_, rfl, rfl⟩ : w.heap.size + 3 ≤ B ∧ B < w3.heap.size)
  have d2 : decide (i < x.n0) = true := decide_eq_true hil
  have k0 := (blk_cell q3 0).trans rfl
  have k1 := (blk_cell q3 1).trans rfl
  have k2 := (blk_cell q3 2).trans rfl
  have k3 := (blk_cell q3 3).trans rfl
  have k4 := (blk_cell q3 4).trans rfl
  obtain ⟨w4, hw4, ho4, S4⟩ := own_set5 ho3 i z HL.out
  obtain ⟨t0, t1, t2, t3, t4⟩ := ho3.rd.cell5 HY.out
  rw [add_at, Nat.zero_add] at t0 t1 t2 t3 t4
  have fz : ∀ j, w3.frozen? ⟨B, j, none⟩ = false := fun j => by have := ho3.free j; rwa [add_at, Nat.zero_add] at this
  have u0 := fz (i * 5)
  have u1 := fz (i * 5 + 1)
  have u2 := fz (i * 5 + 2)
  have u3 := fz (i * 5 + 3)
  have u4 := fz (i * 5 + 4)
  clear fz
  go_upto_region 3 with (fail)
  rw [← hw4]
  clear hw4 t0 t1 t2 t3 t4 u0 u1 u2 u3 u4 k0 k1 k2 k3 k4
  have p4 := S4.keep p3 (by omega)
  have g4 := S4.keep g3 (by omega)
  have kp : w4.cell? ⟨w.heap.size, 0, none⟩ = some (.slice x.a0 x.n0 x.c0) := (blk_cell p4 0).trans rfl
  have kf := blk_free p4 0
  go_upto_region 4 with (fail)
  have p5 := blk_set p4 0 (.slice (some ⟨B, 0, none⟩) x.n0 f1)
  have S5 : Ext (fun j => j = w.heap.size) w4 (w4.setCell ⟨w.heap.size, 0, none⟩ (.slice (some ⟨B, 0, none⟩) x.n0 f1)) := (Ext.refl _ w4).set (by rfl)
  have g5 := S5.keep g4 (by omega)
  have ho5 := ho4.keep S5 (fun j hj e => by have := (ho4.at_ hj).1; omega)
  clear kp kf
  generalize w4.setCell ⟨w.heap.size, 0, none⟩ (.slice (some ⟨B, 0, none⟩) x.n0 f1) = w5 at *
  have c0 : w5.cell? ⟨w.heap.size, 0, none⟩ = some (.slice (some ⟨B, 0, none⟩) x.n0 f1) := (blk_cell p5 0).trans rfl
  have c1 : w5.cell? ⟨w.heap.size, 1, none⟩ = some (.slice x.a1 x.n1 x.c1) := (blk_cell p5 1).trans rfl
  have c2 : w5.cell? ⟨w.heap.size, 2, none⟩ = some (.slice x.a2 x.n2 x.c2) := (blk_cell p5 2).trans rfl
  have c3 : w5.cell? ⟨w.heap.size, 3, none⟩ = some (.int .i64 x.s.most) := (blk_cell p5 3).trans rfl
  have c4 : w5.cell? ⟨w.heap.size, 4, none⟩ = some (.int .i64 x.s.run) := (blk_cell p5 4).trans rfl
  have c5 : w5.cell? ⟨w.heap.size, 5, none⟩ = some (.int .i64 x.s.total) := (blk_cell p5 5).trans rfl
  have r0 := (blk_cell g5 0).trans rfl
  have rf0 := blk_free g5 0
  have r1 := (blk_cell g5 1).trans rfl
  have rf1 := blk_free g5 1
  have r2 := (blk_cell g5 2).trans rfl
  have rf2 := blk_free g5 2
  have r3 := (blk_cell g5 3).trans rfl
  have rf3 := blk_free g5 3
  have r4 := (blk_cell g5 4).trans rfl
  have rf4 := blk_free g5 4
  have r5 := (blk_cell g5 5).trans rfl
  have rf5 := blk_free g5 5
  go_wp2_with fail
  obtain ⟨wz, hwz, Yz, Sz⟩ := set6 g5 rfl (.slice (some ⟨B, 0, none⟩) x.n0 f1) (.slice x.a1 x.n1 x.c1) (.slice x.a2 x.n2 x.c2) (.int .i64 x.s.most) (.int .i64 x.s.run) (.int .i64 x.s.total)
  rw [← hwz]
  clear hwz c0 c1 c2 c3 c4 c5 r0 r1 r2 r3 r4 r5 rf0 rf1 rf2 rf3 rf4 rf5
  have z0 := (blk_cell Yz 0).trans rfl
  have z1 := (blk_cell Yz 1).trans rfl
  have z2 := (blk_cell Yz 2).trans rfl
  have z3 := (blk_cell Yz 3).trans rfl
  have z4 := (blk_cell Yz 4).trans rfl
  have z5 := (blk_cell Yz 5).trans rfl
  have N3 := hn0.then hn3
  have N4 : New w w4 := N3.trans S4 (fun j hj h => by omega)
  have N5 : New w w5 := N4.trans S5 (fun j hj e => by omega)
  have N9 : New w wz := N5.trans Sz (fun j hj e => by omega)
  have ho9 := ho5.keep Sz (fun j hj e => by have := (ho5.at_ hj).1; omega)
  refine bodyPost_ret (v := .agg #[.slice (some ⟨B, 0, none⟩) x.n0 f1, .slice x.a1 x.n1 x.c1, .slice x.a2 x.n2 x.c2, .int .i64 x.s.most, .int .i64 x.s.run, .int .i64 x.s.total]) (by simp [results, Try.results47, go_sem, z0, z1, z2, z3, z4, z5]) rfl ?_
  refine ⟨⟨{ x.s with L := setK x.s.L z }, some ⟨B, 0, none⟩, x.n0, f1, x.a1, x.n1, x.c1, x.a2, x.n2, x.c2⟩, rfl, ⟨?_, h.r1.new N9, h.r2.new N9, ?_, h.t1.new N9, h.t2.new N9⟩, rfl, N9⟩
  · show Rd wz 5 _ x.n0 f1 (kns (setK x.s.L z))
    rw [← HS.out]
    exact ho9.rd
  · intro j hj
    have h9 := ho9.at_ hj
    exact ⟨fun ht => by have := hT j ht; omega, h9.2⟩
end Go.Proofs.Ytmonhhodbinagaa
