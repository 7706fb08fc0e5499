/- The document's pacer: what is known of a key; a key is known. -/
import Derived.Test.YtmonhhodbinagaaK31
import Derived.Test.YtmonhhodbinagaaK10
namespace Go.Proofs.Ytmonhhodbinagaa
open Go.RowKit Go.Maps
set_option maxRecDepth 100000

theorem info_5 : (Try.prog.info? 59).map (fun i => (i.zero, i.size, i.bytes)) = some (some (.agg #[.int .i64 0, .int .i64 0, .int .i64 0, .int .i64 0, .int .i64 0]), 5, 40) := by kernel_rfl
theorem info_d : (Try.prog.info? 49).map (fun i => (i.zero, i.size, i.bytes)) = some (some (.agg #[.int .i64 0, .int .i64 0]), 2, 16) := by kernel_rfl
section
variable {ops : Array Oper} {rest : List Oper} {o : Oper} {a : Act} {Q : Exit → Act → World → Prop} {w : World}
theorem app_5 (hgd : o.guard = none) (s x : Operand) (ho : o.op = .call { callee := .builtin .append, args := #[s, x], argTypes := #[43, 43] })
    (base : Nat) {A B : Option Addr} {n c m d : Nat} {xs ys : List Value} (hs : a.eval s = .slice A n c) (hx : a.eval x = .slice B m d) (hown : Own w base 59 5 A n c xs) (hr : Rd w 5 B m d ys) (hbytes : (n + m) * 40 ≤ 140737488355328) (hbase : base ≤ w.heap.size)
    (h : ∀ A' c' w', Own w' base 59 5 A' (n + m) c' (xs ++ ys) → Ext (inA A) w w' → (A' = A ∨ A' = some ⟨w.heap.size, 0, none⟩) → wpList Try.prog ops Q rest (a.put o.dst (.slice A' (n + m) c')) w') :
    wpList Try.prog ops Q (o :: rest) a w :=
  wpList_app hgd s x _ ho base 59 (.agg #[.int .i64 0, .int .i64 0, .int .i64 0, .int .i64 0, .int .i64 0]) 5 40 Try.underlying43 info_5 rfl (by decide) (by decide) hs hx hown hr hbytes hbase h
theorem app_d (hgd : o.guard = none) (s x : Operand) (ho : o.op = .call { callee := .builtin .append, args := #[s, x], argTypes := #[44, 44] })
    (base : Nat) {A B : Option Addr} {n c m d : Nat} {xs ys : List Value} (hs : a.eval s = .slice A n c) (hx : a.eval x = .slice B m d) (hown : Own w base 49 2 A n c xs) (hr : Rd w 2 B m d ys) (hbytes : (n + m) * 16 ≤ 140737488355328) (hbase : base ≤ w.heap.size)
    (h : ∀ A' c' w', Own w' base 49 2 A' (n + m) c' (xs ++ ys) → Ext (inA A) w w' → (A' = A ∨ A' = some ⟨w.heap.size, 0, none⟩) → wpList Try.prog ops Q rest (a.put o.dst (.slice A' (n + m) c')) w') :
    wpList Try.prog ops Q (o :: rest) a w :=
  wpList_app hgd s x _ ho base 49 (.agg #[.int .i64 0, .int .i64 0]) 2 16 Try.underlying44 info_d rfl (by decide) (by decide) hs hx hown hr hbytes hbase h
end
theorem threeNew (w : World) (a b c : Array Value) (s t u : TypeId) : ∃ w0, w0 = ((w.alloc (.cells a s)).alloc (.cells b t)).alloc (.cells c u) ∧ w0.heap[w.heap.size]? = some (.cells a s) ∧ w0.heap[w.heap.size + 1]? = some (.cells b t) ∧ w0.heap[w.heap.size + 2]? = some (.cells c u) ∧ New w w0 ∧ w0.heap.size = w.heap.size + 3 := by
  refine ⟨_, rfl, blk_alloc (blk_alloc (blk_new w _) _) _, ?_, ?_, by (repeat (first | exact Ext.refl _ _ | assumption | apply Ext.alloc | apply Ext.drewN | apply Ext.drew | refine Ext.setCell ?_ (fun h => by first | rfl | exact absurd h (by dsimp only; omega)) _)), by simp⟩
  · have := blk_new (w.alloc (Obj.cells a s)) (Obj.cells b t)
    rw [World.size_alloc] at this
    exact blk_alloc this _
  · have := blk_new ((w.alloc (Obj.cells a s)).alloc (Obj.cells b t)) (Obj.cells c u)
    rwa [World.size_alloc, World.size_alloc] at this
theorem set2 {w : World} {X : Nat} {cs : Array Value} {t : TypeId} (h : w.heap[X]? = some (.cells cs t)) (hc : cs.size = 2) (a0 a1 : Value) :
    ∃ w', w' = ((w.setCell ⟨X, 0, none⟩ a0).setCell ⟨X, 1, none⟩ a1) ∧ w'.heap[X]? = some (.cells #[a0, a1] t) ∧ Ext (fun j => j = X) w w' := by
  refine ⟨_, rfl, ?_, ?_⟩
  · have h0 := blk_set h 0 a0
    have h1 := blk_set h0 1 a1
    rw [h1]
    clear h0 h1
    obtain ⟨cs⟩ := cs
    match cs, hc with
    | [_, _], _ => rfl
  · exact ((((Ext.refl _ w)).set (by rfl)).set (by rfl))
theorem set5 {w : World} {X : Nat} {cs : Array Value} {t : TypeId} (h : w.heap[X]? = some (.cells cs t)) (hc : cs.size = 5) (a0 a1 a2 a3 a4 : Value) :
    ∃ w', w' = (((((w.setCell ⟨X, 0, none⟩ a0).setCell ⟨X, 1, none⟩ a1).setCell ⟨X, 2, none⟩ a2).setCell ⟨X, 3, none⟩ a3).setCell ⟨X, 4, none⟩ a4) ∧ w'.heap[X]? = some (.cells #[a0, a1, a2, a3, a4] t) ∧ Ext (fun j => j = X) w w' := by
  refine ⟨_, rfl, ?_, ?_⟩
  · have h0 := blk_set h 0 a0
    have h1 := blk_set h0 1 a1
    have h2 := blk_set h1 2 a2
    have h3 := blk_set h2 3 a3
    have h4 := blk_set h3 4 a4
    rw [h4]
    clear h0 h1 h2 h3 h4
    obtain ⟨cs⟩ := cs
    match cs, hc with
    | [_, _, _, _, _], _ => rfl
  · exact (((((((Ext.refl _ w)).set (by rfl)).set (by rfl)).set (by rfl)).set (by rfl)).set (by rfl))
theorem set6 {w : World} {X : Nat} {cs : Array Value} {t : TypeId} (h : w.heap[X]? = some (.cells cs t)) (hc : cs.size = 6) (a0 a1 a2 a3 a4 a5 : Value) :
    ∃ w', w' = ((((((w.setCell ⟨X, 0, none⟩ a0).setCell ⟨X, 1, none⟩ a1).setCell ⟨X, 2, none⟩ a2).setCell ⟨X, 3, none⟩ a3).setCell ⟨X, 4, none⟩ a4).setCell ⟨X, 5, none⟩ a5) ∧ w'.heap[X]? = some (.cells #[a0, a1, a2, a3, a4, a5] t) ∧ Ext (fun j => j = X) w w' := by
  refine ⟨_, rfl, ?_, ?_⟩
  · have h0 := blk_set h 0 a0
    have h1 := blk_set h0 1 a1
    have h2 := blk_set h1 2 a2
    have h3 := blk_set h2 3 a3
    have h4 := blk_set h3 4 a4
    have h5 := blk_set h4 5 a5
    rw [h5]
    clear h0 h1 h2 h3 h4 h5
    obtain ⟨cs⟩ := cs
    match cs, hc with
    | [_, _, _, _, _, _], _ => rfl
  · exact ((((((((Ext.refl _ w)).set (by rfl)).set (by rfl)).set (by rfl)).set (by rfl)).set (by rfl)).set (by rfl))

abbrev zP : Array Value := #[.slice none 0 0, .slice none 0 0, .slice none 0 0, .int .i64 0, .int .i64 0, .int .i64 0]
abbrev kn5 (x : Kn) : Array Value := #[.int .i64 x.k.1, .int .i64 x.k.2, .int .i64 x.cls, .int .i64 x.pend, .int .i64 x.iss]
theorem fnd_ofK {L : List Kn} {k : Int × Int} {x : Kn} (h : fnd L k = some x) : ofK L k = x := by simp [ofK, h]
set_option maxHeartbeats 1600000 in
theorem of_d (x : DA) (k : Int × Int) (T : Nat → Prop) (w : World) (h : x.ok T w) (hs : x.n0 ≤ 1000) (hnd : (x.s.L.map Kn.k).Nodup) (y : Kn) (hy : ofK x.s.L k = y) :
    Calls Try.prog 21 #[x.v, kV k] w fun e w' => e = .returned (.agg (kn5 y)) ∧ New w w' := by
  obtain ⟨w0, hw0, b1, b2, b3, hn0, hz0⟩ := threeNew w x.o #[.int .i64 k.1, .int .i64 k.2] #[.int .i64 0, .int .i64 0, .int .i64 0, .int .i64 0, .int .i64 0] 46 49 59
  have HY := hide hy
  clear hy
  go_enter Try.func21, Try.ntmps21
  go_upto_region 1 with (fail)
  rw [← hw0]
  clear hw0
  have h0 := h.new hn0
  have c0 := (blk_cell b1 0).trans rfl
  have c1 := (blk_cell b1 1).trans rfl
  have c2 := (blk_cell b1 2).trans rfl
  have c3 := (blk_cell b1 3).trans rfl
  have c4 := (blk_cell b1 4).trans rfl
  have c5 := (blk_cell b1 5).trans rfl
  have k0 := (blk_cell b2 0).trans rfl
  have k1 := (blk_cell b2 1).trans rfl
  go_wp2_with fail
  cases hf : fnd x.s.L k with
  | none =>
    have hyz : y = ⟨(0, 0), 0, 0, 0⟩ := by rw [← HY.out]; simp [ofK, hf]
    refine (find_d x k (-1) _ h0.r0 hs (Pos.no hf)).mono ?_
    rintro e w1 ⟨rfl, hn1⟩
    have g := hn1.keep b3
    clear c0 c1 c2 c3 c4 c5 k0 k1 hf
    have r0 := (blk_cell g 0).trans rfl
    have rf0 := blk_free g 0
    have r1 := (blk_cell g 1).trans rfl
    have rf1 := blk_free g 1
    have r2 := (blk_cell g 2).trans rfl
    have rf2 := blk_free g 2
    have r3 := (blk_cell g 3).trans rfl
    have rf3 := blk_free g 3
    have r4 := (blk_cell g 4).trans rfl
    have rf4 := blk_free g 4
    go_wp2_with fail
    obtain ⟨wz, hwz, Yz, Sz⟩ := set5 g rfl (.int .i64 0) (.int .i64 0) (.int .i64 0) (.int .i64 0) (.int .i64 0)
    rw [← hwz]
    clear hwz r0 r1 r2 r3 r4 rf0 rf1 rf2 rf3 rf4
    have z0 := (blk_cell Yz 0).trans rfl
    have z1 := (blk_cell Yz 1).trans rfl
    have z2 := (blk_cell Yz 2).trans rfl
    have z3 := (blk_cell Yz 3).trans rfl
    have z4 := (blk_cell Yz 4).trans rfl
    refine bodyPost_ret (v := .agg (kn5 ⟨(0, 0), 0, 0, 0⟩)) (by simp [results, Try.results21, go_sem, z0, z1, z2, z3, z4]) rfl ⟨by rw [hyz], (hn0.then hn1).trans Sz (fun j hj e => by omega)⟩
  | some z =>
    obtain ⟨hzm, hzk⟩ := fnd_mem hf
    have hyz : z = y := by rw [← HY.out]; simp [ofK, hf]
    subst hyz
    obtain ⟨i, hp, hi, hil⟩ := Pos.yes hnd hzm
    rw [hzk] at hp
    have hil2 : i < x.n0 := by have := h.l0; omega
    have d1 : decide ((i : Int) < 0) = false := decide_eq_false (by omega)
    refine (find_d x k i _ h0.r0 hs hp).mono ?_
    rintro e w1 ⟨rfl, hn1⟩
    have g := hn1.keep b3
    have p := hn1.keep b1
    clear c0 c1 c2 c3 c4 c5 k0 k1 hf
    have d2 : decide (i < x.n0) = true := decide_eq_true hil2
    obtain ⟨ad, hA⟩ := h0.r0.some (by omega)
    have hr := h0.r0.new hn1
    rw [hA] at hr
    obtain ⟨t0, t1, t2, t3, t4⟩ := hr.cell5 hi
    have c0 : w1.cell? ⟨w.heap.size, 0, none⟩ = some (.slice (some ad) x.n0 x.c0) := by rw [← hA]; exact (blk_cell p 0).trans rfl
    have HI := hide hi
    clear hi hzm hzk hp
    have r0 := (blk_cell g 0).trans rfl
    have rf0 := blk_free g 0
    have r1 := (blk_cell g 1).trans rfl
    have rf1 := blk_free g 1
    have r2 := (blk_cell g 2).trans rfl
    have rf2 := blk_free g 2
    have r3 := (blk_cell g 3).trans rfl
    have rf3 := blk_free g 3
    have r4 := (blk_cell g 4).trans rfl
    have rf4 := blk_free g 4
    go_wp2_with fail
    obtain ⟨wz, hwz, Yz, Sz⟩ := set5 g rfl (.int .i64 z.k.1) (.int .i64 z.k.2) (.int .i64 z.cls) (.int .i64 z.pend) (.int .i64 z.iss)
    rw [← hwz]
    clear hwz r0 r1 r2 r3 r4 rf0 rf1 rf2 rf3 rf4
    have z0 := (blk_cell Yz 0).trans rfl
    have z1 := (blk_cell Yz 1).trans rfl
    have z2 := (blk_cell Yz 2).trans rfl
    have z3 := (blk_cell Yz 3).trans rfl
    have z4 := (blk_cell Yz 4).trans rfl
    refine bodyPost_ret (v := .agg (kn5 z)) (by simp [results, Try.results21, go_sem, z0, z1, z2, z3, z4]) rfl ⟨rfl, (hn0.then hn1).trans Sz (fun j hj e => by omega)⟩
end Go.Proofs.Ytmonhhodbinagaa
