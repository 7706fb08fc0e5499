/- Walks: one call, of both. -/
import Derived.Test.YtafeeafccbdkfaaQ15
namespace Go.Proofs.Ytafeeafccbdkfaa
open Go.RowKit
set_option maxRecDepth 100000

/-- What a step leaves. -/
def Stp (w : World) (p : Nat) (A B : Option Addr) (room : Nat) (e : Ending) (w' : World) : Prop :=
  ∃ A' n' c' xs' B' d', e = .returned (.tuple #[.agg #[.slice B' n' d', .int .i64 room], .bool true]) ∧ Rngi w' p A' n' c' xs' room ∧ Rd w' 1 B' n' d' (vsi xs') ∧ (∀ k, inA B' k → k < w'.heap.size ∧ ¬ Tch p A' k ∧ (inA B k ∨ w.heap.size ≤ k)) ∧ Ext (Tch p A) w w' ∧ Frs w A A'

theorem Rd.keep' {S : Nat → Prop} {w w' : World} {sz n c : Nat} {A : Option Addr} {xs : List Value} (h : Rd w sz A n c xs) (he : Ext S w w') (hs : n = 0 ∨ ∀ k, inA A k → ¬ S k) : Rd w' sz A n c xs := by
  rcases hs with hs | hs
  · refine ⟨h.len, h.cap, h.top, h.none_, h.one, fun ad e j u hu => ?_⟩
    have := (List.getElem?_eq_some_iff.1 hu).1
    rw [h.len, hs, Nat.zero_mul] at this
    omega
  · exact h.keep he hs
theorem three_new (w : World) (a b c : Array Value) (s t u : TypeId) : ∃ w0, w0 = ((w.alloc (.cells a s)).alloc (.cells b t)).alloc (.cells c u) ∧ w0.heap[w.heap.size]? = some (.cells a s) ∧ w0.heap[w.heap.size + 1]? = some (.cells b t) ∧ w0.heap[w.heap.size + 1 + 1]? = some (.cells c u) ∧ New w w0 ∧ w0.heap.size = w.heap.size + 3 := by
  refine ⟨_, rfl, blk_alloc (blk_alloc (blk_new w _) _) _, ?_, ?_, by (repeat (first | exact Ext.refl _ _ | assumption | apply Ext.alloc | apply Ext.drewN | apply Ext.drew | refine Ext.setCell ?_ (fun h => by first | rfl | exact absurd h (by dsimp only; omega)) _)), by simp⟩
  · have := blk_new (w.alloc (Obj.cells a s)) (Obj.cells b t)
    rw [World.size_alloc] at this
    exact blk_alloc this _
  · have := blk_new ((w.alloc (Obj.cells a s)).alloc (Obj.cells b t)) (Obj.cells c u)
    rwa [World.size_alloc, World.size_alloc] at this
/-- The step's own blocks lie beyond the ring's. -/
structure Stq (w : World) (p : Nat) (A : Option Addr) : Prop where
  t0 : ¬ Tch p A w.heap.size
  t1 : ¬ Tch p A (w.heap.size + 1)
  t2 : ¬ Tch p A (w.heap.size + 1 + 1)
theorem Stq.of {w : World} {p n c room : Nat} {A : Option Addr} {xs : List Int} (h : Rngi w p A n c xs room) : Stq w p A := by
  have h1 := h.lt
  have h2 : ∀ k, inA A k → k < w.heap.size := fun k hk => (h.own.at_ hk).2
  refine ⟨fun e => ?_, fun e => ?_, fun e => ?_⟩ <;> (
    rcases e with e | e
    · omega
    · have := h2 _ e
      omega)

theorem Stp.fin {w w3 Wf : World} {p room n' c' d' r : Nat} {A B A' B' : Option Addr} {xs' : List Int} (hr : Rngi w3 p A' n' c' xs' room) (hB : Rd w3 1 B' n' d' (vsi xs')) (hBs : ∀ k, inA B' k → k < w3.heap.size ∧ ¬ Tch p A' k ∧ k ≠ r ∧ (inA B k ∨ w.heap.size ≤ k))
    (he : Ext (fun k => Tch p A k ∨ w.heap.size ≤ k) w w3) (hf : ∀ k, inA A' k → inA A k ∨ w.heap.size + 3 ≤ k) (hA : ∀ k, inA A k → k < w.heap.size) (hp : p < w.heap.size) (hrr : r = w.heap.size + 1 + 1) (hW : Ext (fun k => k = r) w3 Wf) :
    Stp w p A B room (.returned (.tuple #[.agg #[.slice B' n' d', .int .i64 room], .bool true])) Wf := by
  have hA' : ∀ k, inA A' k → k ≠ r := fun k hk e => by
    rcases hf k hk with h | h
    · have := hA k h; omega
    · omega
  refine ⟨A', n', c', xs', B', d', rfl, hr.keep hW (by omega) hA', hB.keep hW (fun k hk => (hBs k hk).2.2.1), fun k hk => ⟨Nat.lt_of_lt_of_le (hBs k hk).1 hW.size, (hBs k hk).2.1, (hBs k hk).2.2.2⟩, ?_, ?_⟩
  · exact (he.trans hW (fun k _ e => .inr (by omega))).mono (fun k hk h => by
      rcases h with h | h
      · exact h
      · omega)
  · intro k hk
    rcases hf k hk with h | h
    · exact .inl h
    · exact .inr (by omega)

set_option maxHeartbeats 2000000 in
theorem step_push (p : Nat) (A : Option Addr) (n c : Nat) (xs : List Int) (room : Nat) (B : Option Addr) (d : Nat) (k : Int) (OA : Option Addr) (on oc : Nat) (ol : List Int) (t : Int) (w : World)
    (h : Rngi w p A n c xs room) (hB : Rd w 1 B n d (vsi xs)) (hs : ∀ k, inA B k → k < w.heap.size ∧ ¬ Tch p A k) (ho : Rd w 1 OA on oc (vsi ol)) (hos : on = 0 ∨ ∀ k, inA OA k → ¬ Tch p A k) (ht : (Lit.int .i64 t).wf = true)
    (k1 : ((k.tmod 10) == 4) = false) (k2 : ((k.tmod 10) == 5) = false) (k3 : ((k.tmod 10) == 6) = false) (k4 : ((k.tmod 10) == 7) = false) (k5 : ((k.tmod 10) == 8) = false) (k6 : ((k.tmod 10) == 9) = false) :
    Calls Try.prog 21 #[.pointer (some ⟨p, 0, none⟩), .agg #[.slice B n d, .int .i64 room], .agg #[.int .u8 k, .slice OA on oc, .int .i64 t]] w fun e w' => Stp w p A B room e w' := by
  obtain ⟨s, hs20⟩ : ∃ s, s = min on 20 := ⟨_, rfl⟩
  have hkn : s ≤ on := by omega
  have hk20 : s ≤ 20 := by omega
  have HK := hide hs20
  clear hs20
  have hr2 := h.r2
  have hle := h.le
  obtain ⟨w0, hw0, hb0, hb1, hb2, hn0, hs0⟩ := three_new w #[.slice B n d, .int .i64 room] #[.int .u8 k, .slice OA on oc, .int .i64 t] #[.slice none 0 0, .int .i64 0] 31 56 31
  go_enter Try.func21, Try.ntmps21
  go_wp2_with fail
  refine (short_any OA on oc s _ ho.cap HK.out).mono ?_
  rintro e w1 ⟨rfl, rfl⟩
  go_wp2_with fail
  rw [← hw0]
  have HW := hide hw0
  clear hw0
  have hring0 := h.new hn0
  have hB0 := hB.new hn0
  have ho0 := (ho.takei s hkn).new hn0
  by_cases hroom : n + s ≤ room
  · refine (push_i p A n c xs room OA s oc (ol.take s) _ hring0 ho0 hroom).mono ?_
    rintro e w2 ⟨A2, c2, rfl, hr2', he2, hf2⟩
    have q0 := Stq.of h
    have hbb0 := he2.keep hb0 q0.t0
    have hbb2 := he2.keep hb2 q0.t2
    have c0 : w2.cell? ⟨w.heap.size, 0, none⟩ = some (.slice B n d) := (blk_cell hbb0 0).trans rfl
    have c1 : w2.cell? ⟨w.heap.size, 1, none⟩ = some (.int .i64 room) := (blk_cell hbb0 1).trans rfl
    go_wp2_with fail
    refine (rpush_yes B n d xs room OA s oc (ol.take s) _ (hB0.keep he2 (fun k hk => (hs k hk).2)) (ho0.keep' he2 (hos.imp (fun e => by omega) id)) (by omega) hroom).mono ?_
    rintro e w3 ⟨B3, d3, rfl, ho3, hn3⟩
    have hn4 := hn3.then (New.alloc1 w3 (.cells #[.slice B3 (n + s) d3, .int .i64 room] 31))
    have hb4 := hn4.keep hbb2
    have x0 := blk_cell hb4 0
    have x1 := blk_cell hb4 1
    have f0 := blk_free hb4 0
    have f1 := blk_free hb4 1
    clear c0 c1
    go_wp2_with fail
    have d0 := (blk_cell (blk_set (blk_set hb4 0 (.slice B3 (n + s) d3)) 1 (.int .i64 room)) 0).trans rfl
    have d1 := (blk_cell (blk_set (blk_set hb4 0 (.slice B3 (n + s) d3)) 1 (.int .i64 room)) 1).trans rfl
    refine bodyPost_ret (v := .tuple #[.agg #[.slice B3 (n + s) d3, .int .i64 room], .bool true]) (by simp [results, Try.results21, go_sem, d0, d1]) rfl ?_
    have hrf := hr2'.new hn3
    refine Stp.fin (w3 := w3) hrf ho3.rd (fun k hk => ?_) ((hn0.to.trans (he2.mono (fun k _ hk => .inl hk)) (fun _ _ h => h)).trans hn3.to (fun _ _ h => h)) (fun k hk => by rw [← hs0]; exact hf2 k hk) (fun k hk => (h.own.at_ hk).2) h.lt rfl ((((Ext.refl _ w3).alloc _).set (by rfl)).set (by rfl))
    have h1 := (ho3.at_ hk)
    have h2 := he2.size
    refine ⟨h1.2, fun ht => ?_, by omega, .inr (by omega)⟩
    rcases ht with e | e
    · have := hr2'.lt; omega
    · have := (hr2'.own.at_ e).2; omega
  · refine (push_no_i p A n c xs room OA s oc _ hring0 hroom (by have := ho.cap; have := ho.top; omega)).mono ?_
    rintro e w2 ⟨rfl, nd, hw2⟩
    have he2 : Ext (Tch p A) w0 w2 := by rw [hw2]; exact (new_draw w0 nd).to
    have hr2' := hring0.new (show New w0 w2 by rw [hw2]; exact new_draw w0 nd)
    clear hw2
    have q0 := Stq.of h
    have hbb0 := he2.keep hb0 q0.t0
    have hbb1 := he2.keep hb1 q0.t1
    have hbb2 := he2.keep hb2 q0.t2
    have c0 : w2.cell? ⟨w.heap.size, 0, none⟩ = some (.slice B n d) := (blk_cell hbb0 0).trans rfl
    have c1 : w2.cell? ⟨w.heap.size, 1, none⟩ = some (.int .i64 room) := (blk_cell hbb0 1).trans rfl
    have b2 : w2.cell? ⟨w.heap.size + 1, 2, none⟩ = some (.int .i64 t) := (blk_cell hbb1 2).trans rfl
    go_wp2_with fail
    refine (rpush_no B n d room OA s oc _ hle (by omega) (by have := ho.cap; have := ho.top; omega) hroom).mono ?_
    rintro e w3 ⟨rfl, hn3⟩
    have hn4 := hn3.then (New.alloc1 w3 (.cells #[.slice B n d, .int .i64 room] 31))
    have hb4 := hn4.keep hbb2
    have x0 := blk_cell hb4 0
    have x1 := blk_cell hb4 1
    have f0 := blk_free hb4 0
    have f1 := blk_free hb4 1
    clear c0 c1
    go_wp2_with fail
    have d0 := (blk_cell (blk_set (blk_set hb4 0 (.slice B n d)) 1 (.int .i64 room)) 0).trans rfl
    have d1 := (blk_cell (blk_set (blk_set hb4 0 (.slice B n d)) 1 (.int .i64 room)) 1).trans rfl
    refine bodyPost_ret (v := .tuple #[.agg #[.slice B n d, .int .i64 room], .bool true]) (by simp [results, Try.results21, go_sem, d0, d1]) rfl ?_
    have hrf := hr2'.new hn3
    refine Stp.fin (w3 := w3) hrf ((hB0.keep he2 (fun k hk => (hs k hk).2)).new hn3) (fun k hk => ?_) ((hn0.to.trans (he2.mono (fun k _ hk => .inl hk)) (fun _ _ h => h)).trans hn3.to (fun _ _ h => h)) (fun k hk => ?_) (fun k hk => (h.own.at_ hk).2) h.lt rfl ((((Ext.refl _ w3).alloc _).set (by rfl)).set (by rfl))
    · have h1 := hs k hk
      have h2 := he2.size
      have h3 := hn3.size
      refine ⟨by omega, h1.2, by omega, .inl hk⟩
    · exact .inl hk

set_option maxHeartbeats 2000000 in
theorem step_pop4 (p : Nat) (A : Option Addr) (n c : Nat) (xs : List Int) (room : Nat) (B : Option Addr) (d : Nat) (k : Int) (OA : Option Addr) (on oc : Nat) (ol : List Int) (t : Int) (w : World)
    (h : Rngi w p A n c xs room) (hB : Rd w 1 B n d (vsi xs)) (hs : ∀ k, inA B k → k < w.heap.size ∧ ¬ Tch p A k) (ho : Rd w 1 OA on oc (vsi ol)) (hos : on = 0 ∨ ∀ k, inA OA k → ¬ Tch p A k) (ht : (Lit.int .i64 t).wf = true)
    (k1 : ((k.tmod 10) == 4) = true) :
    Calls Try.prog 21 #[.pointer (some ⟨p, 0, none⟩), .agg #[.slice B n d, .int .i64 room], .agg #[.int .u8 k, .slice OA on oc, .int .i64 t]] w fun e w' => Stp w p A B room e w' := by
  obtain ⟨s, hs20⟩ : ∃ s, s = min on 20 := ⟨_, rfl⟩
  have hkn : s ≤ on := by omega
  have hk20 : s ≤ 20 := by omega
  have HK := hide hs20
  clear hs20
  have hr2 := h.r2
  have hle := h.le
  obtain ⟨w0, hw0, hb0, hb1, hb2, hn0, hs0⟩ := three_new w #[.slice B n d, .int .i64 room] #[.int .u8 k, .slice OA on oc, .int .i64 t] #[.slice none 0 0, .int .i64 0] 31 56 31
  go_enter Try.func21, Try.ntmps21
  go_wp2_with fail
  refine (short_any OA on oc s _ ho.cap HK.out).mono ?_
  rintro e w1 ⟨rfl, rfl⟩
  go_wp2_with fail
  rw [← hw0]
  have HW := hide hw0
  clear hw0
  have hring0 := h.new hn0
  have hB0 := hB.new hn0
  have q0 := Stq.of h
  rcases xs with _ | ⟨x, xs⟩
  · obtain rfl : n = 0 := by have := h.len; simpa using this.symm
    refine (pop_no_i p A c room _ hring0).mono ?_
    rintro e w2 ⟨rfl, hw2⟩
    have he2 : Ext (Tch p A) w0 w2 := by rw [hw2]; exact Ext.refl _ _
    have hr2' := hring0.new (show New w0 w2 by rw [hw2]; exact Ext.refl _ _)
    clear hw2
    have hbb0 := he2.keep hb0 q0.t0
    have hbb1 := he2.keep hb1 q0.t1
    have hbb2 := he2.keep hb2 q0.t2
    have c0 : w2.cell? ⟨w.heap.size, 0, none⟩ = some (.slice B 0 d) := (blk_cell hbb0 0).trans rfl
    have c1 : w2.cell? ⟨w.heap.size, 1, none⟩ = some (.int .i64 room) := (blk_cell hbb0 1).trans rfl
    have b2 : w2.cell? ⟨w.heap.size + 1, 2, none⟩ = some (.int .i64 t) := (blk_cell hbb1 2).trans rfl
    go_wp2_with fail
    refine (rpop_no B d room _).mono ?_
    rintro e w3 ⟨rfl, hn3⟩
    have hn4 := hn3.then (New.alloc1 w3 (.cells #[.slice B 0 d, .int .i64 room] 31))
    have hb4 := hn4.keep hbb2
    have x0 := blk_cell hb4 0
    have x1 := blk_cell hb4 1
    have f0 := blk_free hb4 0
    have f1 := blk_free hb4 1
    clear c0 c1
    go_wp2_with fail
    have d0 := (blk_cell (blk_set (blk_set hb4 0 (.slice B 0 d)) 1 (.int .i64 room)) 0).trans rfl
    have d1 := (blk_cell (blk_set (blk_set hb4 0 (.slice B 0 d)) 1 (.int .i64 room)) 1).trans rfl
    refine bodyPost_ret (v := .tuple #[.agg #[.slice B 0 d, .int .i64 room], .bool true]) (by simp [results, Try.results21, go_sem, d0, d1]) rfl ?_
    have hrf := hr2'.new hn3
    refine Stp.fin (w3 := w3) hrf ((hB0.keep he2 (fun k hk => (hs k hk).2)).new hn3) (fun k hk => ?_) ((hn0.to.trans (he2.mono (fun k _ hk => .inl hk)) (fun _ _ h => h)).trans hn3.to (fun _ _ h => h)) (fun k hk => ?_) (fun k hk => (h.own.at_ hk).2) h.lt rfl ((((Ext.refl _ w3).alloc _).set (by rfl)).set (by rfl))
    · have h1 := hs k hk
      have h2 := he2.size
      have h3 := hn3.size
      refine ⟨by omega, h1.2, by omega, .inl hk⟩
    · exact .inl hk
  · refine (pop_i p A n c x xs room _ hring0).mono ?_
    rintro e w2 ⟨A2, c2, rfl, hr2', he2, hf2⟩
    have hbb0 := he2.keep hb0 q0.t0
    have hbb1 := he2.keep hb1 q0.t1
    have hbb2 := he2.keep hb2 q0.t2
    have c0 : w2.cell? ⟨w.heap.size, 0, none⟩ = some (.slice B n d) := (blk_cell hbb0 0).trans rfl
    have c1 : w2.cell? ⟨w.heap.size, 1, none⟩ = some (.int .i64 room) := (blk_cell hbb0 1).trans rfl
    have b2 : w2.cell? ⟨w.heap.size + 1, 2, none⟩ = some (.int .i64 t) := (blk_cell hbb1 2).trans rfl
    go_wp2_with fail
    have hB2 := hB0.keep he2 (fun k hk => (hs k hk).2)
    refine (rpop_yes B n d x xs room _ hB2).mono ?_
    rintro e w3 ⟨rfl, hn3⟩
    have hn4 := hn3.then (New.alloc1 w3 (.cells #[.slice (sl B d 1 1) (n - 1) (d - 1), .int .i64 room] 31))
    have hb4 := hn4.keep hbb2
    have x0 := blk_cell hb4 0
    have x1 := blk_cell hb4 1
    have f0 := blk_free hb4 0
    have f1 := blk_free hb4 1
    clear c0 c1
    go_wp2_with fail
    have d0 := (blk_cell (blk_set (blk_set hb4 0 (.slice (sl B d 1 1) (n - 1) (d - 1))) 1 (.int .i64 room)) 0).trans rfl
    have d1 := (blk_cell (blk_set (blk_set hb4 0 (.slice (sl B d 1 1) (n - 1) (d - 1))) 1 (.int .i64 room)) 1).trans rfl
    refine bodyPost_ret (v := .tuple #[.agg #[.slice (sl B d 1 1) (n - 1) (d - 1), .int .i64 room], .bool true]) (by simp [results, Try.results21, go_sem, d0, d1]) rfl ?_
    have hrf := hr2'.new hn3
    have hd1 := hB2.dropi 1 (by have := h.len; simp at this; omega)
    refine Stp.fin (w3 := w3) hrf (hd1.new hn3) (fun k hk => ?_) ((hn0.to.trans (he2.mono (fun k _ hk => .inl hk)) (fun _ _ h => h)).trans hn3.to (fun _ _ h => h)) (fun k hk => by rw [← hs0]; exact hf2 k hk) (fun k hk => (h.own.at_ hk).2) h.lt rfl ((((Ext.refl _ w3).alloc _).set (by rfl)).set (by rfl))
    have h1 := hs k (sl_in hk)
    have h2 := he2.size
    have h3 := hn3.size
    have h4 := hn0.size
    refine ⟨by omega, fun hk2 => ?_, by omega, .inl (sl_in hk)⟩
    rcases hk2 with e | e
    · exact h1.2 (.inl e)
    · rcases hf2 k e with e2 | e2
      · exact h1.2 (.inr e2)
      · omega

set_option maxHeartbeats 2000000 in
theorem step_pop5 (p : Nat) (A : Option Addr) (n c : Nat) (xs : List Int) (room : Nat) (B : Option Addr) (d : Nat) (k : Int) (OA : Option Addr) (on oc : Nat) (ol : List Int) (t : Int) (w : World)
    (h : Rngi w p A n c xs room) (hB : Rd w 1 B n d (vsi xs)) (hs : ∀ k, inA B k → k < w.heap.size ∧ ¬ Tch p A k) (ho : Rd w 1 OA on oc (vsi ol)) (hos : on = 0 ∨ ∀ k, inA OA k → ¬ Tch p A k) (ht : (Lit.int .i64 t).wf = true)
    (k1 : ((k.tmod 10) == 4) = false) (k2 : ((k.tmod 10) == 5) = true) :
    Calls Try.prog 21 #[.pointer (some ⟨p, 0, none⟩), .agg #[.slice B n d, .int .i64 room], .agg #[.int .u8 k, .slice OA on oc, .int .i64 t]] w fun e w' => Stp w p A B room e w' := by
  obtain ⟨s, hs20⟩ : ∃ s, s = min on 20 := ⟨_, rfl⟩
  have hkn : s ≤ on := by omega
  have hk20 : s ≤ 20 := by omega
  have HK := hide hs20
  clear hs20
  have hr2 := h.r2
  have hle := h.le
  obtain ⟨w0, hw0, hb0, hb1, hb2, hn0, hs0⟩ := three_new w #[.slice B n d, .int .i64 room] #[.int .u8 k, .slice OA on oc, .int .i64 t] #[.slice none 0 0, .int .i64 0] 31 56 31
  go_enter Try.func21, Try.ntmps21
  go_wp2_with fail
  refine (short_any OA on oc s _ ho.cap HK.out).mono ?_
  rintro e w1 ⟨rfl, rfl⟩
  go_wp2_with fail
  rw [← hw0]
  have HW := hide hw0
  clear hw0
  have hring0 := h.new hn0
  have hB0 := hB.new hn0
  have q0 := Stq.of h
  rcases xs with _ | ⟨x, xs⟩
  · obtain rfl : n = 0 := by have := h.len; simpa using this.symm
    refine (pop_no_i p A c room _ hring0).mono ?_
    rintro e w2 ⟨rfl, hw2⟩
    have he2 : Ext (Tch p A) w0 w2 := by rw [hw2]; exact Ext.refl _ _
    have hr2' := hring0.new (show New w0 w2 by rw [hw2]; exact Ext.refl _ _)
    clear hw2
    have hbb0 := he2.keep hb0 q0.t0
    have hbb1 := he2.keep hb1 q0.t1
    have hbb2 := he2.keep hb2 q0.t2
    have c0 : w2.cell? ⟨w.heap.size, 0, none⟩ = some (.slice B 0 d) := (blk_cell hbb0 0).trans rfl
    have c1 : w2.cell? ⟨w.heap.size, 1, none⟩ = some (.int .i64 room) := (blk_cell hbb0 1).trans rfl
    have b2 : w2.cell? ⟨w.heap.size + 1, 2, none⟩ = some (.int .i64 t) := (blk_cell hbb1 2).trans rfl
    go_wp2_with fail
    refine (rpop_no B d room _).mono ?_
    rintro e w3 ⟨rfl, hn3⟩
    have hn4 := hn3.then (New.alloc1 w3 (.cells #[.slice B 0 d, .int .i64 room] 31))
    have hb4 := hn4.keep hbb2
    have x0 := blk_cell hb4 0
    have x1 := blk_cell hb4 1
    have f0 := blk_free hb4 0
    have f1 := blk_free hb4 1
    clear c0 c1
    go_wp2_with fail
    have d0 := (blk_cell (blk_set (blk_set hb4 0 (.slice B 0 d)) 1 (.int .i64 room)) 0).trans rfl
    have d1 := (blk_cell (blk_set (blk_set hb4 0 (.slice B 0 d)) 1 (.int .i64 room)) 1).trans rfl
    refine bodyPost_ret (v := .tuple #[.agg #[.slice B 0 d, .int .i64 room], .bool true]) (by simp [results, Try.results21, go_sem, d0, d1]) rfl ?_
    have hrf := hr2'.new hn3
    refine Stp.fin (w3 := w3) hrf ((hB0.keep he2 (fun k hk => (hs k hk).2)).new hn3) (fun k hk => ?_) ((hn0.to.trans (he2.mono (fun k _ hk => .inl hk)) (fun _ _ h => h)).trans hn3.to (fun _ _ h => h)) (fun k hk => ?_) (fun k hk => (h.own.at_ hk).2) h.lt rfl ((((Ext.refl _ w3).alloc _).set (by rfl)).set (by rfl))
    · have h1 := hs k hk
      have h2 := he2.size
      have h3 := hn3.size
      refine ⟨by omega, h1.2, by omega, .inl hk⟩
    · exact .inl hk
  · refine (pop_i p A n c x xs room _ hring0).mono ?_
    rintro e w2 ⟨A2, c2, rfl, hr2', he2, hf2⟩
    have hbb0 := he2.keep hb0 q0.t0
    have hbb1 := he2.keep hb1 q0.t1
    have hbb2 := he2.keep hb2 q0.t2
    have c0 : w2.cell? ⟨w.heap.size, 0, none⟩ = some (.slice B n d) := (blk_cell hbb0 0).trans rfl
    have c1 : w2.cell? ⟨w.heap.size, 1, none⟩ = some (.int .i64 room) := (blk_cell hbb0 1).trans rfl
    have b2 : w2.cell? ⟨w.heap.size + 1, 2, none⟩ = some (.int .i64 t) := (blk_cell hbb1 2).trans rfl
    go_wp2_with fail
    have hB2 := hB0.keep he2 (fun k hk => (hs k hk).2)
    refine (rpop_yes B n d x xs room _ hB2).mono ?_
    rintro e w3 ⟨rfl, hn3⟩
    have hn4 := hn3.then (New.alloc1 w3 (.cells #[.slice (sl B d 1 1) (n - 1) (d - 1), .int .i64 room] 31))
    have hb4 := hn4.keep hbb2
    have x0 := blk_cell hb4 0
    have x1 := blk_cell hb4 1
    have f0 := blk_free hb4 0
    have f1 := blk_free hb4 1
    clear c0 c1
    go_wp2_with fail
    have d0 := (blk_cell (blk_set (blk_set hb4 0 (.slice (sl B d 1 1) (n - 1) (d - 1))) 1 (.int .i64 room)) 0).trans rfl
    have d1 := (blk_cell (blk_set (blk_set hb4 0 (.slice (sl B d 1 1) (n - 1) (d - 1))) 1 (.int .i64 room)) 1).trans rfl
    refine bodyPost_ret (v := .tuple #[.agg #[.slice (sl B d 1 1) (n - 1) (d - 1), .int .i64 room], .bool true]) (by simp [results, Try.results21, go_sem, d0, d1]) rfl ?_
    have hrf := hr2'.new hn3
    have hd1 := hB2.dropi 1 (by have := h.len; simp at this; omega)
    refine Stp.fin (w3 := w3) hrf (hd1.new hn3) (fun k hk => ?_) ((hn0.to.trans (he2.mono (fun k _ hk => .inl hk)) (fun _ _ h => h)).trans hn3.to (fun _ _ h => h)) (fun k hk => by rw [← hs0]; exact hf2 k hk) (fun k hk => (h.own.at_ hk).2) h.lt rfl ((((Ext.refl _ w3).alloc _).set (by rfl)).set (by rfl))
    have h1 := hs k (sl_in hk)
    have h2 := he2.size
    have h3 := hn3.size
    have h4 := hn0.size
    refine ⟨by omega, fun hk2 => ?_, by omega, .inl (sl_in hk)⟩
    rcases hk2 with e | e
    · exact h1.2 (.inl e)
    · rcases hf2 k e with e2 | e2
      · exact h1.2 (.inr e2)
      · omega

set_option maxHeartbeats 2000000 in
theorem step_rot (p : Nat) (A : Option Addr) (n c : Nat) (xs : List Int) (room : Nat) (B : Option Addr) (d : Nat) (k : Int) (OA : Option Addr) (on oc : Nat) (ol : List Int) (t : Int) (w : World)
    (h : Rngi w p A n c xs room) (hB : Rd w 1 B n d (vsi xs)) (hs : ∀ k, inA B k → k < w.heap.size ∧ ¬ Tch p A k) (ho : Rd w 1 OA on oc (vsi ol)) (hos : on = 0 ∨ ∀ k, inA OA k → ¬ Tch p A k) (ht : (Lit.int .i64 t).wf = true)
    (k1 : ((k.tmod 10) == 4) = false) (k2 : ((k.tmod 10) == 5) = false) (k3 : ((k.tmod 10) == 6) = false) (k4 : ((k.tmod 10) == 7) = true) :
    Calls Try.prog 21 #[.pointer (some ⟨p, 0, none⟩), .agg #[.slice B n d, .int .i64 room], .agg #[.int .u8 k, .slice OA on oc, .int .i64 t]] w fun e w' => Stp w p A B room e w' := by
  obtain ⟨s, hs20⟩ : ∃ s, s = min on 20 := ⟨_, rfl⟩
  have hkn : s ≤ on := by omega
  have hk20 : s ≤ 20 := by omega
  have HK := hide hs20
  clear hs20
  have hr2 := h.r2
  have hle := h.le
  obtain ⟨w0, hw0, hb0, hb1, hb2, hn0, hs0⟩ := three_new w #[.slice B n d, .int .i64 room] #[.int .u8 k, .slice OA on oc, .int .i64 t] #[.slice none 0 0, .int .i64 0] 31 56 31
  go_enter Try.func21, Try.ntmps21
  go_wp2_with fail
  refine (short_any OA on oc s _ ho.cap HK.out).mono ?_
  rintro e w1 ⟨rfl, rfl⟩
  go_wp2_with fail
  rw [← hw0]
  have HW := hide hw0
  clear hw0
  have hring0 := h.new hn0
  have hB0 := hB.new hn0
  have q0 := Stq.of h
  by_cases hn0' : n = 0
  · subst hn0'
    refine (rotate_no p A c xs room t _ hring0).mono ?_
    rintro e w2 ⟨rfl, hw2⟩
    have he2 : Ext (Tch p A) w0 w2 := by rw [hw2]; exact Ext.refl _ _
    have hr2' := hring0.new (show New w0 w2 by rw [hw2]; exact Ext.refl _ _)
    clear hw2
    have hbb0 := he2.keep hb0 q0.t0
    have hbb1 := he2.keep hb1 q0.t1
    have hbb2 := he2.keep hb2 q0.t2
    have c0 : w2.cell? ⟨w.heap.size, 0, none⟩ = some (.slice B 0 d) := (blk_cell hbb0 0).trans rfl
    have c1 : w2.cell? ⟨w.heap.size, 1, none⟩ = some (.int .i64 room) := (blk_cell hbb0 1).trans rfl
    have b2 : w2.cell? ⟨w.heap.size + 1, 2, none⟩ = some (.int .i64 t) := (blk_cell hbb1 2).trans rfl
    go_wp2_with fail
    refine (rrot_no B d room t _).mono ?_
    rintro e w3 ⟨rfl, hn3⟩
    have hn4 := hn3.then (New.alloc1 w3 (.cells #[.slice B 0 d, .int .i64 room] 31))
    have hb4 := hn4.keep hbb2
    have x0 := blk_cell hb4 0
    have x1 := blk_cell hb4 1
    have f0 := blk_free hb4 0
    have f1 := blk_free hb4 1
    clear c0 c1
    go_wp2_with fail
    have d0 := (blk_cell (blk_set (blk_set hb4 0 (.slice B 0 d)) 1 (.int .i64 room)) 0).trans rfl
    have d1 := (blk_cell (blk_set (blk_set hb4 0 (.slice B 0 d)) 1 (.int .i64 room)) 1).trans rfl
    refine bodyPost_ret (v := .tuple #[.agg #[.slice B 0 d, .int .i64 room], .bool true]) (by simp [results, Try.results21, go_sem, d0, d1]) rfl ?_
    have hrf := hr2'.new hn3
    refine Stp.fin (w3 := w3) hrf ((hB0.keep he2 (fun k hk => (hs k hk).2)).new hn3) (fun k hk => ?_) ((hn0.to.trans (he2.mono (fun k _ hk => .inl hk)) (fun _ _ h => h)).trans hn3.to (fun _ _ h => h)) (fun k hk => ?_) (fun k hk => (h.own.at_ hk).2) h.lt rfl ((((Ext.refl _ w3).alloc _).set (by rfl)).set (by rfl))
    · have h1 := hs k hk
      have h2 := he2.size
      have h3 := hn3.size
      refine ⟨by omega, h1.2, by omega, .inl hk⟩
    · exact .inl hk
  · refine (rotate_yes p A n c xs room t _ hring0 (by omega) ht).mono ?_
    rintro e w2 ⟨A2, c2, rfl, hr2', he2, hf2⟩
    have hbb0 := he2.keep hb0 q0.t0
    have hbb1 := he2.keep hb1 q0.t1
    have hbb2 := he2.keep hb2 q0.t2
    have c0 : w2.cell? ⟨w.heap.size, 0, none⟩ = some (.slice B n d) := (blk_cell hbb0 0).trans rfl
    have c1 : w2.cell? ⟨w.heap.size, 1, none⟩ = some (.int .i64 room) := (blk_cell hbb0 1).trans rfl
    have b2 : w2.cell? ⟨w.heap.size + 1, 2, none⟩ = some (.int .i64 t) := (blk_cell hbb1 2).trans rfl
    go_wp2_with fail
    have hB2 := hB0.keep he2 (fun k hk => (hs k hk).2)
    refine (rrot_yes B n d xs room t _ hB2 (by omega) (by omega) ht).mono ?_
    rintro e w3 ⟨B3, d3, rfl, ho3, hn3⟩
    have hn4 := hn3.then (New.alloc1 w3 (.cells #[.slice B3 n d3, .int .i64 room] 31))
    have hb4 := hn4.keep hbb2
    have x0 := blk_cell hb4 0
    have x1 := blk_cell hb4 1
    have f0 := blk_free hb4 0
    have f1 := blk_free hb4 1
    clear c0 c1
    go_wp2_with fail
    have d0 := (blk_cell (blk_set (blk_set hb4 0 (.slice B3 n d3)) 1 (.int .i64 room)) 0).trans rfl
    have d1 := (blk_cell (blk_set (blk_set hb4 0 (.slice B3 n d3)) 1 (.int .i64 room)) 1).trans rfl
    refine bodyPost_ret (v := .tuple #[.agg #[.slice B3 n d3, .int .i64 room], .bool true]) (by simp [results, Try.results21, go_sem, d0, d1]) rfl ?_
    have hrf := hr2'.new hn3
    refine Stp.fin (w3 := w3) hrf ho3.rd (fun k hk => ?_) ((hn0.to.trans (he2.mono (fun k _ hk => .inl hk)) (fun _ _ h => h)).trans hn3.to (fun _ _ h => h)) (fun k hk => by rw [← hs0]; exact hf2 k hk) (fun k hk => (h.own.at_ hk).2) h.lt rfl ((((Ext.refl _ w3).alloc _).set (by rfl)).set (by rfl))
    have h1 := (ho3.at_ hk)
    have h2 := he2.size
    refine ⟨h1.2, fun ht => ?_, by omega, .inr (by omega)⟩
    rcases ht with e | e
    · have := hr2'.lt; omega
    · have := (hr2'.own.at_ e).2; omega

set_option maxHeartbeats 2000000 in
theorem step_drop (p : Nat) (A : Option Addr) (n c : Nat) (xs : List Int) (room : Nat) (B : Option Addr) (d : Nat) (k : Int) (OA : Option Addr) (on oc : Nat) (ol : List Int) (t : Int) (w : World)
    (h : Rngi w p A n c xs room) (hB : Rd w 1 B n d (vsi xs)) (hs : ∀ k, inA B k → k < w.heap.size ∧ ¬ Tch p A k) (ho : Rd w 1 OA on oc (vsi ol)) (hos : on = 0 ∨ ∀ k, inA OA k → ¬ Tch p A k) (ht : (Lit.int .i64 t).wf = true)
    (k1 : ((k.tmod 10) == 4) = false) (k2 : ((k.tmod 10) == 5) = false) (k3 : ((k.tmod 10) == 6) = false) (k4 : ((k.tmod 10) == 7) = false) (k5 : ((k.tmod 10) == 8) = true) :
    Calls Try.prog 21 #[.pointer (some ⟨p, 0, none⟩), .agg #[.slice B n d, .int .i64 room], .agg #[.int .u8 k, .slice OA on oc, .int .i64 t]] w fun e w' => Stp w p A B room e w' := by
  obtain ⟨s, hs20⟩ : ∃ s, s = min on 20 := ⟨_, rfl⟩
  have hkn : s ≤ on := by omega
  have hk20 : s ≤ 20 := by omega
  have HK := hide hs20
  clear hs20
  have hr2 := h.r2
  have hle := h.le
  obtain ⟨w0, hw0, hb0, hb1, hb2, hn0, hs0⟩ := three_new w #[.slice B n d, .int .i64 room] #[.int .u8 k, .slice OA on oc, .int .i64 t] #[.slice none 0 0, .int .i64 0] 31 56 31
  go_enter Try.func21, Try.ntmps21
  go_wp2_with fail
  refine (short_any OA on oc s _ ho.cap HK.out).mono ?_
  rintro e w1 ⟨rfl, rfl⟩
  go_wp2_with fail
  rw [← hw0]
  have HW := hide hw0
  clear hw0
  have hring0 := h.new hn0
  have hB0 := hB.new hn0
  have q0 := Stq.of h
  · have hq : Opb w0 (w.heap.size + 1) k (.slice OA on oc) t := hb1
    refine (drop_any p A n c xs room _ k _ t _ hring0 hq (by have := h.lt; omega) (fun hk => by have := (h.own.at_ hk).2; omega)).mono ?_
    rintro e w2 ⟨A2, c2, rfl, hr2', he2', hf2⟩
    have he2 : Ext (Tch p A) w0 w2 := he2'.mono (fun k _ e => .inl e)
    obtain ⟨ys, hys⟩ : ∃ ys, ys = xs.filter (fun x => decide (t ≤ x)) := ⟨_, rfl⟩
    rw [← hys] at hr2'
    have hbb0 := he2.keep hb0 q0.t0
    have hbb1 := he2.keep hb1 q0.t1
    have hbb2 := he2.keep hb2 q0.t2
    have c0 : w2.cell? ⟨w.heap.size, 0, none⟩ = some (.slice B n d) := (blk_cell hbb0 0).trans rfl
    have c1 : w2.cell? ⟨w.heap.size, 1, none⟩ = some (.int .i64 room) := (blk_cell hbb0 1).trans rfl
    have b2 : w2.cell? ⟨w.heap.size + 1, 2, none⟩ = some (.int .i64 t) := (blk_cell hbb1 2).trans rfl
    go_wp2_with fail
    have hB2 := hB0.keep he2 (fun k hk => (hs k hk).2)
    refine (rbelow_any B n d xs room t _ hB2 (by omega)).mono ?_
    rintro e w3 ⟨B3, d3, rfl, ho3, hn3⟩
    rw [← hys] at ho3 ⊢
    have HY := hide hys
    clear hys
    have hn4 := hn3.then (New.alloc1 w3 (.cells #[.slice B3 ys.length d3, .int .i64 room] 31))
    have hb4 := hn4.keep hbb2
    have x0 := blk_cell hb4 0
    have x1 := blk_cell hb4 1
    have f0 := blk_free hb4 0
    have f1 := blk_free hb4 1
    clear c0 c1
    go_wp2_with fail
    have d0 := (blk_cell (blk_set (blk_set hb4 0 (.slice B3 ys.length d3)) 1 (.int .i64 room)) 0).trans rfl
    have d1 := (blk_cell (blk_set (blk_set hb4 0 (.slice B3 ys.length d3)) 1 (.int .i64 room)) 1).trans rfl
    refine bodyPost_ret (v := .tuple #[.agg #[.slice B3 ys.length d3, .int .i64 room], .bool true]) (by simp [results, Try.results21, go_sem, d0, d1]) rfl ?_
    have hrf := hr2'.new hn3
    refine Stp.fin (w3 := w3) hrf ho3.rd (fun k hk => ?_) ((hn0.to.trans (he2.mono (fun k _ hk => .inl hk)) (fun _ _ h => h)).trans hn3.to (fun _ _ h => h)) (fun k hk => by rw [← hs0]; exact hf2 k hk) (fun k hk => (h.own.at_ hk).2) h.lt rfl ((((Ext.refl _ w3).alloc _).set (by rfl)).set (by rfl))
    have h1 := (ho3.at_ hk)
    have h2 := he2.size
    refine ⟨h1.2, fun ht => ?_, by omega, .inr (by omega)⟩
    rcases ht with e | e
    · have := hr2'.lt; omega
    · have := (hr2'.own.at_ e).2; omega
end Go.Proofs.Ytafeeafccbdkfaa
