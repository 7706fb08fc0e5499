/- Walks: a number comes. -/
import Derived.Test.YtconaojkonjheaaT4
namespace Go.Proofs.Ytconaojkonjheaa
open Go.RowKit Go.Maps
set_option maxRecDepth 100000

theorem info_h : (Try.prog.info? 69).map (fun i => (i.zero, i.size, i.bytes)) = some (some (.agg #[.int .i64 0, .int .i64 0]), 2, 16) := by kernel_rfl
/-- A meter, whole. -/
structure Met (w : World) (p b : Nat) (A : Option Addr) (n c : Nat) (came rep reo ext late held : Int) (seen : List Int) (hs : List (Int × Int)) (next : Nat) : Prop where
  blk : MBk w p came rep reo ext late held (.map (some b)) (.slice A n c) next
  set : ISet w b seen
  own : Own w 0 69 2 A n c (hcs hs)
  np : ¬ inA A p
  ris : Ris hs
theorem ISet.ne {w : World} {b k : Nat} {xs : List Int} (h : ISet w b xs) {cs : Array Value} {t : TypeId} {fr : Nat × Nat} (hk : w.heap[k]? = some (.cells cs t fr)) : k ≠ b := fun e => by
  subst e
  obtain ⟨D, ⟨es, clock, h1, _⟩, _⟩ := h
  rw [hk] at h1
  cases h1
theorem Own.notMap {w : World} {base n c : Nat} {e : TypeId} {sz : Nat} {A : Option Addr} {xs : List Value} (h : Own w base e sz A n c xs) {b : Nat} {ys : List Int} (hs : ISet w b ys) : ¬ inA A b := by
  rintro ⟨ad, rfl, rfl⟩
  rcases h.row.2 with ⟨hv, _⟩ | ⟨g, cap, cur, hv, hb, hg, _⟩
  · cases hv
  · cases hv
    exact hs.ne hg rfl
/-- What a number's coming turns. -/
def Tm (p b : Nat) (A : Option Addr) (k : Nat) : Prop := k = p ∨ k = b ∨ inA A k

theorem two_new (w : World) (a b : Array Value) (s t : TypeId) : ∃ w0, w0 = (w.alloc (.cells a s)).alloc (.cells b t) ∧ w0.heap[w.heap.size]? = some (.cells a s) ∧ w0.heap[w.heap.size + 1]? = some (.cells b t) ∧ New w w0 ∧ w0.heap.size = w.heap.size + 2 := by
  refine ⟨_, rfl, blk_alloc (blk_new w _) _, ?_, by (repeat (first | exact Ext.refl _ _ | assumption | apply Ext.alloc | apply Ext.drewN | apply Ext.drew | refine Ext.setCell ?_ (fun h => by first | rfl | exact absurd h (by dsimp only; omega)) _)), by simp⟩
  have := blk_new (w.alloc (Obj.cells a s)) (Obj.cells b t)
  rwa [World.size_alloc] at this
theorem New.cell {w w' : World} (h : New w w') {a : Addr} {v : Value} (hc : w.cell? a = some v) : w'.cell? a = some v :=
  (World.cell?_of_block (h.block _ (World.block_lt_of_cell? w _ hc) (fun h => h))).trans hc

set_option maxHeartbeats 4000000 in
theorem add_dup (p b : Nat) (A : Option Addr) (nh ch : Nat) (came rep reo ext late held : Int) (seen : List Int) (hs : List (Int × Int)) (next : Nat) (n : Int) (w : World)
    (hm : Met w p b A nh ch came rep reo ext late held seen hs next) (hn : mayN n) (hin : n ∈ seen) (hc : 0 ≤ came ∧ came ≤ 5000) (hr : 0 ≤ rep ∧ rep ≤ 5000) (hro : 0 ≤ reo ∧ reo ≤ 5000) :
    Calls Try.prog 33 #[.pointer (some ⟨p, 0, none⟩), .int .i64 n] w fun e w' => e = .returned (.tuple #[.int .i64 0, .int .i64 0]) ∧ Met w' p b A nh ch (came + 1) (rep + 1) reo (mx ext 0) (mx late 0) (mx held 0) seen hs next ∧ Ext (fun k => k = p) w w' := by
  have hd := decide_eq_true hin
  have hwf : (Lit.int .i64 n).wf = true := wf64 (by have := hn.1; omega) (by have := hn.2; omega)
  have HD := hide hd
  have HM := hide hn
  clear hd hin hn
  obtain ⟨w0, hw0, hb0, hb1, hn0, hs0⟩ := two_new w #[.pointer (some ⟨p, 0, none⟩)] #[.int .i64 n] 39 3
  have c0 : ((w.alloc (.cells #[.pointer (some ⟨p, 0, none⟩)] 39)).alloc (.cells #[.int .i64 n] 3)).cell? ⟨p, 0, none⟩ = some (.int .i64 came) := by rw [← hw0]; exact New.cell hn0 ((hm.blk.c 0).trans rfl)
  go_enter Try.func33, Try.ntmps33
  go_wp2_with fail
  rw [← hw0]
  have HW := hide hw0
  clear hw0 c0
  have hpl := hm.blk.lt
  have hmb := hn0.keep hm.blk
  have hset := hm.set.new hn0
  have q2 : ∀ x : Lat (fun _ => False) w0, x.W.cell? ⟨w.heap.size, 0, none⟩ = some (.pointer (some ⟨p, 0, none⟩)) := fun x => (blk_cell (New.keep x.ext hb0) 0).trans rfl
  have q3 : ∀ x : Lat (fun _ => False) w0, x.W.cell? ⟨w.heap.size + 1, 0, none⟩ = some (.int .i64 n) := fun x => (blk_cell (New.keep x.ext hb1) 0).trans rfl
  have q6 : ∀ x : Lat (fun _ => False) w0, x.W.cell? ⟨p, 6, none⟩ = some (.map (some b)) := fun x => (blk_cell (New.keep x.ext hmb) 6).trans rfl
  have ql : ∀ x : Lat (fun _ => False) w0, (Instr.lookup 52 (.map (some b)) (.int .i64 n) true).run Try.prog x.W = .ok (.tuple #[.agg #[], .bool true]) x.W := fun x => by have := (hset.new x.ext).look hwf; rwa [HD.out] at this
  refine mix_start (fun _ => False) w0 (by kernel_rfl) ?_
  refine mix_batch [0, 1, 2, 3, 4, 5, 6, 7, 8] (by kernel_rfl) 3 _ _ _ (by kernel_rfl) (lat_mem (by (repeat (first | exact Ext.refl _ _ | assumption | apply Ext.alloc | apply Ext.drewN | apply Ext.drew | refine Ext.setCell ?_ (fun h => by first | rfl | exact absurd h (by dsimp only; omega)) _)))) ?_
  simp only [pickOps, List.getD_cons_zero, List.getD_cons_succ]
  repeat (go_big_quiet_step (fail))
  refine wpQuiet_nil ?_
  refine mix_loud (i := 9) (by kernel_rfl) rfl (fun K hK => ?_)
  go_simp
  refine hK.out _ _ (lat_mem (by (repeat (first | exact Ext.refl _ _ | assumption | apply Ext.alloc | apply Ext.drewN | apply Ext.drew | refine Ext.setCell ?_ (fun h => by first | rfl | exact absurd h (by dsimp only; omega)) _)))) ?_
  clear hK
  refine mix_loud (i := 10) (by kernel_rfl) rfl (fun K hK => ?_)
  go_simp
  refine hK.out _ _ (lat_mem (by (repeat (first | exact Ext.refl _ _ | assumption | apply Ext.alloc | apply Ext.drewN | apply Ext.drew | refine Ext.setCell ?_ (fun h => by first | rfl | exact absurd h (by dsimp only; omega)) _)))) ?_
  clear hK
  refine mix_batch [11] (by kernel_rfl) 0 _ _ _ (by kernel_rfl) (lat_mem (by (repeat (first | exact Ext.refl _ _ | assumption | apply Ext.alloc | apply Ext.drewN | apply Ext.drew | refine Ext.setCell ?_ (fun h => by first | rfl | exact absurd h (by dsimp only; omega)) _)))) ?_
  simp only [pickOps, List.getD_cons_zero, List.getD_cons_succ]
  repeat (go_big_quiet_step (fail))
  refine wpQuiet_nil ?_
  refine wpAnyH_done (by kernel_rfl) (NoPanic.normal ?_) _
  clear q2 q3 q6 ql
  have hn1 : New w0 (w0.alloc (.cells #[] 70)).drew := by (repeat (first | exact Ext.refl _ _ | assumption | apply Ext.alloc | apply Ext.drewN | apply Ext.drew | refine Ext.setCell ?_ (fun h => by first | rfl | exact absurd h (by dsimp only; omega)) _))
  have hn01 := hn0.then hn1
  have hmb1 := hn1.keep hmb
  have k2 := (blk_cell hb0 0).trans rfl
  have c1 := (blk_cell hmb1 1).trans rfl
  have f1 := blk_free hmb1 1
  have hsz : p ≠ w.heap.size := by omega
  go_wp2_with fail
  have hs2 : Ext (fun k => k = p) (w0.alloc (.cells #[] 70)).drew (((w0.alloc (.cells #[] 70)).setCell ⟨p, 1, none⟩ (.int .i64 (rep + 1))).drew) := (Ext.refl _ (w0.alloc (.cells #[] 70)).drew).set (by rfl)
  have hb2 := blk_set hmb1 1 (.int .i64 (rep + 1))
  refine (note_any p came (rep + 1) reo ext late held (.map (some b)) (.slice A nh ch) next 0 0 0 _ hb2 (by omega) (by omega)).mono ?_
  rintro e w3 ⟨rfl, hb3, he3⟩
  go_wp2_with fail
  go_ret2
  have he : Ext (fun k => k = p) w w3 := (hn01.to.trans hs2 (fun _ _ h => h)).trans he3 (fun _ _ h => h)
  exact ⟨rfl, ⟨hb3, hm.set.keep he (fun e => hm.set.ne hm.blk e.symm), hm.own.keep he (fun k hk e => hm.np (e ▸ hk)), hm.np, hm.ris⟩, he⟩
end Go.Proofs.Ytconaojkonjheaa
