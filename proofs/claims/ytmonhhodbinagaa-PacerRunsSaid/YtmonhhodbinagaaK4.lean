/- Walks: rings by what they may turn; a pacer made; a key known. -/
import Derived.Test.YtmonhhodbinagaaK3
namespace Go.Proofs.Ytmonhhodbinagaa
open Go.RowKit Go.Maps
set_option maxRecDepth 100000

theorem push_q {w : World} {r : Nat} {T : Nat → Prop} {xs : List (Int × Int)} (h : RQ w r T xs) (B : Option Addr) (m d : Nat) (l : List (Int × Int)) (hl : Rd w 2 B m d (kcs l)) (hr : xs.length + l.length ≤ 512) :
    Calls Try.prog 28 #[.pointer (some ⟨r, 0, none⟩), .slice B m d] w fun e w' => ∃ T', e = .returned (.int .i64 0) ∧ RQ w' r T' (xs ++ l) ∧ Ext T w w' ∧ ∀ k, T' k → T k ∨ w.heap.size ≤ k := by
  obtain ⟨A, n, c, h, hT⟩ := h
  have e1 := h.len
  have e2 := hl.lenk
  refine (push_k r A n c xs 512 B m d l w h hl (by omega)).mono ?_
  rintro e w' ⟨A', c', rfl, h', he, hf⟩
  refine ⟨Tch r A', rfl, ⟨A', _, c', h', fun k => Iff.rfl⟩, he.mono (fun k _ hk => (hT k).2 hk), fun k hk => ?_⟩
  rcases hk with rfl | hk
  · exact .inl ((hT k).2 (.inl rfl))
  · exact (hf k hk).imp (fun h => (hT k).2 (.inr h)) id
theorem pop_q {w : World} {r : Nat} {T : Nat → Prop} {x : Int × Int} {xs : List (Int × Int)} (h : RQ w r T (x :: xs)) :
    Calls Try.prog 30 #[.pointer (some ⟨r, 0, none⟩)] w fun e w' => ∃ T', e = .returned (.tuple #[kV x, .bool true]) ∧ RQ w' r T' xs ∧ Ext T w w' ∧ ∀ k, T' k → T k ∨ w.heap.size ≤ k := by
  obtain ⟨A, n, c, h, hT⟩ := h
  refine (pop_k r A n c x xs 512 w h).mono ?_
  rintro e w' ⟨A', c', rfl, h', he, hf⟩
  refine ⟨Tch r A', rfl, ⟨A', _, c', h', fun k => Iff.rfl⟩, he.mono (fun k _ hk => (hT k).2 hk), fun k hk => ?_⟩
  rcases hk with rfl | hk
  · exact .inl ((hT k).2 (.inl rfl))
  · exact (hf k hk).imp (fun h => (hT k).2 (.inr h)) id
theorem len_q {w : World} {r : Nat} {T : Nat → Prop} {xs : List (Int × Int)} (h : RQ w r T xs) :
    Calls Try.prog 41 #[.pointer (some ⟨r, 0, none⟩)] w fun e w' => e = .returned (.int .i64 xs.length) ∧ w = w' := by
  obtain ⟨A, n, c, h, hT⟩ := h
  rw [h.len]
  exact len_k r A n c xs 512 w h

/-! ## made -/
/-- One that knows nobody. -/
def fresh (most : Int) : PS := ⟨[], fun _ => [], most, 0, 0⟩
/-- How far the loop of New is. -/
def Made (w wr : World) (b p : Nat) (most : Int) (v0 v1 : Value) : Prop :=
  wr.heap[p]? = some (.cells #[.map (some b), v0, v1, .int .i64 most, .int .i64 0, .int .i64 0] 69) ∧ PMap wr b [] ∧ New w wr ∧ w.heap.size ≤ b ∧ b < p
theorem Made.nx {w wr wr' : World} {b p : Nat} {most : Int} {v0 v1 : Value} (h : Made w wr b p most v0 v1) (hn : New wr wr') : Made w wr' b p most v0 v1 :=
  ⟨hn.keep h.1, h.2.1.new hn, h.2.2.1.then hn, h.2.2.2.1, h.2.2.2.2⟩
theorem Made.st0 {w wr : World} {b p : Nat} {most : Int} {v0 v1 : Value} (h : Made w wr b p most v0 v1) (v : Value) : Made w (wr.setCell ⟨p, 1, none⟩ v) b p most v v1 ∧ Ext (fun k => k = p) wr (wr.setCell ⟨p, 1, none⟩ v) := by
  have hs := ((Ext.refl (fun k => k = p) wr).set (by rfl) : Ext (fun k => k = p) wr (wr.setCell ⟨p, 1, none⟩ v))
  obtain ⟨h1, h2, h3, h4, h5⟩ := h
  exact ⟨⟨blk_set h1 1 v, h2.keep hs (by omega), h3.trans hs (fun k hk e => by omega), h4, h5⟩, hs⟩
theorem Made.st1 {w wr : World} {b p : Nat} {most : Int} {v0 v1 : Value} (h : Made w wr b p most v0 v1) (v : Value) : Made w (wr.setCell ⟨p, 2, none⟩ v) b p most v0 v ∧ Ext (fun k => k = p) wr (wr.setCell ⟨p, 2, none⟩ v) := by
  have hs := ((Ext.refl (fun k => k = p) wr).set (by rfl) : Ext (fun k => k = p) wr (wr.setCell ⟨p, 2, none⟩ v))
  obtain ⟨h1, h2, h3, h4, h5⟩ := h
  exact ⟨⟨blk_set h1 2 v, h2.keep hs (by omega), h3.trans hs (fun k hk e => by omega), h4, h5⟩, hs⟩
set_option maxHeartbeats 1600000 in
theorem new_p (most : Int) (w : World) (h1 : 1 ≤ most) (h2 : most ≤ 512) :
    Calls Try.prog 8 #[.int .i64 most] w fun e w' => ∃ p T, e = .returned (.tuple #[.pointer (some ⟨p, 0, none⟩), .int .i64 0]) ∧ Pq w' p (fresh most) T ∧ New w w' ∧ ∀ k, T k → w.heap.size ≤ k := by
  have d1 : decide (most < 1) = false := decide_eq_false (by omega)
  have d2 : decide (512 < most) = false := decide_eq_false (by omega)
  have m1 := @run_makeMap
  go_enter Try.func8, Try.ntmps8
  have hp0 := PMap.made w
  have hb0 := blk_new (w.alloc (.map #[] 0)) (.cells #[.map (some w.heap.size), .pointer none, .pointer none, .int .i64 most, .int .i64 0, .int .i64 0] 69)
  have hM : Made w ((w.alloc (.map #[] 0)).alloc (.cells #[.map (some w.heap.size), .pointer none, .pointer none, .int .i64 most, .int .i64 0, .int .i64 0] 69)) w.heap.size (w.heap.size + 1) most (.pointer none) (.pointer none) := ⟨by rw [World.size_alloc] at hb0; exact hb0, hp0.new (New.alloc1 _ _), (New.alloc1 _ _).then (New.alloc1 _ _), Nat.le_refl _, by omega⟩
  clear hp0 hb0
  go_wp2_with fail
  generalize ((w.alloc (.map #[] 0)).alloc (.cells #[.map (some w.heap.size), .pointer none, .pointer none, .int .i64 most, .int .i64 0, .int .i64 0] 69)) = w0 at *
  obtain ⟨p, hp⟩ : ∃ p, p = w.heap.size + 1 := ⟨_, rfl⟩
  rw [← hp] at hM ⊢
  clear hp
  obtain ⟨b, hb⟩ : ∃ b, b = w.heap.size := ⟨_, rfl⟩
  rw [← hb] at hM
  go_loopw [16] (fun s16 wr => (s16 = .int .i64 0 ∧ Made w wr b p most (.pointer none) (.pointer none)) ∨ (s16 = .int .i64 1 ∧ ∃ q, Made w wr b p most (.pointer (some ⟨q, 0, none⟩)) (.pointer none) ∧ p < q ∧ Rngk wr q none 0 0 [] 512) ∨ (s16 = .int .i64 2 ∧ ∃ q q', Made w wr b p most (.pointer (some ⟨q, 0, none⟩)) (.pointer (some ⟨q', 0, none⟩)) ∧ p < q ∧ q < q' ∧ Rngk wr q none 0 0 [] 512 ∧ Rngk wr q' none 0 0 [] 512)) (fun a _ => 2 - (intOf a).toNat)
  case atStart => exact .inl ⟨rfl, hM⟩
  case round =>
    rcases hrel with ⟨rfl, h⟩ | ⟨rfl, q, h, hq, hrq⟩ | ⟨rfl, q, q', h, hq, hq', hrq, hrq'⟩
    · go_wp2_with fail
      refine mix_start (fun k => k = p) wr (by kernel_rfl) ?_
      refine mix_batch [0, 1, 6, 7] (by kernel_rfl) 6 _ _ _ (by kernel_rfl) (lat_mem (by (repeat (first | exact Ext.refl _ _ | assumption | apply Ext.alloc | apply Ext.drewN | apply Ext.drew | refine Ext.setCell ?_ (fun h => by first | rfl | exact absurd h (by dsimp only; omega)) _)))) ?_
      simp only [pickOps, List.getD_cons_zero, List.getD_cons_succ]
      repeat (go_big_quiet_step (fail))
      refine wpQuiet_nil ?_
      refine mix_loud (i := 2) (by kernel_rfl) rfl (fun K hK => ?_)
      go_simp
      refine (new_k 512 _ (by omega) (by omega)).mono ?_
      rintro e w2 ⟨rfl, hr2, hn2⟩
      replace hr2 : Rngk w2 wr.heap.size none 0 0 [] 512 := hr2
      have hn : New wr w2 := New.then (by (repeat (first | exact Ext.refl _ _ | assumption | apply Ext.alloc | apply Ext.drewN | apply Ext.drew | refine Ext.setCell ?_ (fun h => by first | rfl | exact absurd h (by dsimp only; omega)) _))) hn2
      refine hK.out _ _ (lat_mem hn.to) (mix_next hn.to (fun _ _ h => h) ?_)
      clear hK
      have h2 := h.nx hn
      have hlt := blk_lt h.1
      have c1 := (blk_cell h2.1 1).trans rfl
      have f1 := blk_free h2.1 1
      refine mix_batch [3, 4, 5, 8] (by kernel_rfl) 1 _ _ _ (by kernel_rfl) (lat_mem (by (repeat (first | exact Ext.refl _ _ | assumption | apply Ext.alloc | apply Ext.drewN | apply Ext.drew | refine Ext.setCell ?_ (fun h => by first | rfl | exact absurd h (by dsimp only; omega)) _)))) ?_
      simp only [pickOps, List.getD_cons_zero, List.getD_cons_succ]
      repeat (go_big_quiet_step (fail))
      refine wpQuiet_nil ?_
      refine mix_loud (i := 9) (by kernel_rfl) rfl (fun K hK => ?_)
      go_simp
      refine hK.out _ _ (lat_mem (by (repeat (first | exact Ext.refl _ _ | assumption | apply Ext.alloc | apply Ext.drewN | apply Ext.drew | refine Ext.setCell ?_ (fun h => by first | rfl | exact absurd h (by dsimp only; omega)) _)))) ?_
      clear hK
      refine wpAnyH_done (by kernel_rfl) (NoPanic.normal ?_) _
      obtain ⟨h3, he3⟩ := h2.st0 (.pointer (some ⟨wr.heap.size, 0, none⟩))
      have hr3 := hr2.keep he3 (by omega) (fun k hk => absurd hk (inA_none k))
      go_wp2_with fail
      exact ⟨.inr (.inl ⟨rfl, _, h3, hlt, hr3⟩), by simp [intOf]⟩
    · go_wp2_with fail
      refine mix_start (fun k => k = p) wr (by kernel_rfl) ?_
      refine mix_batch [0, 1, 6, 7] (by kernel_rfl) 6 _ _ _ (by kernel_rfl) (lat_mem (by (repeat (first | exact Ext.refl _ _ | assumption | apply Ext.alloc | apply Ext.drewN | apply Ext.drew | refine Ext.setCell ?_ (fun h => by first | rfl | exact absurd h (by dsimp only; omega)) _)))) ?_
      simp only [pickOps, List.getD_cons_zero, List.getD_cons_succ]
      repeat (go_big_quiet_step (fail))
      refine wpQuiet_nil ?_
      refine mix_loud (i := 2) (by kernel_rfl) rfl (fun K hK => ?_)
      go_simp
      refine (new_k 512 _ (by omega) (by omega)).mono ?_
      rintro e w2 ⟨rfl, hr2, hn2⟩
      replace hr2 : Rngk w2 wr.heap.size none 0 0 [] 512 := hr2
      have hn : New wr w2 := New.then (by (repeat (first | exact Ext.refl _ _ | assumption | apply Ext.alloc | apply Ext.drewN | apply Ext.drew | refine Ext.setCell ?_ (fun h => by first | rfl | exact absurd h (by dsimp only; omega)) _))) hn2
      refine hK.out _ _ (lat_mem hn.to) (mix_next hn.to (fun _ _ h => h) ?_)
      clear hK
      have h2 := h.nx hn
      have hlt := hrq.lt
      have c1 := (blk_cell h2.1 2).trans rfl
      have f1 := blk_free h2.1 2
      refine mix_batch [3, 4, 5, 8] (by kernel_rfl) 1 _ _ _ (by kernel_rfl) (lat_mem (by (repeat (first | exact Ext.refl _ _ | assumption | apply Ext.alloc | apply Ext.drewN | apply Ext.drew | refine Ext.setCell ?_ (fun h => by first | rfl | exact absurd h (by dsimp only; omega)) _)))) ?_
      simp only [pickOps, List.getD_cons_zero, List.getD_cons_succ]
      repeat (go_big_quiet_step (fail))
      refine wpQuiet_nil ?_
      refine mix_loud (i := 9) (by kernel_rfl) rfl (fun K hK => ?_)
      go_simp
      refine hK.out _ _ (lat_mem (by (repeat (first | exact Ext.refl _ _ | assumption | apply Ext.alloc | apply Ext.drewN | apply Ext.drew | refine Ext.setCell ?_ (fun h => by first | rfl | exact absurd h (by dsimp only; omega)) _)))) ?_
      clear hK
      refine wpAnyH_done (by kernel_rfl) (NoPanic.normal ?_) _
      obtain ⟨h3, he3⟩ := h2.st1 (.pointer (some ⟨wr.heap.size, 0, none⟩))
      have hr3 := hr2.keep he3 (by omega) (fun k hk => absurd hk (inA_none k))
      have hq3 := (hrq.new hn).keep he3 (by omega) (fun k hk => absurd hk (inA_none k))
      go_wp2_with fail
      exact ⟨.inr (.inr ⟨rfl, _, _, h3, hq, hlt, hq3, hr3⟩), by simp [intOf]⟩
    · go_wp2_with fail
      go_ret2
      refine ⟨p, fun k => k = p ∨ k = b ∨ Tch q none k ∨ Tch q' none k, rfl, ⟨b, fun c => if c = 0 then q else q', fun c => if c = 0 then Tch q none else Tch q' none, ⟨h.1, h.2.1, ?_, ?_, ?_, ?_, ?_⟩, fun k => Iff.rfl⟩, h.2.2.1, ?_⟩
      · intro c hc
        obtain rfl | rfl : c = 0 ∨ c = 1 := by omega
        · exact ⟨none, 0, 0, hrq, fun k => Iff.rfl⟩
        · exact ⟨none, 0, 0, hrq', fun k => Iff.rfl⟩
      · have := h.2.2.2.2
        omega
      · intro c hc
        obtain rfl | rfl : c = 0 ∨ c = 1 := by omega
        · rintro (e | e)
          · omega
          · exact absurd e (inA_none _)
        · rintro (e | e)
          · omega
          · exact absurd e (inA_none _)
      · have h5 := h.2.2.2.2
        intro c hc
        obtain rfl | rfl : c = 0 ∨ c = 1 := by omega
        · rintro (e | e)
          · omega
          · exact absurd e (inA_none _)
        · rintro (e | e)
          · omega
          · exact absurd e (inA_none _)
      · rintro k (e | e) (e2 | e2)
        · omega
        · exact absurd e2 (inA_none _)
        · exact absurd e (inA_none _)
        · exact absurd e (inA_none _)
      · have h4 := h.2.2.2.1
        have h5 := h.2.2.2.2
        rintro k (e | e | (e | e) | (e | e))
        · omega
        · omega
        · omega
        · exact absurd e (inA_none _)
        · omega
        · exact absurd e (inA_none _)
  all_goals trace_state
  all_goals sorry
end Go.Proofs.Ytmonhhodbinagaa
