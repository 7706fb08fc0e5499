/- Walks: another meter like one. -/
import Derived.Test.YtconaojkonjheaaT18
import Derived.Maps.RangeWalk
namespace Go.Proofs.Ytconaojkonjheaa
open Go.RowKit Go.Maps
set_option maxRecDepth 100000

section
variable {ops : Array Oper} {rest : List Oper} {o : Oper} {a : Act} {Q : Exit → Act → World → Prop} {w : World}
theorem app_h (hgd : o.guard = none) (s x : Operand) (ho : o.op = .call { callee := .builtin .append, args := #[s, x], argTypes := #[53, 53] })
    (base : Nat) {A B : Option Addr} {n c m d : Nat} {xs ys : List Value} (hs : a.eval s = .slice A n c) (hx : a.eval x = .slice B m d) (hown : Own w base 69 2 A n c xs) (hr : Rd w 2 B m d ys) (hbytes : (n + m) * 16 ≤ 140737488355328) (hbase : base ≤ w.heap.size)
    (h : ∀ A' c' w', Own w' base 69 2 A' (n + m) c' (xs ++ ys) → Ext (inA A) w w' → (A' = A ∨ A' = some ⟨w.heap.size, 0, none⟩) → wpList Try.prog ops Q rest (a.put o.dst (.slice A' (n + m) c')) w') :
    wpList Try.prog ops Q (o :: rest) a w :=
  wpList_app hgd s x _ ho base 69 (.agg #[.int .i64 0, .int .i64 0]) 2 16 Try.underlying53 info_h rfl (by decide) (by decide) hs hx hown hr hbytes hbase h
end
set_option maxHeartbeats 400000 in
theorem clone_h (A : Option Addr) (n c : Nat) (xs : List Value) (w : World) (hr : Rd w 2 A n c xs) (hn : n * 16 ≤ 140737488355328) :
    Calls Try.prog 40 #[.slice A n c] w fun e w' => ∃ A' c', e = .returned (.slice A' n c') ∧ Own w' w.heap.size 69 2 A' n c' xs ∧ New w w' := by
  have q1 := fun (W : World) => Lib.run_eql_slice_nil (P := Try.prog) W 53 69 A n c 0 0 Try.underlying53
  go_enter Try.func40, Try.ntmps40
  by_cases hA : A = none
  · have hn0 := hr.n0 hA
    subst hA
    subst hn0
    obtain rfl : xs = [] := List.eq_nil_of_length_eq_zero (by simpa using hr.len)
    go_wp2
    go_ret
    exact ⟨none, 0, rfl, Own.nil _ _ _ _, Ext.refl _ _⟩
  · have hi : A.isNone = false := by cases A <;> simp_all
    go_wp2_with (at_builtin; refine app_h rfl _ _ rfl w.heap.size rfl rfl (Own.lit0 _ _ _ _ (Nat.le_refl _)) (hr.new (New.alloc1 _ _)) (by omega) (by simp) ?_; intro A' c' w' ho he hA')
    go_ret
    exact ⟨A', c', by simp, by simpa using ho, (New.alloc1 _ _).trans he (fun i hi h => by have := (inA_some _ _).1 h; simp at this; omega)⟩

/-- Where the walk stands behind the making. -/
def CutF (w : World) (A0 : Option Addr) (p0 b0 n : Nat) (came rep reo ext late held : Int) (hs : List (Int × Int)) (next : Nat) (s3 : Value) (wc : World) : Prop :=
  ∃ p b A c, s3 = .pointer (some ⟨p, 0, none⟩) ∧ MBk wc p came rep reo ext late held (.map (some b)) (.slice A n c) next ∧ ISet wc b [] ∧ Own wc 0 69 2 A n c (hcs hs) ∧ ¬ inA A p ∧ (∀ k, inA A k → w.heap.size ≤ k) ∧ w.heap.size ≤ p ∧ w.heap.size ≤ b ∧ New w wc
theorem ki_same (k x : Int) (hk : (Lit.int .i64 k).wf = true) : (ki k).sameKey (ki x) = decide (k = x) := by
  by_cases e : k = x
  · subst e
    rw [decide_eq_true rfl]
    exact WideAt.sameKey_self (lawK.key (keyI hk))
  · rw [decide_eq_false e]
    exact sameKey_ne (fun h => e (by simpa [ki] using h))
theorem nodup_same {xs ys : List Int} (hx : xs.Nodup) (hy : ys.Nodup) (h : ∀ k, k ∈ ys ↔ k ∈ xs) : ys.length = xs.length := ((List.perm_ext_iff_of_nodup hy hx).2 h).length_eq
theorem nodup_sub {xs ys : List Int} (hy : ys.Nodup) (h : ∀ k ∈ ys, k ∈ xs) : ys.length ≤ xs.length := by
  have h1 : (xs.filter (fun k => decide (k ∈ ys))).length ≤ xs.length := List.length_filter_le _ _
  induction ys generalizing xs with
  | nil => simp
  | cons y r ih =>
    obtain ⟨hyr, hr⟩ := List.nodup_cons.1 hy
    have hyx := h y (by simp)
    have := ih (xs := xs.erase y) hr (fun k hk => (List.mem_erase_of_ne (fun e => hyr (by rw [← e]; exact hk))).2 (h k (by simp [hk]))) (List.length_filter_le _ _)
    rw [List.length_erase_of_mem hyx] at this
    have := List.length_pos_of_mem hyx
    simp only [List.length_cons]
    omega
theorem ISet.as {w : World} {b : Nat} {xs ys : List Int} (h : ISet w b ys) (hm : ∀ k, k ∈ ys ↔ k ∈ xs) (hl : ys.length = xs.length) : ISet w b xs := by
  obtain ⟨D, h1, h2, h3⟩ := h
  refine ⟨D, by rw [← hl]; exact h1, fun k hk => ?_, by rw [h3, hl]⟩
  rw [h2 k hk]
  exact decide_eq_decide.2 (hm k)

set_option maxHeartbeats 4000000 in
theorem fork_m (p b : Nat) (A : Option Addr) (n c : Nat) (l : List Int) (hs : List (Int × Int)) (w : World) (h : MS w p b A n c l hs) (hn4 : n ≤ 5000) (hm : ∀ y ∈ l, mayN y) (hl4 : l.length ≤ 5000) :
    Calls Try.prog 23 #[.pointer (some ⟨p, 0, none⟩)] w fun e w' => ∃ p' b' A' c', e = .returned (.pointer (some ⟨p', 0, none⟩)) ∧ MS w' p' b' A' n c' l hs ∧ (∀ k, Tm p' b' A' k → w.heap.size ≤ k) ∧ New w w' := by
  have hmm := @run_makeMap Try.prog
  go_enter Try.func23, Try.ntmps23
  go_wp2_with fail
  refine (none_m h).mono ?_
  rintro e w1 ⟨rfl, rfl⟩
  go_upto_region 3 with (fail)
  go_cut [3] (fun s3 wc => CutF w A p b n (RP l).came (RP l).rep (RP l).reo (RP l).ext (RP l).late (RP l).held hs (mexOf l) s3 wc)
  case first =>
    have hq : ∀ (i : Nat) (v : Value), w.cell? ⟨p, i, none⟩ = some v → ∀ x : Lat (fun _ => False) w, x.W.cell? ⟨p, i, none⟩ = some v := fun i v hc x => New.cell x.ext hc
    have q0 := hq 0 _ ((h.met.blk.c 0).trans rfl)
    have q1 := hq 1 _ ((h.met.blk.c 1).trans rfl)
    have q2 := hq 2 _ ((h.met.blk.c 2).trans rfl)
    have q3 := hq 3 _ ((h.met.blk.c 3).trans rfl)
    have q4 := hq 4 _ ((h.met.blk.c 4).trans rfl)
    have q5 := hq 5 _ ((h.met.blk.c 5).trans rfl)
    have q7 := hq 7 _ ((h.met.blk.c 7).trans rfl)
    have q8 := hq 8 _ ((h.met.blk.c 8).trans rfl)
    clear hq
    refine mix_start (fun _ => False) w (by kernel_rfl) ?_
    refine mix_batch [0, 1, 2, 3, 5, 6, 7, 8, 10, 11, 12, 13] (by kernel_rfl) 5 _ _ _ (by kernel_rfl) (lat_mem (by (repeat (first | exact Ext.refl _ _ | assumption | apply Ext.alloc | apply Ext.drewN | apply Ext.drew | refine Ext.setCell ?_ (fun h => by first | rfl | exact absurd h (by dsimp only; omega)) _)))) ?_
    simp only [pickOps, List.getD_cons_zero, List.getD_cons_succ]
    repeat (go_big_quiet_step (fail))
    refine wpQuiet_nil ?_
    refine mix_two (i := 4) (j := 9) (by kernel_rfl) rfl rfl (fun K hK => ?_) (fun K hK => ?_)
    · go_simp
      have hna : New w (w.alloc (.map #[] 0)).drew := by (repeat (first | exact Ext.refl _ _ | assumption | apply Ext.alloc | apply Ext.drewN | apply Ext.drew | refine Ext.setCell ?_ (fun h => by first | rfl | exact absurd h (by dsimp only; omega)) _))
      have hsa : ISet (w.alloc (.map #[] 0)).drew w.heap.size [] := (ISet.made w).new (show New (w.alloc (.map #[] 0)) _ by (repeat (first | exact Ext.refl _ _ | assumption | apply Ext.alloc | apply Ext.drewN | apply Ext.drew | refine Ext.setCell ?_ (fun h => by first | rfl | exact absurd h (by dsimp only; omega)) _)))
      refine hK.out _ _ (lat_mem (by (repeat (first | exact Ext.refl _ _ | assumption | apply Ext.alloc | apply Ext.drewN | apply Ext.drew | refine Ext.setCell ?_ (fun h => by first | rfl | exact absurd h (by dsimp only; omega)) _)))) ?_
      clear hK
      refine mix_loud (i := 9) (by kernel_rfl) rfl (fun K hK => ?_)
      go_simp
      refine (clone_h A n c (hcs hs) _ (h.met.own.rd.new hna) (by omega)).mono ?_
      rintro e w4 ⟨A', c', rfl, ho4, hn4⟩
      have hn04 := hna.then hn4
      refine hK.out _ _ (lat_mem (by (repeat (first | exact Ext.refl _ _ | assumption | apply Ext.alloc | apply Ext.drewN | apply Ext.drew | refine Ext.setCell ?_ (fun h => by first | rfl | exact absurd h (by dsimp only; omega)) _)))) ?_
      clear hK
      refine mix_batch [14] (by kernel_rfl) 2 _ _ _ (by kernel_rfl) (lat_mem (by (repeat (first | exact Ext.refl _ _ | assumption | apply Ext.alloc | apply Ext.drewN | apply Ext.drew | refine Ext.setCell ?_ (fun h => by first | rfl | exact absurd h (by dsimp only; omega)) _)))) ?_
      simp only [pickOps, List.getD_cons_zero, List.getD_cons_succ]
      repeat (go_big_quiet_step (fail))
      refine wpQuiet_nil ?_
      refine mix_loud (i := 15) (by kernel_rfl) rfl (fun K hK => ?_)
      go_simp
      refine hK.out _ _ (lat_mem (by (repeat (first | exact Ext.refl _ _ | assumption | apply Ext.alloc | apply Ext.drewN | apply Ext.drew | refine Ext.setCell ?_ (fun h => by first | rfl | exact absurd h (by dsimp only; omega)) _)))) ?_
      clear hK
      refine mix_batch [16] (by kernel_rfl) 0 _ _ _ (by kernel_rfl) (lat_mem (by (repeat (first | exact Ext.refl _ _ | assumption | apply Ext.alloc | apply Ext.drewN | apply Ext.drew | refine Ext.setCell ?_ (fun h => by first | rfl | exact absurd h (by dsimp only; omega)) _)))) ?_
      simp only [pickOps, List.getD_cons_zero, List.getD_cons_succ]
      repeat (go_big_quiet_step (fail))
      refine wpQuiet_nil ?_
      refine wpAnyH_done (by kernel_rfl) (NoPanic.normal ?_) _
      clear q0 q1 q2 q3 q4 q5 q7 q8
      go_wp2_with fail
      go_meet
      have hsz := hna.size
      have hA' : ∀ k, inA A' k → w.heap.size ≤ k ∧ k < w4.heap.size := fun k hk => by have := ho4.at_ hk; omega
      refine ⟨w4.heap.size, w.heap.size, A', c', rfl, blk_new w4 _, (hsa.new hn4).new (New.alloc1 _ _), (ho4.new (New.alloc1 _ _)).le (Nat.zero_le _), fun hk => by have := (hA' _ hk).2; omega, fun k hk => (hA' k hk).1, by have := hn4.size; omega, Nat.le_refl _, hn04.then (New.alloc1 _ _)⟩
    · go_simp
      have hna : New w w.drew := by (repeat (first | exact Ext.refl _ _ | assumption | apply Ext.alloc | apply Ext.drewN | apply Ext.drew | refine Ext.setCell ?_ (fun h => by first | rfl | exact absurd h (by dsimp only; omega)) _))
      refine (clone_h A n c (hcs hs) _ (h.met.own.rd.new hna) (by omega)).mono ?_
      rintro e w4 ⟨A', c', rfl, ho4, hn4⟩
      have hn04 := hna.then hn4
      refine hK.out _ _ (lat_mem (by (repeat (first | exact Ext.refl _ _ | assumption | apply Ext.alloc | apply Ext.drewN | apply Ext.drew | refine Ext.setCell ?_ (fun h => by first | rfl | exact absurd h (by dsimp only; omega)) _)))) ?_
      clear hK
      refine mix_loud (i := 4) (by kernel_rfl) rfl (fun K hK => ?_)
      go_simp
      have hsa := ISet.made w4
      refine hK.out _ _ (lat_mem (by (repeat (first | exact Ext.refl _ _ | assumption | apply Ext.alloc | apply Ext.drewN | apply Ext.drew | refine Ext.setCell ?_ (fun h => by first | rfl | exact absurd h (by dsimp only; omega)) _)))) ?_
      clear hK
      refine mix_batch [14] (by kernel_rfl) 2 _ _ _ (by kernel_rfl) (lat_mem (by (repeat (first | exact Ext.refl _ _ | assumption | apply Ext.alloc | apply Ext.drewN | apply Ext.drew | refine Ext.setCell ?_ (fun h => by first | rfl | exact absurd h (by dsimp only; omega)) _)))) ?_
      simp only [pickOps, List.getD_cons_zero, List.getD_cons_succ]
      repeat (go_big_quiet_step (fail))
      refine wpQuiet_nil ?_
      refine mix_loud (i := 15) (by kernel_rfl) rfl (fun K hK => ?_)
      go_simp
      refine hK.out _ _ (lat_mem (by (repeat (first | exact Ext.refl _ _ | assumption | apply Ext.alloc | apply Ext.drewN | apply Ext.drew | refine Ext.setCell ?_ (fun h => by first | rfl | exact absurd h (by dsimp only; omega)) _)))) ?_
      clear hK
      refine mix_batch [16] (by kernel_rfl) 0 _ _ _ (by kernel_rfl) (lat_mem (by (repeat (first | exact Ext.refl _ _ | assumption | apply Ext.alloc | apply Ext.drewN | apply Ext.drew | refine Ext.setCell ?_ (fun h => by first | rfl | exact absurd h (by dsimp only; omega)) _)))) ?_
      simp only [pickOps, List.getD_cons_zero, List.getD_cons_succ]
      repeat (go_big_quiet_step (fail))
      refine wpQuiet_nil ?_
      refine wpAnyH_done (by kernel_rfl) (NoPanic.normal ?_) _
      clear q0 q1 q2 q3 q4 q5 q7 q8
      go_wp2_with fail
      go_meet
      have hsz := hna.size
      have hA' : ∀ k, inA A' k → w.heap.size ≤ k ∧ k < w4.heap.size := fun k hk => by have := ho4.at_ hk; exact ⟨Nat.le_trans hsz this.1, this.2⟩
      have hn5 : New w4 ((w4.alloc (.map #[] 0)).alloc (.cells #[.int .i64 (RP l).came, .int .i64 (RP l).rep, .int .i64 (RP l).reo, .int .i64 (RP l).ext, .int .i64 (RP l).late, .int .i64 (RP l).held, .map (some w4.heap.size), .slice A' n c', .int .i64 (mexOf l)] 55)) := by (repeat (first | exact Ext.refl _ _ | assumption | apply Ext.alloc | apply Ext.drewN | apply Ext.drew | refine Ext.setCell ?_ (fun h => by first | rfl | exact absurd h (by dsimp only; omega)) _))
      have hbk := blk_new (w4.alloc (.map #[] 0)) (.cells #[.int .i64 (RP l).came, .int .i64 (RP l).rep, .int .i64 (RP l).reo, .int .i64 (RP l).ext, .int .i64 (RP l).late, .int .i64 (RP l).held, .map (some w4.heap.size), .slice A' n c', .int .i64 (mexOf l)] 55)
      rw [World.size_alloc] at hbk
      refine ⟨w4.heap.size + 1, w4.heap.size, A', c', rfl, hbk, hsa.new (New.alloc1 _ _), (ho4.new hn5).le (Nat.zero_le _), fun hk => by have := (hA' _ hk).2; omega, fun k hk => (hA' k hk).1, by have := hn04.size; omega, hn04.size, hn04.then hn5⟩
  case rest =>
    obtain ⟨p', b', A', c', rfl, hb0, hset0, hown0, hnp, hA', hp', hb', hn0⟩ := hcut
    obtain ⟨D, hown, hhas, hsize⟩ := h.met.set.new hn0
    have c6 := (blk_cell (hn0.keep h.met.blk) 6).trans rfl
    have d6 := (blk_cell hb0 6).trans rfl
    go_wp2_with (first | (at_range; refine wpList_range_own _ rfl _ 52 rfl 3 70 lawK Try.underlying52 _ b _ _ rfl hown ?_; intro w1 hrg0 hg0 hs0) | go_in)
    go_frame
    have hsz0 := hn0.size
    have hset1 := hset0.keep (S := fun _ => False) (w' := w1) ⟨hg0.os, hg0.tape, hg0.output, hg0.size, fun k hk _ => hg0.block k hk (by simp)⟩ (fun h => h)
    have hn1 : New wc w1 := ⟨hg0.os, hg0.tape, hg0.output, hg0.size, fun k hk _ => hg0.block k hk (by simp)⟩
    obtain ⟨r, hr⟩ : ∃ r, r = wc.heap.size := ⟨_, rfl⟩
    rw [← hr] at hrg0 ⊢
    have hblt := h.met.set.lt
    have hplt := h.met.blk.lt
    have hb'lt := hset0.lt
    have hp'lt := hb0.lt
    have hbp : b ≠ p := fun e => h.met.set.ne h.met.blk e.symm
    have hb'p' : b' ≠ p' := fun e => hset0.ne hb0 e.symm
    have hnb' : ¬ inA A' b' := hown0.notMap hset0
    have hxs : ∀ k ∈ seenOf l, (Lit.int .i64 k).wf = true := fun k hk => by
      have := hm k ((mem_seenOf l k).1 hk)
      exact wf64 (by have := this.1; omega) (by have := this.2; omega)
    have hR0 := hide hr
    have hlr : r < w1.heap.size := by omega
    clear hr
    go_loopw [4] (fun _ wr => ∃ (left : Lit → Bool) (cnt : Nat) (ys : List Int), wr.ranges Try.prog 3 unitElem b r (seenOf l).length D left cnt ∧ ISet wr b' ys ∧ ys.Nodup ∧ (∀ y ∈ ys, y ∈ seenOf l) ∧ (∀ k ∈ seenOf l, left (ki k) = !decide (k ∈ ys)) ∧ Ext (fun k => k = r ∨ k = b') w1 wr)
      (fun _ wr => wr.rangeLeft b r)
    case atStart =>
      exact ⟨_, _, [], hrg0, hset1, List.nodup_nil, by simp, (fun k hk => by rw [hhas k (hxs k hk)]; simp [hk]), Ext.refl _ _⟩
    case round =>
      obtain ⟨left, cnt, ys, hrg, hset, hnd, hsub, hleft, hew⟩ := hrel
      have hr1 : wc.heap.size ≤ r := by have := hR0.out; omega
      have hNr : New w wr := ((hn0.then hn1).to.trans (S := fun k => w.heap.size ≤ k) hew (fun k _ e => by rcases e with e | e <;> omega)).mono (fun k hk h => absurd hk (by omega))
      have hbr : MBk wr p' (RP l).came (RP l).rep (RP l).reo (RP l).ext (RP l).late (RP l).held (.map (some b')) (.slice A' n c') (mexOf l) := hew.keep (hn1.keep hb0) (by omega)
      have hor : Own wr 0 69 2 A' n c' (hcs hs) := (hown0.new hn1).keep hew (fun k hk e => by
        rcases e with e | e
        · have := (hown0.at_ hk).2; omega
        · exact hnb' (e ▸ hk))
      go_wp2_with (first
        | (at_next; refine wpList_next_ranges _ rfl _ rfl 3 lawK unitElem (Value.int .i64) (fun _ : Unit => .agg #[]) (fun key kl hk => by obtain ⟨x, rfl, _⟩ := Maps.keyOf_int_inv Try.underlying3 hk; exact ⟨x, rfl⟩) (fun v y hv => by obtain ⟨rfl, _⟩ := unitElem_inv hv; exact ⟨(), rfl⟩) b r _ D left cnt rfl hrg ?_ ?_)
        | go_in)
      · intro hc0 hl0
        go_wp2
        go_ret
        have hmem : ∀ k, k ∈ ys ↔ k ∈ seenOf l := fun k => ⟨hsub k, fun hk => by
          have h1 := hleft k hk
          rw [hl0] at h1
          by_cases hh : k ∈ ys
          · exact hh
          · rw [decide_eq_false hh] at h1; cases h1⟩
        refine ⟨p', b', A', c', rfl, ⟨⟨hbr, hset.as hmem (nodup_same (nodup_seenOf l) hnd hmem), hor, hnp, h.met.ris⟩, h.hs_, h.le⟩, ?_, hNr⟩
        rintro k (rfl | rfl | hk)
        · exact hp'
        · exact hb'
        · exact hA' k hk
      · intro x c kl y w2 cnt2 hkey hlk hv hat hrg2 hlt hg2 hs2 hen
        obtain ⟨x', ex, rfl, hwx⟩ := Maps.keyOf_int_inv Try.underlying3 hkey
        cases ex
        have hxs : x ∈ seenOf l := by
          have h1 := has_true_of_atKey hat
          have h2 := hhas x hwx
          rw [show ki x = .int .i64 x from rfl, h1] at h2
          exact of_decide_eq_true h2.symm
        have hxy : x ∉ ys := fun hh => by
          have h1 := hleft x hxs
          rw [show ki x = .int .i64 x from rfl, hlk, decide_eq_true hh] at h1
          cases h1
        have he2 : Ext (fun k => k = r) wr w2 := ⟨hg2.os, hg2.tape, hg2.output, hg2.size, fun k hk hs => hg2.block k hk (fun e => hs (Option.some.inj e))⟩
        have hset2 := hset.keep he2 (by omega)
        have hyl : ys.length ≤ 5000 := by
          have h1 := hset.lt
          have := nodup_sub hnd hsub
          have := seenOf_len l
          omega
        obtain ⟨w3, hrun, hset3, he3⟩ := hset2.put hwx hxy (by omega)
        have d6' := (blk_cell (he2.keep hbr (by omega)) 6).trans rfl
        have HX1 := hide hxs
        have HX2 := hide hxy
        clear hxs hxy
        go_wp2_with fail
        have hg3 : w2.grownBy w3 (some b') := ⟨he3.os, he3.tape, he3.output, he3.size, fun k hk hs => he3.block k hk (fun e => hs (by rw [e]))⟩
        have hrg3 := hrg2.kept hg3 (fun e => by have := Option.some.inj e; omega) (fun e => by have := Option.some.inj e; omega)
        refine ⟨⟨_, cnt2, ys ++ [x], hrg3, hset3, ?_, ?_, ?_, (hew.trans he2 (fun k _ e => .inl e)).trans he3 (fun k _ e => .inr e)⟩, ?_⟩
        · exact List.nodup_append.2 ⟨hnd, by simp, fun a ha b hb e => by cases List.mem_singleton.1 hb; exact HX2.out (e ▸ ha)⟩
        · intro y hy
          rcases List.mem_append.1 hy with hy | hy
          · exact hsub y hy
          · cases List.mem_singleton.1 hy; exact HX1.out
        · intro k hk
          show (left (ki k) && !(ki k).sameKey (ki x)) = _
          rw [hleft k hk, ki_same k x (hxs k hk)]
          by_cases h1 : k ∈ ys
          · simp [h1]
          · by_cases h2 : k = x
            · simp [h2]
            · simp [h1, h2]
        · rw [hrg3.left_eq, hrg.left_eq]
          exact hlt
end Go.Proofs.Ytconaojkonjheaa
