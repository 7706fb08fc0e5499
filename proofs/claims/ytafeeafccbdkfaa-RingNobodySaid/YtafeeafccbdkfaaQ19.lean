/- Walks: a ring that nobody made. -/
import Derived.Test.YtafeeafccbdkfaaQ15
namespace Go.Proofs.Ytafeeafccbdkfaa
open Go.RowKit Go.Shelf
attribute [local go_sem] Oper.semAt_some
set_option maxRecDepth 100000

/-- No ring, or the zero one. -/
def Dead (w : World) (q : Option Addr) : Prop := q = none ∨ ∃ p, q = some ⟨p, 0, none⟩ ∧ w.heap[p]? = some (.cells #[.slice none 0 0, .int .i64 0] 60)
theorem Dead.new {w w' : World} {q : Option Addr} (h : Dead w q) (hn : New w w') : Dead w' q := by
  rcases h with h | ⟨p, h1, h2⟩
  · exact .inl h
  · exact .inr ⟨p, h1, hn.keep h2⟩

theorem New.cell {w w' : World} (h : New w w') {a : Addr} {v : Value} (hc : w.cell? a = some v) : w'.cell? a = some v :=
  (World.cell?_of_block (h.block _ (World.block_lt_of_cell? w _ hc) (fun h => h))).trans hc
theorem none_d (q : Option Addr) (w : World) (h : Dead w q) :
    Calls Try.prog 30 #[.pointer q] w fun e w' => e = .returned (.bool true) ∧ w = w' := by
  rcases h with rfl | ⟨p, rfl, hb⟩
  · go_enter Try.func30, Try.ntmps30
    go_wp2
    go_ret
    exact ⟨rfl, rfl⟩
  · have c1 := (blk_cell hb 1).trans rfl
    go_enter Try.func30, Try.ntmps30
    go_wp2
    go_ret
    exact ⟨rfl, rfl⟩
theorem peek_d (q : Option Addr) (i : Int) (w : World) (h : Dead w q) :
    Calls Try.prog 26 #[.pointer q, .int .i64 i] w fun e w' => e = .returned (.tuple #[.int .i64 0, .bool false]) ∧ w = w' := by
  go_enter Try.func26, Try.ntmps26
  go_wp2_with fail
  refine (none_d q _ h).mono ?_
  rintro e w1 ⟨rfl, rfl⟩
  go_wp2_with fail
  go_ret2
  exact ⟨rfl, rfl⟩
theorem pop_d (q : Option Addr) (w : World) (h : Dead w q) :
    Calls Try.prog 25 #[.pointer q] w fun e w' => e = .returned (.tuple #[.int .i64 0, .bool false]) ∧ w = w' := by
  go_enter Try.func25, Try.ntmps25
  go_wp2_with fail
  refine (peek_d q 0 _ h).mono ?_
  rintro e w1 ⟨rfl, rfl⟩
  go_wp2_with fail
  go_ret2
  exact ⟨rfl, rfl⟩
theorem clear_d (q : Option Addr) (w : World) (h : Dead w q) :
    Calls Try.prog 27 #[.pointer q] w fun e w' => e = .returned (.tuple #[]) ∧ w = w' := by
  go_enter Try.func27, Try.ntmps27
  go_wp2_with fail
  refine (none_d q _ h).mono ?_
  rintro e w1 ⟨rfl, rfl⟩
  go_wp2_with fail
  go_end0
  exact ⟨rfl, rfl⟩
theorem push_d (q : Option Addr) (B : Option Addr) (m d : Nat) (w : World) (h : Dead w q) :
    Calls Try.prog 9 #[.pointer q, .slice B m d] w fun e w' => e = .returned (.int .i64 4) ∧ w = w' := by
  go_enter Try.func9, Try.ntmps9
  go_wp2_with fail
  refine (none_d q _ h).mono ?_
  rintro e w1 ⟨rfl, rfl⟩
  go_wp2_with fail
  go_ret
  exact ⟨rfl, rfl⟩
theorem rotate_d (q : Option Addr) (t : Int) (w : World) (h : Dead w q) :
    Calls Try.prog 11 #[.pointer q, .int .i64 t] w fun e w' => e = .returned (.int .i64 0) ∧ w = w' := by
  go_enter Try.func11, Try.ntmps11
  go_wp2_with fail
  refine (none_d q _ h).mono ?_
  rintro e w1 ⟨rfl, rfl⟩
  go_wp2_with fail
  go_ret
  exact ⟨rfl, rfl⟩
theorem drop_d (q : Option Addr) (v : Value) (w : World) (h : Dead w q) :
    Calls Try.prog 28 #[.pointer q, v] w fun e w' => e = .returned (.int .i64 0) ∧ w = w' := by
  go_enter Try.func28, Try.ntmps28
  go_wp2_with fail
  refine (none_d q _ h).mono ?_
  rintro e w1 ⟨rfl, rfl⟩
  go_wp2_with fail
  go_ret
  exact ⟨rfl, rfl⟩
theorem len_d (q : Option Addr) (w : World) (h : Dead w q) :
    Calls Try.prog 23 #[.pointer q] w fun e w' => e = .returned (.int .i64 0) ∧ w = w' := by
  go_enter Try.func23, Try.ntmps23
  go_wp2_with fail
  refine (none_d q _ h).mono ?_
  rintro e w1 ⟨rfl, rfl⟩
  go_wp2_with fail
  go_ret
  exact ⟨rfl, rfl⟩
theorem room_d (q : Option Addr) (w : World) (h : Dead w q) :
    Calls Try.prog 24 #[.pointer q] w fun e w' => e = .returned (.int .i64 0) ∧ w = w' := by
  go_enter Try.func24, Try.ntmps24
  go_wp2_with fail
  refine (none_d q _ h).mono ?_
  rintro e w1 ⟨rfl, rfl⟩
  go_wp2_with fail
  go_ret
  exact ⟨rfl, rfl⟩

theorem all1_d (l b : Nat) (q : Option Addr) (J : List (Nat × Int) → World → Prop) (W : World) (hq : W.cell? ⟨b, 0, none⟩ = some (.pointer q)) (h : Dead W q) (h0 : J [] W) :
    CallsIn Fence.wide 9 Try.prog 43 #[.func (.yield l) #[] #[], .pointer (some ⟨b, 0, none⟩)] W fun e W' => (∃ v, e = .returned v) ∧ J [] W' := by
  refine callsIn_of_wp Try.func43 rfl trivial ?_ rfl
  simp only [Try.ntmps43, List.size_toArray, List.length_cons, List.length_nil, Nat.reduceAdd, Nat.reduceSub, Array.replicate_succ, Array.replicate_zero, List.push_toArray, List.append_toArray, List.nil_append, List.cons_append]
  gi_wp2_with (refine ⟨trivial, ?_⟩; gi_at_call 30; refine (callsIn_wide.2 (none_d q _ h)).mono ?_; rintro e w1 ⟨rfl, rfl⟩)
  refine bodyPost_ret (results_none rfl _ _ _) rfl ?_
  exact ⟨⟨_, rfl⟩, h0⟩
theorem stops_d (b B : Nat) (q : Option Addr) (w : World) (hq : w.cell? ⟨b, 0, none⟩ = some (.pointer q)) (h : Dead w q) :
    SeqStopsK Fence.wide 9 Try.prog 43 #[.pointer (some ⟨b, 0, none⟩)] eni (KpB B w.heap.size) (fun ys => ys = []) (fun pre => pre = []) 0 w := fun l J Jx W hW hJ _ hY h0 => by
  have he : Ext (fun k => w.heap.size ≤ k) w W := Ext.of_below hW
  have hq' : W.cell? ⟨b, 0, none⟩ = some (.pointer q) := (World.cell?_of_block (hW.block b (World.block_lt_of_cell? w _ hq))).trans hq
  have h' : Dead W q := by
    rcases h with h | ⟨p, h1, h2⟩
    · exact .inl h
    · exact .inr ⟨p, h1, he.keep h2 (by have := blk_lt h2; omega)⟩
  refine (all1_d l b q J W hq' h' h0).mono ?_
  rintro e W' ⟨he, hj⟩
  exact ⟨he, .inl ⟨_, rfl, hj⟩⟩

set_option maxHeartbeats 2000000 in
theorem list_d (q : Option Addr) (w : World) (h : Dead w q) :
    Calls Try.prog 22 #[.pointer q] w fun e w' => e = .returned (.slice none 0 0) ∧ New w w' := by
  refine (callsIn_wide (n := 10)).1 ?_
  refine callsIn_of_wp_marks Try.func22 rfl trivial ?_ rfl
  simp only [Try.ntmps22, List.size_toArray, List.length_cons, List.length_nil, Nat.reduceAdd, Nat.reduceSub, Array.replicate_succ, Array.replicate_zero, List.push_toArray, List.append_toArray, List.nil_append, List.cons_append]
  gi_wp2_with (refine ⟨trivial, ?_⟩; gi_at_call 32; refine (callsIn_wide.2 (all_i _ _)).mono ?_; rintro e w1 ⟨rfl, rfl⟩)
  have hb1 : ((w.alloc (.cells #[.slice none 0 0] 22)).alloc (.cells #[.pointer q] 24)).heap[w.heap.size]? = some (.cells #[.slice none 0 0] 22) := blk_alloc (blk_new w _) _
  have hb2 : ((w.alloc (.cells #[.slice none 0 0] 22)).alloc (.cells #[.pointer q] 24)).heap[w.heap.size + 1]? = some (.cells #[.pointer q] 24) := by
    have := blk_new (w.alloc (.cells #[.slice none 0 0] 22)) (.cells #[.pointer q] 24)
    rwa [World.size_alloc] at this
  have hn1 : New w ((w.alloc (.cells #[.slice none 0 0] 22)).alloc (.cells #[.pointer q] 24)) := by (repeat (first | exact Ext.refl _ _ | assumption | apply Ext.alloc | apply Ext.drewN | apply Ext.drew | refine Ext.setCell ?_ (fun h => by first | rfl | exact absurd h (by dsimp only; omega)) _))
  have hs1 : ((w.alloc (.cells #[.slice none 0 0] 22)).alloc (.cells #[.pointer q] 24)).heap.size = w.heap.size + 2 := by simp
  generalize (w.alloc (.cells #[.slice none 0 0] 22)).alloc (.cells #[.pointer q] 24) = w1 at *
  refine wpIn_rangeFunc_ownF rfl (by omega) (gf := 43) (lb := #[.pointer (some ⟨w.heap.size + 1, 0, none⟩)]) rfl trivial (enters_of Try.func43 (by kernel_rfl) rfl)
    (stops_d (w.heap.size + 1) w.heap.size q w1 ((blk_cell hb2 0).trans rfl) (h.new hn1)) (fun h k => h.trans k) (KpB.put (by omega)) (Below.refl _ _) (fun _ => rfl)
    (fun (pre : List (Nat × Int)) W => W.heap[w.heap.size]? = some (.cells #[.slice none 0 0] 22) ∧ Below w.heap.size w1 W) (fun _ _ _ => False)
    (OwnFrom.and (fun s X Y row hs hg hr => cells_grown hs hg (fun r e => (hr r e).2)) (ownFrom_below (by omega) (by omega))) (fun _ _ _ _ _ hs _ _ => hs)
    ⟨hb1, Below.refl _ _⟩
    (fun x => { tmps := #[.pointer q, undef, .slice none 0 0, .pointer (some ⟨w.heap.size, 0, none⟩), undef, .int .i64 x.2, .pointer q, .func (.func 43) #[] #[.pointer (some ⟨w.heap.size + 1, 0, none⟩)], .int .i64 (x.1 : Int), .int .i64 x.2, undef, undef, undef, undef, undef], defers := [] }) ?assign ?body ?done ?stop
  case assign =>
    intro l x W K hK
    unfold eni
    gi_wp2
    exact hK
  case body =>
    rintro l pre x W _ hpl
    exact absurd hpl (Nat.not_lt_zero _)
  case done =>
    rintro D ys W hD rfl ⟨hb, hlow⟩ hK
    have hc0 : W.cell? ⟨w.heap.size, 0, none⟩ = some (.slice none 0 0) := (blk_cell hb 0).trans rfl
    gi_wp2
    refine ⟨by simp, .inl ⟨_, _, rfl, run_takeDeferred hK, ?_⟩⟩
    refine ⟨_, results_tmp rfl _ _ _, rfl, ?_⟩
    exact New.of_below ((hn1.below.trans hlow).trans (belowK_b (w := w) (Nat.le_refl _) W D _ _ (by omega) hK rfl rfl))
  case stop =>
    rintro D c pre W _ _ h _
    exact h.elim

set_option maxHeartbeats 2000000 in
theorem told_d (q : Option Addr) (m : Int) (w : World) (h : Dead w q) :
    Calls Try.prog 13 #[.pointer q, .int .i64 m] w fun e w' => e = .returned (.tuple #[.slice none 0 0, .bool true]) ∧ New w w' := by
  have kn := eql_nilFunc
  refine (callsIn_wide (n := 10)).1 ?_
  refine callsIn_of_wp_marks Try.func13 rfl trivial ?_ rfl
  simp only [Try.ntmps13, List.size_toArray, List.length_cons, List.length_nil, Nat.reduceAdd, Nat.reduceSub, Array.replicate_succ, Array.replicate_zero, List.push_toArray, List.append_toArray, List.nil_append, List.cons_append]
  gi_wp2_with (refine ⟨trivial, ?_⟩; gi_at_call 32; refine (callsIn_wide.2 (all_i _ _)).mono ?_; rintro e w1 ⟨rfl, rfl⟩)
  obtain ⟨w1, hw1⟩ : ∃ w1, w1 = (((w.alloc (.cells #[.int .i64 m] 3)).alloc (.cells #[.pointer q] 24)).alloc (.cells #[.slice none 0 0] 22)).alloc (.cells #[.bool true] 4) := ⟨_, rfl⟩
  have hbq : w1.heap[w.heap.size + 1]? = some (.cells #[.pointer q] 24) := by
    have := blk_alloc (blk_alloc (blk_new (w.alloc (.cells #[.int .i64 m] 3)) (.cells #[.pointer q] 24)) (.cells #[.slice none 0 0] 22)) (.cells #[.bool true] 4)
    rw [hw1]
    simpa [World.size_alloc] using this
  have hbl : w1.heap[w.heap.size + 1 + 1]? = some (.cells #[.slice none 0 0] 22) := by
    have := blk_alloc (blk_new ((w.alloc (.cells #[.int .i64 m] 3)).alloc (.cells #[.pointer q] 24)) (.cells #[.slice none 0 0] 22)) (.cells #[.bool true] 4)
    rw [hw1]
    simpa [World.size_alloc] using this
  have hbk : w1.heap[w.heap.size + 1 + 1 + 1]? = some (.cells #[.bool true] 4) := by
    have := blk_new (((w.alloc (.cells #[.int .i64 m] 3)).alloc (.cells #[.pointer q] 24)).alloc (.cells #[.slice none 0 0] 22)) (.cells #[.bool true] 4)
    rw [hw1]
    simpa [World.size_alloc] using this
  have hn1 : New w w1 := by rw [hw1]; (repeat (first | exact Ext.refl _ _ | assumption | apply Ext.alloc | apply Ext.drewN | apply Ext.drew | refine Ext.setCell ?_ (fun h => by first | rfl | exact absurd h (by dsimp only; omega)) _))
  have hs1 : w1.heap.size = w.heap.size + 4 := by rw [hw1]; simp
  rw [← hw1]
  clear hw1
  refine wpIn_rangeFunc_ownF rfl (by omega) (gf := 43) (lb := #[.pointer (some ⟨w.heap.size + 1, 0, none⟩)]) rfl trivial (enters_of Try.func43 (by kernel_rfl) rfl)
    (stops_d (w.heap.size + 1) (w.heap.size + 1 + 1) q w1 ((blk_cell hbq 0).trans rfl) (h.new hn1)) (fun h k => h.trans k) (KpB.put (by omega)) (Below.refl _ _) (fun _ => rfl)
    (fun (pre : List (Nat × Int)) W => (W.heap[w.heap.size + 1 + 1]? = some (.cells #[.slice none 0 0] 22) ∧ W.heap[w.heap.size + 1 + 1 + 1]? = some (.cells #[.bool true] 4)) ∧ Below w.heap.size w1 W)
    (fun _ _ _ => False)
    (OwnFrom.and (fun s X Y row hs hg hr => ⟨cells_grown hs.1 hg (fun r e => (hr r e).2), cells_grown hs.2 hg (fun r e => (hr r e).2)⟩) (ownFrom_below (by omega) (by omega))) (fun _ _ _ _ _ hs _ _ => hs)
    ⟨⟨hbl, hbk⟩, Below.refl _ _⟩
    (fun x => { tmps := #[.pointer q, .int .i64 m, undef, .pointer (some ⟨w.heap.size, 0, none⟩), .slice none 0 0, .bool false, .func (.func 43) #[] #[.pointer (some ⟨w.heap.size + 1, 0, none⟩)], .pointer (some ⟨w.heap.size + 1 + 1, 0, none⟩), .pointer (some ⟨w.heap.size + 1 + 1 + 1, 0, none⟩), .int .i64 (x.1 : Int), .int .i64 x.2,
      .pointer q, .func (.func 43) #[] #[.pointer (some ⟨w.heap.size + 1, 0, none⟩)], .func (.func 43) #[] #[.pointer (some ⟨w.heap.size + 1, 0, none⟩)], .bool false, .func (.func 43) #[] #[.pointer (some ⟨w.heap.size + 1, 0, none⟩)], .int .i64 (x.1 : Int), .int .i64 x.2,
      undef, undef, undef, undef, undef, undef, undef, undef, undef, undef, undef, undef, undef, undef, undef, undef, undef], defers := [] }) ?assign ?body ?done ?stop
  case assign =>
    intro l x W K hK
    unfold eni
    gi_wp2
    exact hK
  case body =>
    rintro l pre x W _ hpl
    exact absurd hpl (Nat.not_lt_zero _)
  case done =>
    rintro D ys W hD rfl ⟨⟨hb, hk⟩, hlow⟩ hK
    have l0 : W.cell? ⟨w.heap.size + 1 + 1, 0, none⟩ = some (.slice none 0 0) := (blk_cell hb 0).trans rfl
    have k0 : W.cell? ⟨w.heap.size + 1 + 1 + 1, 0, none⟩ = some (.bool true) := (blk_cell hk 0).trans rfl
    gi_wp2
    gi_region
    all_goals gi_wp2
    have hK' : (W.drew).heap[D]? = some (.deferred (some [])) := hK
    refine ⟨by simp, .inl ⟨_, _, rfl, run_takeDeferred hK', ?_⟩⟩
    have he0 : Ext (fun k => k = D) W W.drew := by (repeat (first | exact Ext.refl _ _ | assumption | apply Ext.alloc | apply Ext.drewN | apply Ext.drew | refine Ext.setCell ?_ (fun h => by first | rfl | exact absurd h (by dsimp only; omega)) _))
    refine ⟨_, results_tmp2 rfl _ _ _, rfl, ?_⟩
    exact New.of_below (((hn1.below.trans hlow).trans (he0.below (fun k hk h => by omega) (by have := hlow.size; have := hn1.size; omega))).trans (belowK_b (w := w) (Nat.le_refl _) W.drew D _ _ (by omega) hK' rfl rfl))
  case stop =>
    rintro D c pre W _ _ h _
    exact h.elim

set_option maxHeartbeats 4000000 in
theorem law_nobody_walk (n : Int) (w : World) :
    Calls Try.prog 6 #[.int .i64 n] w fun e w' => e = .returned (.bool true) ∧ New w w' := by
  go_enter Try.func6, Try.ntmps6
  go_wp2_with fail
  obtain ⟨w0, hw0, hb0, hb1, hn0, hs0⟩ := two_new w #[.slice none 0 0, .int .i64 0] #[.pointer none, .pointer (some ⟨w.heap.size, 0, none⟩)] 60 24
  rw [← hw0]
  have HW := hide hw0
  clear hw0
  obtain ⟨ad, had⟩ : ∃ ad : Addr, ad = ⟨w.heap.size + 1, 0, none⟩ := ⟨_, rfl⟩
  rw [← had]
  have HAD := hide had
  have hadd : ∀ k, ad.add k = ⟨w.heap.size + 1, k, none⟩ := fun k => by rw [had, add_at, Nat.zero_add]
  clear had
  go_loopw [5] (fun s wr => New w0 wr ∧ ∃ k : Nat, k ≤ 2 ∧ s = .int .i64 (k : Nat)) (fun s _ => 2 - (intOf s).toNat)
  case atStart => exact ⟨Ext.refl _ _, 0, by omega, rfl⟩
  case round =>
    obtain ⟨hnw, k, hk, rfl⟩ := hrel
    have hcase : k = 2 ∨ ∃ q, Dead w0 q ∧ ((k = 0 ∧ q = none) ∨ (k = 1 ∧ q = some ⟨w.heap.size, 0, none⟩)) ∧ w0.cell? (ad.add k) = some (.pointer q) := by
      rw [hadd]
      rcases (show k = 0 ∨ k = 1 ∨ k = 2 by omega) with rfl | rfl | rfl
      · exact .inr ⟨none, .inl rfl, .inl ⟨rfl, rfl⟩, (blk_cell hb1 0).trans rfl⟩
      · exact .inr ⟨_, .inr ⟨_, rfl, hb0⟩, .inr ⟨rfl, rfl⟩, (blk_cell hb1 1).trans rfl⟩
      · exact .inl rfl
    rcases hcase with rfl | ⟨q, hd, hkq, hc⟩
    · go_wp2_with fail
      refine (awake_any _).mono ?_
      rintro e w3 ⟨rfl, hn3⟩
      go_wp2_with fail
      go_ret
      exact ⟨rfl, (hn0.then hnw).then hn3⟩
    · have d1 : decide ((k : Int) < 2) = true := decide_eq_true (by omega)
      have d2 : decide (k < 2) = true := decide_eq_true (by omega)
      have hcr : wr.cell? (ad.add k) = some (.pointer q) := New.cell hnw hc
      have hdr := hd.new hnw
      have HK := hide hkq
      have hk1 : (k : Int) < 2 := by omega
      have hk2 : k < 2 := by omega
      clear hkq
      clear hadd
      go_wp2_with fail
      refine (pop_d q _ hdr).mono ?_
      rintro e w2 ⟨rfl, rfl⟩
      go_wp2_with fail
      refine (peek_d q 0 _ hdr).mono ?_
      rintro e w2 ⟨rfl, rfl⟩
      go_wp2_with fail
      refine (told_d q 9 _ hdr).mono ?_
      rintro e w2 ⟨rfl, hn2⟩
      have hcr2 := New.cell hn2 hcr
      clear hcr
      go_wp2_with fail
      refine (clear_d q _ (hdr.new hn2)).mono ?_
      rintro e w3 ⟨rfl, rfl⟩
      have hd2 := hdr.new hn2
      go_wp2_with fail
      have r0 : ∀ x : Lat (fun _ => False) w2, x.W.cell? (ad.add k) = some (.pointer q) := fun x => New.cell x.ext hcr2
      clear hcr2
      refine mix_start (fun _ => False) w2 (by kernel_rfl) ?_
      refine mix_batch [0, 1, 2, 3, 4] (by kernel_rfl) 52 _ _ _ (by kernel_rfl) (lat_mem (by (repeat (first | exact Ext.refl _ _ | assumption | apply Ext.alloc | apply Ext.drewN | apply Ext.drew | refine Ext.setCell ?_ (fun h => by first | rfl | exact absurd h (by dsimp only; omega)) _)))) ?_
      simp only [pickOps, List.getD_cons_zero, List.getD_cons_succ]
      repeat (go_big_quiet_step (fail))
      refine wpQuiet_nil ?_
      refine mix_loud (i := 5) (by kernel_rfl) rfl (fun K hK => ?_)
      go_simp
      refine hK.out _ _ (lat_mem (by (repeat (first | exact Ext.refl _ _ | assumption | apply Ext.alloc | apply Ext.drewN | apply Ext.drew | refine Ext.setCell ?_ (fun h => by first | rfl | exact absurd h (by dsimp only; omega)) _)))) ?_
      clear hK
      refine mix_loud (i := 6) (by kernel_rfl) rfl (fun K hK => ?_)
      go_simp
      have h1 : New w2 (w2.alloc (.cells #[.int .i64 n] 3)).drew := by (repeat (first | exact Ext.refl _ _ | assumption | apply Ext.alloc | apply Ext.drewN | apply Ext.drew | refine Ext.setCell ?_ (fun h => by first | rfl | exact absurd h (by dsimp only; omega)) _))
      refine (push_d q _ _ _ _ (hd2.new h1)).mono ?_
      rintro e w3 ⟨rfl, hw3⟩
      subst hw3
      refine hK.out _ _ (lat_mem (by (repeat (first | exact Ext.refl _ _ | assumption | apply Ext.alloc | apply Ext.drewN | apply Ext.drew | refine Ext.setCell ?_ (fun h => by first | rfl | exact absurd h (by dsimp only; omega)) _)))) ?_
      clear hK
      refine mix_batch [7, 8, 9, 10, 11, 12, 13, 14, 15, 16, 17, 18, 19, 20, 21, 22, 23, 24, 25, 26, 27, 28, 30, 31, 32, 33, 36, 37, 38, 39, 42, 43, 44, 45, 48, 49, 50, 51] (by kernel_rfl) 12 _ _ _ (by kernel_rfl) (lat_mem (by (repeat (first | exact Ext.refl _ _ | assumption | apply Ext.alloc | apply Ext.drewN | apply Ext.drew | refine Ext.setCell ?_ (fun h => by first | rfl | exact absurd h (by dsimp only; omega)) _)))) ?_
      simp only [pickOps, List.getD_cons_zero, List.getD_cons_succ]
      repeat (go_big_quiet_step (fail))
      refine wpQuiet_nil ?_
      refine mix_loud (i := 29) (by kernel_rfl) rfl (fun K hK => ?_)
      go_simp
      refine (rotate_d q n _ (hd2.new h1)).mono ?_
      rintro e w3 ⟨rfl, hw3⟩
      subst hw3
      refine hK.out _ _ (lat_mem (by (repeat (first | exact Ext.refl _ _ | assumption | apply Ext.alloc | apply Ext.drewN | apply Ext.drew | refine Ext.setCell ?_ (fun h => by first | rfl | exact absurd h (by dsimp only; omega)) _)))) ?_
      clear hK
      refine mix_loud (i := 34) (by kernel_rfl) rfl (fun K hK => ?_)
      go_simp
      refine (drop_d q _ _ (hd2.new h1)).mono ?_
      rintro e w3 ⟨rfl, hw3⟩
      subst hw3
      refine hK.out _ _ (lat_mem (by (repeat (first | exact Ext.refl _ _ | assumption | apply Ext.alloc | apply Ext.drewN | apply Ext.drew | refine Ext.setCell ?_ (fun h => by first | rfl | exact absurd h (by dsimp only; omega)) _)))) ?_
      clear hK
      refine mix_batch [35] (by kernel_rfl) 9 _ _ _ (by kernel_rfl) (lat_mem (by (repeat (first | exact Ext.refl _ _ | assumption | apply Ext.alloc | apply Ext.drewN | apply Ext.drew | refine Ext.setCell ?_ (fun h => by first | rfl | exact absurd h (by dsimp only; omega)) _)))) ?_
      simp only [pickOps, List.getD_cons_zero, List.getD_cons_succ]
      repeat (go_big_quiet_step (fail))
      refine wpQuiet_nil ?_
      refine mix_loud (i := 40) (by kernel_rfl) rfl (fun K hK => ?_)
      go_simp
      refine (len_d q _ (hd2.new h1)).mono ?_
      rintro e w3 ⟨rfl, hw3⟩
      subst hw3
      refine hK.out _ _ (lat_mem (by (repeat (first | exact Ext.refl _ _ | assumption | apply Ext.alloc | apply Ext.drewN | apply Ext.drew | refine Ext.setCell ?_ (fun h => by first | rfl | exact absurd h (by dsimp only; omega)) _)))) ?_
      clear hK
      refine mix_batch [41] (by kernel_rfl) 7 _ _ _ (by kernel_rfl) (lat_mem (by (repeat (first | exact Ext.refl _ _ | assumption | apply Ext.alloc | apply Ext.drewN | apply Ext.drew | refine Ext.setCell ?_ (fun h => by first | rfl | exact absurd h (by dsimp only; omega)) _)))) ?_
      simp only [pickOps, List.getD_cons_zero, List.getD_cons_succ]
      repeat (go_big_quiet_step (fail))
      refine wpQuiet_nil ?_
      refine mix_loud (i := 46) (by kernel_rfl) rfl (fun K hK => ?_)
      go_simp
      refine (room_d q _ (hd2.new h1)).mono ?_
      rintro e w3 ⟨rfl, hw3⟩
      subst hw3
      refine hK.out _ _ (lat_mem (by (repeat (first | exact Ext.refl _ _ | assumption | apply Ext.alloc | apply Ext.drewN | apply Ext.drew | refine Ext.setCell ?_ (fun h => by first | rfl | exact absurd h (by dsimp only; omega)) _)))) ?_
      clear hK
      refine mix_batch [47] (by kernel_rfl) 5 _ _ _ (by kernel_rfl) (lat_mem (by (repeat (first | exact Ext.refl _ _ | assumption | apply Ext.alloc | apply Ext.drewN | apply Ext.drew | refine Ext.setCell ?_ (fun h => by first | rfl | exact absurd h (by dsimp only; omega)) _)))) ?_
      simp only [pickOps, List.getD_cons_zero, List.getD_cons_succ]
      repeat (go_big_quiet_step (fail))
      refine wpQuiet_nil ?_
      refine mix_loud (i := 52) (by kernel_rfl) rfl (fun K hK => ?_)
      go_simp
      refine (list_d q _ (hd2.new h1)).mono ?_
      rintro e w3 ⟨rfl, hn3⟩
      have h2 := h1.then hn3
      refine hK.out _ _ (lat_mem (by (repeat (first | exact Ext.refl _ _ | assumption | apply Ext.alloc | apply Ext.drewN | apply Ext.drew | refine Ext.setCell ?_ (fun h => by first | rfl | exact absurd h (by dsimp only; omega)) _)))) ?_
      clear hK
      refine mix_batch [53, 54, 55, 56] (by kernel_rfl) 0 _ _ _ (by kernel_rfl) (lat_mem (by (repeat (first | exact Ext.refl _ _ | assumption | apply Ext.alloc | apply Ext.drewN | apply Ext.drew | refine Ext.setCell ?_ (fun h => by first | rfl | exact absurd h (by dsimp only; omega)) _)))) ?_
      simp only [pickOps, List.getD_cons_zero, List.getD_cons_succ]
      repeat (go_big_quiet_step (fail))
      refine wpQuiet_nil ?_
      refine wpAnyH_done (by kernel_rfl) (NoPanic.normal ?_) _
      clear r0
      go_wp2_with fail
      exact ⟨⟨hnw.then (hn2.then h2), k + 1, by omega, by go_num⟩, by simp [intOf]; omega⟩

theorem law_nobody (n : Int) (w : World) (_ : (Lit.int .i64 n).wf = true) :
    Calls Try.prog 6 #[.int .i64 n] w fun e w' => e = .returned (.bool true) ∧ New w w' := law_nobody_walk n w
end Go.Proofs.Ytafeeafccbdkfaa
