/- Walks: a meter's own words: Add, Next, Report; one that nobody made. -/
import Derived.Test.YtconaojkonjheaaT17
namespace Go.Proofs.Ytconaojkonjheaa
open Go.RowKit Go.Maps
set_option maxRecDepth 100000

theorem eql_mapnil (b : Nat) (W : World) : (binOp .eql 52 (.map (some b)) (.map none)).run Try.prog W = .ok (.bool false) W := by
  first | rfl | kernel_rfl | simp [binOp]

theorem eql_mapnil0 (W : World) : (binOp .eql 52 (.map none) (.map none)).run Try.prog W = .ok (.bool true) W := by
  first | rfl | kernel_rfl | simp [binOp]
section
variable {w : World} {p b : Nat} {A : Option Addr} {n c : Nat} {l : List Int} {hs : List (Int × Int)}
theorem none_m (h : MS w p b A n c l hs) : Calls Try.prog 38 #[.pointer (some ⟨p, 0, none⟩)] w fun e w' => e = .returned (.bool false) ∧ w = w' := by
  have c6 := (h.met.blk.c 6).trans rfl
  have kn := eql_mapnil b
  go_enter Try.func38, Try.ntmps38
  go_wp2_with fail
  go_ret
  exact ⟨rfl, rfl⟩
theorem next_m (h : MS w p b A n c l hs) : Calls Try.prog 21 #[.pointer (some ⟨p, 0, none⟩)] w fun e w' => e = .returned (.int .i64 (mexOf l)) ∧ w = w' := by
  have c8 := (h.met.blk.c 8).trans rfl
  go_enter Try.func21, Try.ntmps21
  go_wp2_with fail
  refine (none_m h).mono ?_
  rintro e w1 ⟨rfl, rfl⟩
  go_wp2_with fail
  go_ret
  exact ⟨rfl, rfl⟩
set_option maxHeartbeats 1000000 in
theorem report_m (h : MS w p b A n c l hs) : Calls Try.prog 22 #[.pointer (some ⟨p, 0, none⟩)] w fun e w' => e = .returned (rpV (RP l)) ∧ New w w' := by
  have hw1 := h.new (New.alloc1 w (.cells #[.int .i64 0, .int .i64 0, .int .i64 0, .int .i64 0, .int .i64 0, .int .i64 0] 25))
  have c0 := (hw1.met.blk.c 0).trans rfl
  have c1 := (hw1.met.blk.c 1).trans rfl
  have c2 := (hw1.met.blk.c 2).trans rfl
  have c3 := (hw1.met.blk.c 3).trans rfl
  have c4 := (hw1.met.blk.c 4).trans rfl
  have c5 := (hw1.met.blk.c 5).trans rfl
  go_enter Try.func22, Try.ntmps22
  go_wp2_with fail
  refine (none_m hw1).mono ?_
  rintro e w1 ⟨rfl, rfl⟩
  go_wp2_with fail
  refine bodyPost_ret (v := rpV (RP l)) (by simp [results, Try.results22, go_sem, rpV]) rfl ⟨rfl, by (repeat (first | exact Ext.refl _ _ | assumption | apply Ext.alloc | apply Ext.drewN | apply Ext.drew | refine Ext.setCell ?_ (fun h => by first | rfl | exact absurd h (by dsimp only; omega)) _))⟩
set_option maxHeartbeats 1000000 in
theorem Add_bad (h : MS w p b A n c l hs) (x : Int) (hx : ¬ mayN x) : Calls Try.prog 20 #[.pointer (some ⟨p, 0, none⟩), .int .i64 x] w fun e w' => e = .returned (.tuple #[.int .i64 0, .int .i64 5]) ∧ w = w' := by
  have hd := hide (decide_eq_false hx)
  clear hx
  go_enter Try.func20, Try.ntmps20
  go_wp2_with fail
  refine (none_m h).mono ?_
  rintro e w1 ⟨rfl, rfl⟩
  go_wp2_with fail
  refine (may_any x _).mono ?_
  rintro e w1 ⟨rfl, rfl⟩
  rw [hd.out]
  go_wp2_with fail
  go_ret2
  exact ⟨rfl, rfl⟩
set_option maxHeartbeats 1000000 in
theorem Add_many (h : MS w p b A n c l hs) (x : Int) (hx : mayN x) (hl : 4096 ≤ l.length) (hl2 : l.length ≤ 100000) : Calls Try.prog 20 #[.pointer (some ⟨p, 0, none⟩), .int .i64 x] w fun e w' => e = .returned (.tuple #[.int .i64 0, .int .i64 3]) ∧ w = w' := by
  have hd := hide (decide_eq_true hx)
  have c0 := (h.met.blk.c 0).trans rfl
  rw [(RP_bounds l).1] at c0
  have d1 : decide ((4096 : Int) ≤ l.length) = true := decide_eq_true (by omega)
  have d2 : decide (4096 ≤ l.length) = true := decide_eq_true (by omega)
  clear hx
  go_enter Try.func20, Try.ntmps20
  go_wp2_with fail
  refine (none_m h).mono ?_
  rintro e w1 ⟨rfl, rfl⟩
  go_wp2_with fail
  refine (may_any x _).mono ?_
  rintro e w1 ⟨rfl, rfl⟩
  rw [hd.out]
  go_wp2_with fail
  go_ret2
  exact ⟨rfl, rfl⟩
set_option maxHeartbeats 1000000 in
theorem Add_yes (h : MS w p b A n c l hs) (x : Int) (hx : mayN x) (hl : l.length < 4096) (hm : ∀ y ∈ l, mayN y) : Calls Try.prog 20 #[.pointer (some ⟨p, 0, none⟩), .int .i64 x] w fun e w' => e = .returned (.tuple #[.int .i64 (extF l x), .int .i64 0]) ∧ ∃ A' n' c' hs', MS w' p b A' n' c' (l ++ [x]) hs' ∧ Ext (Tm p b A) w w' ∧ (∀ k, inA A' k → inA A k ∨ w.heap.size ≤ k) := by
  have hd := hide (decide_eq_true hx)
  have hxx := hide hx
  have c0 := (h.met.blk.c 0).trans rfl
  rw [(RP_bounds l).1] at c0
  have d1 : decide ((4096 : Int) ≤ l.length) = false := decide_eq_false (by omega)
  have d2 : decide (4096 ≤ l.length) = false := decide_eq_false (by omega)
  clear hx
  go_enter Try.func20, Try.ntmps20
  go_wp2_with fail
  refine (none_m h).mono ?_
  rintro e w1 ⟨rfl, rfl⟩
  go_wp2_with fail
  refine (may_any x _).mono ?_
  rintro e w1 ⟨rfl, rfl⟩
  rw [hd.out]
  go_wp2_with fail
  refine (add_ms p b A n c l hs x _ h hxx.out hm (by omega)).mono ?_
  rintro e w2 ⟨rfl, hrest⟩
  go_wp2_with fail
  go_ret2
  exact ⟨rfl, hrest⟩
end

/-- No meter, or the zero one. -/
def DeadM (w : World) (q : Option Addr) : Prop := q = none ∨ ∃ p, q = some ⟨p, 0, none⟩ ∧ MBk w p 0 0 0 0 0 0 (.map none) (.slice none 0 0) 0
theorem DeadM.new {w w' : World} {q : Option Addr} (h : DeadM w q) (hn : New w w') : DeadM w' q := by
  rcases h with h | ⟨p, h1, h2⟩
  · exact .inl h
  · exact .inr ⟨p, h1, hn.keep h2⟩
theorem none_dm (q : Option Addr) (w : World) (h : DeadM w q) : Calls Try.prog 38 #[.pointer q] w fun e w' => e = .returned (.bool true) ∧ w = w' := by
  rcases h with rfl | ⟨p, rfl, hb⟩
  · go_enter Try.func38, Try.ntmps38
    go_wp2_with fail
    go_ret
    exact ⟨rfl, rfl⟩
  · have c6 := (hb.c 6).trans rfl
    have kn := eql_mapnil0
    go_enter Try.func38, Try.ntmps38
    go_wp2_with fail
    go_ret
    exact ⟨rfl, rfl⟩
theorem next_dm (q : Option Addr) (w : World) (h : DeadM w q) : Calls Try.prog 21 #[.pointer q] w fun e w' => e = .returned (.int .i64 0) ∧ w = w' := by
  go_enter Try.func21, Try.ntmps21
  go_wp2_with fail
  refine (none_dm q _ h).mono ?_
  rintro e w1 ⟨rfl, rfl⟩
  go_wp2_with fail
  go_ret
  exact ⟨rfl, rfl⟩
theorem add_dm (q : Option Addr) (x : Int) (w : World) (h : DeadM w q) : Calls Try.prog 20 #[.pointer q, .int .i64 x] w fun e w' => e = .returned (.tuple #[.int .i64 0, .int .i64 4]) ∧ w = w' := by
  go_enter Try.func20, Try.ntmps20
  go_wp2_with fail
  refine (none_dm q _ h).mono ?_
  rintro e w1 ⟨rfl, rfl⟩
  go_wp2_with fail
  go_ret2
  exact ⟨rfl, rfl⟩
theorem fork_dm (q : Option Addr) (w : World) (h : DeadM w q) : Calls Try.prog 23 #[.pointer q] w fun e w' => e = .returned (.pointer none) ∧ w = w' := by
  go_enter Try.func23, Try.ntmps23
  go_wp2_with fail
  refine (none_dm q _ h).mono ?_
  rintro e w1 ⟨rfl, rfl⟩
  go_wp2_with fail
  go_ret
  exact ⟨rfl, rfl⟩
theorem report_dm (q : Option Addr) (w : World) (h : DeadM w q) : Calls Try.prog 22 #[.pointer q] w fun e w' => e = .returned (rpV ⟨0, 0, 0, 0, 0, 0⟩) ∧ New w w' := by
  go_enter Try.func22, Try.ntmps22
  go_wp2_with fail
  refine (none_dm q _ (h.new (New.alloc1 _ _))).mono ?_
  rintro e w1 ⟨rfl, rfl⟩
  go_wp2_with fail
  refine bodyPost_ret (v := rpV ⟨0, 0, 0, 0, 0, 0⟩) (by simp [results, Try.results22, go_sem, rpV]) rfl ⟨rfl, by (repeat (first | exact Ext.refl _ _ | assumption | apply Ext.alloc | apply Ext.drewN | apply Ext.drew | refine Ext.setCell ?_ (fun h => by first | rfl | exact absurd h (by dsimp only; omega)) _))⟩

set_option maxHeartbeats 4000000 in
theorem law_nobody_walk (n : Int) (w : World) :
    Calls Try.prog 6 #[.int .i64 n] w fun e w' => e = .returned (.bool true) ∧ New w w' := by
  go_enter Try.func6, Try.ntmps6
  go_wp2_with fail
  obtain ⟨w0, hw0, hb0, hb1, hn0, hs0⟩ := two_new w #[.int .i64 0, .int .i64 0, .int .i64 0, .int .i64 0, .int .i64 0, .int .i64 0, .map none, .slice none 0 0, .int .i64 0] #[.pointer none, .pointer (some ⟨w.heap.size, 0, none⟩)] 55 39
  rw [← hw0]
  have HW := hide hw0
  clear hw0
  obtain ⟨ad, had⟩ : ∃ ad : Addr, ad = ⟨w.heap.size + 1, 0, none⟩ := ⟨_, rfl⟩
  rw [← had]
  have HAD := hide had
  have hadd : ∀ k, ad.add k = ⟨w.heap.size + 1, k, none⟩ := fun k => by rw [had, add_at, Nat.zero_add]
  clear had
  go_loopw [5] (fun s wr => New w0 wr ∧ ∃ k : Nat, k ≤ 2 ∧ s = .int .i64 (k : Nat)) (fun s _ => 2 - (intOf s).toNat)
  case atStart => exact ⟨Ext.refl _ _, 0, by omega, rfl⟩
  case round =>
    obtain ⟨hnw, k, hk, rfl⟩ := hrel
    have hcase : k = 2 ∨ ∃ q, DeadM w0 q ∧ ((k = 0 ∧ q = none) ∨ (k = 1 ∧ q = some ⟨w.heap.size, 0, none⟩)) ∧ w0.cell? (ad.add k) = some (.pointer q) := by
      rw [hadd]
      rcases (show k = 0 ∨ k = 1 ∨ k = 2 by omega) with rfl | rfl | rfl
      · exact .inr ⟨none, .inl rfl, .inl ⟨rfl, rfl⟩, (blk_cell hb1 0).trans rfl⟩
      · exact .inr ⟨_, .inr ⟨_, rfl, hb0⟩, .inr ⟨rfl, rfl⟩, (blk_cell hb1 1).trans rfl⟩
      · exact .inl rfl
    rcases hcase with rfl | ⟨q, hd, hkq, hc⟩
    · go_wp2_with fail
      refine (awake_any _).mono ?_
      rintro e w3 ⟨rfl, hn3⟩
      go_wp2_with fail
      go_ret
      exact ⟨rfl, (hn0.then hnw).then hn3⟩
    · have d1 : decide ((k : Int) < 2) = true := decide_eq_true (by omega)
      have d2 : decide (k < 2) = true := decide_eq_true (by omega)
      have hcr : wr.cell? (ad.add k) = some (.pointer q) := New.cell hnw hc
      have hdr := hd.new hnw
      have hk1 : (k : Int) < 2 := by omega
      have hk2 : k < 2 := by omega
      clear hkq
      clear hadd
      go_wp2_with fail
      refine (add_dm q n _ hdr).mono ?_
      rintro e w2 ⟨rfl, rfl⟩
      go_wp2_with fail
      refine (report_dm q _ hdr).mono ?_
      rintro e w2 ⟨rfl, hn2⟩
      have hcr2 := New.cell hn2 hcr
      have hd2 := hdr.new hn2
      clear hcr
      unfold rpV
      go_wp2_with fail
      refine (next_dm q _ hd2).mono ?_
      rintro e w3 ⟨rfl, rfl⟩
      go_wp2_with fail
      refine (fork_dm q _ hd2).mono ?_
      rintro e w3 ⟨rfl, rfl⟩
      go_wp2_with fail
      exact ⟨⟨hnw.then hn2, k + 1, by omega, by go_num⟩, by simp [intOf]; omega⟩
theorem law_nobody (n : Int) (w : World) (_ : (Lit.int .i64 n).wf = true) :
    Calls Try.prog 6 #[.int .i64 n] w fun e w' => e = .returned (.bool true) ∧ New w w' := law_nobody_walk n w
end Go.Proofs.Ytconaojkonjheaa
