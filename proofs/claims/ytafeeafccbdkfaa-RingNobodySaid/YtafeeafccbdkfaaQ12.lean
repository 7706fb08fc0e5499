/- The law on what the iterator yields. -/
import Derived.Test.YtafeeafccbdkfaaQ11
namespace Go.Proofs.Ytafeeafccbdkfaa
open Go.RowKit
set_option maxRecDepth 100000

def rotZ (n : Nat) (t : Int) : Nat := if n = 0 then 0 else rotK n t
theorem rotL_zero {α : Type} (xs : List α) : rotL xs 0 = xs := by simp [rotL]
theorem rotate_any (p : Nat) (A : Option Addr) (n c : Nat) (xs : List Int) (room : Nat) (t : Int) (w : World) (h : Rngi w p A n c xs room) (ht : (Lit.int .i64 t).wf = true) :
    Calls Try.prog 11 #[.pointer (some ⟨p, 0, none⟩), .int .i64 t] w fun e w' => ∃ A' c', e = .returned (.int .i64 (rotZ n t)) ∧ Rngi w' p A' n c' (rotL xs (rotZ n t)) room ∧ Ext (Tch p A) w w' ∧ Frs w A A' := by
  unfold rotZ
  by_cases hn : n = 0
  · subst hn
    refine (rotate_no p A c xs room t w h).mono ?_
    rintro e w' ⟨rfl, rfl⟩
    rw [if_pos rfl, rotL_zero]
    exact ⟨A, c, rfl, h, Ext.refl _ _, fun k hk => .inl hk⟩
  · rw [if_neg hn]
    exact rotate_yes p A n c xs room t w h (by omega) ht
theorem rrot_any (A : Option Addr) (n c : Nat) (xs : List Int) (N : Int) (t : Int) (w : World) (h : Rd w 1 A n c (vsi xs)) (hn4 : n ≤ 4096) (ht : (Lit.int .i64 t).wf = true) :
    Calls Try.prog 12 #[.agg #[.slice A n c, .int .i64 N], .int .i64 t] w fun e w' => ∃ A' c', e = .returned (.tuple #[.agg #[.slice A' n c', .int .i64 N], .int .i64 (rotZ n t)]) ∧ Rd w' 1 A' n c' (vsi (rotL xs (rotZ n t))) ∧ New w w' ∧ (0 < n → ∀ k, inA A' k → w.heap.size ≤ k) := by
  unfold rotZ
  by_cases hn : n = 0
  · subst hn
    refine (rrot_no A c N t w).mono ?_
    rintro e w' ⟨rfl, hn⟩
    rw [if_pos rfl, rotL_zero]
    exact ⟨A, c, rfl, h.new hn, hn, fun h0 => absurd h0 (by omega)⟩
  · rw [if_neg hn]
    refine (rrot_yes A n c xs N t w h (by omega) hn4 ht).mono ?_
    rintro e w' ⟨A', c', rfl, ho, hn⟩
    exact ⟨A', c', rfl, ho.rd, hn, fun _ k hk => (ho.at_ hk).1⟩

theorem told_lit (p : Nat) (A : Option Addr) (n c : Nat) (xs : List Int) (room : Nat) (r : Int) (m : Nat) (w : World) (e : r = m) (hring : Rngi w p A n c xs room) :
    Calls Try.prog 13 #[.pointer (some ⟨p, 0, none⟩), .int .i64 r] w fun e w' => ∃ A' n' c', e = .returned (.tuple #[.slice A' n' c', .bool true]) ∧ Own w' w.heap.size 3 1 A' n' c' (vsi (xs.take m)) ∧ New w w' := by
  subst e
  exact told_any p A n c xs room m w hring

set_option maxHeartbeats 2000000 in
theorem law_yields_walk (A : Option Addr) (n c : Nat) (l : List Int) (m : Nat) (t : Int) (w : World) (h : Rd w 1 A n c (vsi l)) (hm : m < 256) (ht : (Lit.int .i64 t).wf = true) :
    Calls Try.prog 3 #[.slice A n c, .int .u8 m, .int .i64 t] w fun e w' => e = .returned (.bool true) ∧ New w w' := by
  obtain ⟨k, hk⟩ : ∃ k, k = min n 20 := ⟨_, rfl⟩
  have hkn : k ≤ n := by omega
  have hk20 : k ≤ 20 := by omega
  have HK := hide hk
  clear hk
  go_enter Try.func3, Try.ntmps3
  go_wp2_with fail
  refine (short_any A n c k _ h.cap HK.out).mono ?_
  rintro e w1 ⟨rfl, rfl⟩
  have hb := h.takei k hkn
  generalize l.take k = b at *
  go_wp2_with fail
  refine (new_lit_i 20 20 _ rfl (by omega) (by omega)).mono ?_
  rintro e w2 ⟨rfl, hr2, hn2⟩
  go_wp2_with fail
  refine (push_i _ none 0 0 [] 20 A k c b _ hr2 (hb.new hn2) (by omega)).mono ?_
  rintro e w3 ⟨A3, c3, rfl, hr3, he3, hf3⟩
  go_wp2_with fail
  refine (awake_any _).mono ?_
  rintro e w4 ⟨rfl, hn4⟩
  go_wp2_with fail
  simp only [Nat.zero_add, List.nil_append] at hr3
  have hr4 := hr3.new (hn4.then (New.alloc1 w4 (.cells #[.slice A k c, .int .i64 20] 31)))
  refine (rotate_any _ A3 k c3 b 20 t _ hr4 ht).mono ?_
  rintro e w5 ⟨A5, c5, rfl, hr5, he5, hf5⟩
  have hw3p := hr3.lt
  have hw34 := hn4.size
  have hbx : w5.heap[w4.heap.size]? = some (.cells #[.slice A k c, .int .i64 20] 31) := he5.keep (blk_new w4 _) (fun hk => by
    rcases hk with e | hk
    · omega
    · have := (hr3.own.at_ hk).2; omega)
  have c0 : w5.cell? ⟨w4.heap.size, 0, none⟩ = some (.slice A k c) := (blk_cell hbx 0).trans rfl
  have c1 : w5.cell? ⟨w4.heap.size, 1, none⟩ = some (.int .i64 20) := (blk_cell hbx 1).trans rfl
  have f0 := blk_free hbx 0
  have f1 := blk_free hbx 1
  have q3 : Ext (fun k => w.heap.size ≤ k) w w3 := hn2.to.trans (he3.mono (tch_ge (fun k hk => absurd hk (inA_none k)))) (fun _ _ h => h)
  have q4 : Ext (fun k => w.heap.size ≤ k) w (w4.alloc (.cells #[.slice A k c, .int .i64 20] 31)) := (q3.trans hn4.to (fun _ _ h => h)).alloc _
  have q5 := q4.trans (he5.mono (tch_ge (fun k hk => by have := (hr3.own.at_ hk).1; omega))) (fun _ _ h => h)
  have N5 : New w w5 := q5.mono (fun k hk h => absurd hk (by omega))
  clear q3 q4 q5
  go_wp2_with fail
  refine (rrot_any A k c b 20 t _ (hb.new N5) (by omega) ht).mono ?_
  rintro e w6 ⟨A6, c6, rfl, hr6, hn6, hf6⟩
  clear c0 c1 f0 f1
  have hbx6 := hn6.keep hbx
  have c0 : w6.cell? ⟨w4.heap.size, 0, none⟩ = some (.slice A k c) := (blk_cell hbx6 0).trans rfl
  have c1 : w6.cell? ⟨w4.heap.size, 1, none⟩ = some (.int .i64 20) := (blk_cell hbx6 1).trans rfl
  have f0 := blk_free hbx6 0
  have f1 := blk_free hbx6 1
  go_wp2_with fail
  clear c0 c1 f0 f1
  have hr6' := hr5.new hn6
  have hsx : Ext (fun j => j = w4.heap.size) w6 ((w6.setCell ⟨w4.heap.size, 0, none⟩ (.slice A6 k c6)).setCell ⟨w4.heap.size, 1, none⟩ (.int .i64 20)) := ((Ext.refl _ w6).set (by rfl)).set (by rfl)
  have hbx7 := blk_set (blk_set hbx6 0 (.slice A6 k c6)) 1 (.int .i64 20)
  generalize (w6.setCell ⟨w4.heap.size, 0, none⟩ (.slice A6 k c6)).setCell ⟨w4.heap.size, 1, none⟩ (.int .i64 20) = w7 at *
  have hr7 := hr6'.keep hsx (by omega) (fun j hj e => by
    subst e
    rcases hf5 _ hj with hj | hj
    · have := (hr3.own.at_ hj).2; omega
    · simp at hj; omega)
  refine (told_lit _ A5 k c5 _ 20 100 100 _ rfl hr7).mono ?_
  rintro e w8 ⟨A8, n8, c8, rfl, ho8, hn8⟩
  go_wp2_with fail
  refine (told_any _ A5 k c5 _ 20 m _ (hr7.new hn8)).mono ?_
  rintro e w9 ⟨A9, n9, c9, rfl, ho9, hn9⟩
  have hn79 := hn8.then hn9
  have hbx9 := hn79.keep hbx7
  have c0 : w9.cell? ⟨w4.heap.size, 0, none⟩ = some (.slice A6 k c6) := (blk_cell hbx9 0).trans rfl
  have hlen6 : (rotL b (rotZ k t)).length = k := hr6.leni
  have N9 : New w w9 := ((N5.then hn6).to.trans (hsx.mono (fun j _ e => by have := hr2.lt; omega)) (fun _ _ h => h) : Ext (fun j => w.heap.size ≤ j) w w7).trans hn79.to (fun _ _ h => h) |>.mono (fun j hj h => absurd hj (by omega))
  have hr69 : Rd w9 1 A6 k c6 (vsi (rotL b (rotZ k t))) := by
    by_cases h0 : 0 < k
    · exact (hr6.keep hsx (fun j hj e => by have := hf6 h0 j hj; have := blk_lt hbx; omega)).new hn79
    · have hk0 : k = 0 := by omega
      exact ⟨hr6.len, hr6.cap, hr6.top, hr6.none_, hr6.one, fun ad e j u hu => by
        have := (List.getElem?_eq_some_iff.1 hu).1
        have := hr6.len
        omega⟩
  have ha9 : Rd w9 1 A8 n8 c8 (vsi ((rotL b (rotZ k t)).take 100)) := ho8.rd.new hn9
  rw [List.take_of_length_le (by omega)] at ha9
  clear c0
  have c0 : w9.cell? ⟨w4.heap.size, 0, none⟩ = some (.slice A6 k c6) := (blk_cell hbx9 0).trans rfl
  have HL6 := hide hlen6
  clear hlen6
  go_wp2_with fail
  refine (same_any A8 A6 _ _ _ _ _ _ _ ha9 hr69).mono ?_
  rintro e w10 ⟨rfl, nd, rfl⟩
  rw [decide_eq_true rfl]
  by_cases hmk : m < k
  · have d1 : decide ((m : Int) < k) = true := decide_eq_true (by omega)
    have d2 : decide (m < k) = true := decide_eq_true hmk
    have s1 := run_cut_h (P := Try.prog) 22 3 1 Try.underlying22 size_i A6 k c6 m m rfl (by have := hr6.cap; omega) .i64
    go_wp2_with fail
    refine (same_any A9 A6 _ _ _ _ _ _ _ (ho9.rd.new (new_draw w9 nd)) ((hr69.takei m (by omega)).new (new_draw w9 nd))).mono ?_
    rintro e w10 ⟨rfl, nd2, rfl⟩
    rw [decide_eq_true rfl]
    go_wp2_with fail
    go_ret
    exact ⟨rfl, N9.then (by (repeat (first | exact Ext.refl _ _ | assumption | apply Ext.alloc | apply Ext.drewN | apply Ext.drew | refine Ext.setCell ?_ (fun h => by first | rfl | exact absurd h (by dsimp only; omega)) _)))⟩
  · have d1 : decide ((m : Int) < k) = false := decide_eq_false (by omega)
    have d2 : decide (m < k) = false := decide_eq_false hmk
    have s1 := run_cut_h (P := Try.prog) 22 3 1 Try.underlying22 size_i A6 k c6 k k rfl (by have := hr6.cap; omega) .i64
    go_wp2_with fail
    refine (same_any A9 A6 _ _ _ _ _ _ _ (ho9.rd.new (new_draw w9 nd)) (hr69.new (new_draw w9 nd))).mono ?_
    rintro e w10 ⟨rfl, nd2, rfl⟩
    rw [decide_eq_true (List.take_of_length_le (by rw [HL6.out]; omega))]
    go_wp2_with fail
    go_ret
    exact ⟨rfl, N9.then (by (repeat (first | exact Ext.refl _ _ | assumption | apply Ext.alloc | apply Ext.drewN | apply Ext.drew | refine Ext.setCell ?_ (fun h => by first | rfl | exact absurd h (by dsimp only; omega)) _)))⟩

theorem law_yields (A : Option Addr) (n c : Nat) (l : List Int) (m t : Int) (w : World) (h : Rd w 1 A n c (l.map (Value.int .i64))) (_ : ∀ x ∈ l, (Lit.int .i64 x).wf = true) (_ : n * 8 ≤ 140737488351232) (hm : (Lit.int .u8 m).wf = true) (ht : (Lit.int .i64 t).wf = true) :
    Calls Try.prog 3 #[.slice A n c, .int .u8 m, .int .i64 t] w fun e w' => e = .returned (.bool true) ∧ New w w' := by
  have hb := bounds_u8 hm
  obtain ⟨m, rfl⟩ := Int.eq_ofNat_of_zero_le hb.1
  exact law_yields_walk A n c l m t w h (by omega) ht
end Go.Proofs.Ytafeeafccbdkfaa
