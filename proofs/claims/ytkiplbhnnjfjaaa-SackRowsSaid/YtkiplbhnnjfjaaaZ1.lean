/- Walks: the document's row without a range. -/
import Derived.Test.YtkiplbhnnjfjaaaS12
namespace Go.Proofs.Ytkiplbhnnjfjaaa
set_option linter.unusedVariables false
set_option linter.unusedSimpArgs false
open Go.RowKit
set_option maxRecDepth 100000

theorem info_r : (Try.prog.info? 53).map (fun i => (i.zero, i.size, i.bytes)) = some (some (.agg #[.int .i64 0, .int .i64 0]), 2, 16) := by kernel_rfl
section
variable {ops : Array Oper} {rest : List Oper} {o : Oper} {a : Act} {Q : Exit → Act → World → Prop} {w : World}
theorem app_r (hgd : o.guard = none) (s x : Operand) (ho : o.op = .call { callee := .builtin .append, args := #[s, x], argTypes := #[32, 32] })
    (base : Nat) {A B : Option Addr} {n c m d : Nat} {xs ys : List Value} (hs : a.eval s = .slice A n c) (hx : a.eval x = .slice B m d) (hown : Own w base 53 2 A n c xs) (hr : Rd w 2 B m d ys) (hbytes : (n + m) * 16 ≤ 140737488355328) (hbase : base ≤ w.heap.size)
    (h : ∀ A' c' w', Own w' base 53 2 A' (n + m) c' (xs ++ ys) → Ext (inA A) w w' → (A' = A ∨ A' = some ⟨w.heap.size, 0, none⟩) → wpList Try.prog ops Q rest (a.put o.dst (.slice A' (n + m) c')) w') :
    wpList Try.prog ops Q (o :: rest) a w :=
  wpList_app hgd s x _ ho base 53 (.agg #[.int .i64 0, .int .i64 0]) 2 16 Try.underlying32 info_r rfl (by decide) (by decide) hs hx hown hr hbytes hbase h
end
theorem set2 {w : World} {X : Nat} {cs : Array Value} {t : TypeId} (h : w.heap[X]? = some (.cells cs t)) (hc : cs.size = 2) (a0 a1 : Value) :
    ∃ w', w' = ((w.setCell ⟨X, 0, none⟩ a0).setCell ⟨X, 1, none⟩ a1) ∧ w'.heap[X]? = some (.cells #[a0, a1] t) ∧ Ext (fun j => j = X) w w' := by
  refine ⟨_, rfl, ?_, ?_⟩
  · have h0 := blk_set h 0 a0
    have h1 := blk_set h0 1 a1
    rw [h1]
    clear h0 h1
    obtain ⟨l⟩ := cs
    match l, hc with
    | [c0, c1], _ => rfl
  · exact ((Ext.refl _ w).set (by rfl)).set (by rfl)
theorem cut1_len (a r : Rg) : (cut1 a r).length ≤ 2 := by unfold cut1; split <;> split <;> simp
theorem cuts_len (l : List Rg) (r : Rg) : (cuts l r).length ≤ 2 * l.length := by
  induction l with
  | nil => simp [cuts]
  | cons a t ih =>
    have hc : cuts (a :: t) r = cut1 a r ++ cuts t r := rfl
    rw [hc, List.length_append, List.length_cons]
    have := cut1_len a r
    omega
theorem cuts_snoc (l : List Rg) (x r : Rg) : cuts (l ++ [x]) r = cuts l r ++ cut1 x r := by
  unfold cuts
  rw [List.flatMap_append]
  simp
set_option maxHeartbeats 4000000 in
theorem without_c {A : Option Addr} {n c : Nat} {l : List Rg} {w : World} (h : Rd w 2 A n c (kcs l)) (hn : n ≤ 1000000) (r : Rg) : Calls Try.prog 53 #[.slice A n c, .agg #[.int .i64 r.1, .int .i64 r.2]] w fun e w' => ∃ A' c', e = .returned (.slice A' (cuts l r).length c') ∧ Own w' w.heap.size 53 2 A' (cuts l r).length c' (kcs (cuts l r)) ∧ New w w' := by
  have hl := h.lenk
  have hcap := h.cap
  have htop := h.top
  have HL := hide hl
  clear hl
  have b0 := blk_new w (.cells #[.int .i64 r.1, .int .i64 r.2] 53)
  have hn0 := New.alloc1 w (.cells #[.int .i64 r.1, .int .i64 r.2] 53)
  go_enter Try.func53, Try.ntmps53
  go_upto_region 2 with (fail)
  obtain ⟨w0, hw0⟩ : ∃ v, v = w.alloc (.cells #[.int .i64 r.1, .int .i64 r.2] 53) := ⟨_, rfl⟩
  rw [← hw0] at hn0 b0 ⊢
  clear hw0
  obtain ⟨X, hX⟩ : ∃ X, X = w.heap.size := ⟨_, rfl⟩
  rw [← hX] at b0 ⊢
  clear hX
  have hXl := blk_lt b0
  go_wp2_with fail
  go_loopw [5, 6] (fun s5 s6 wr => New w0 wr ∧ ∃ (k : Nat) (A' : Option Addr) (c' : Nat) (o : List Rg), k ≤ n ∧ s6 = .int .i64 k ∧ o = cuts (l.take k) r ∧ s5 = .slice A' o.length c' ∧ Own wr w0.heap.size 53 2 A' o.length c' (kcs o)) (fun _ i _ => n - (intOf i).toNat)
  case atStart => exact ⟨Ext.refl _ _, 0, none, 0, [], Nat.zero_le _, rfl, rfl, rfl, by simpa [kcs] using Own.nil _ _ _ _⟩
  case round =>
    obtain ⟨hnw, k, A', c', o, hk, rfl, hod, rfl, ho⟩ := hrel
    have hol : o.length ≤ 2 * k := by
      rw [hod]
      have h1 := cuts_len (l.take k) r
      rw [List.length_take] at h1
      omega
    have HOD := hide hod
    clear hod
    by_cases hkn : k < n
    · have d1 : decide ((k : Int) < n) = true := decide_eq_true (by omega)
      have d2 : decide (k < n) = true := decide_eq_true (by omega)
      obtain ⟨ad, rfl⟩ := h.some (by omega)
      obtain ⟨x, hx⟩ : ∃ x, l[k]? = some x := ⟨_, List.getElem?_eq_getElem (by have := HL.out; omega)⟩
      have HNX := hide (show cuts (l.take (k + 1)) r = o ++ cut1 x r by rw [take_snoc l k x hx, cuts_snoc, ← HOD.out])
      have HX := hide hx
      clear hx
      go_wp2_with fail
      have q0 : ∀ y : Lat (fun _ => False) wr, y.W.cell? (ad.add (k * 2)) = some (.int .i64 x.1) := fun y => ((h.new (hn0.then (hnw.then y.ext))).cellk HX.out).1
      have q1 : ∀ y : Lat (fun _ => False) wr, y.W.cell? ⟨(ad.add (k * 2)).block, (ad.add (k * 2)).off + 1, none⟩ = some (.int .i64 x.2) := fun y => ((h.new (hn0.then (hnw.then y.ext))).cellk HX.out).2
      have q2 : ∀ y : Lat (fun _ => False) wr, y.W.cell? ⟨X, 0, none⟩ = some (.int .i64 r.1) := fun y => (blk_cell ((hnw.then y.ext).keep b0) 0).trans rfl
      have q3 : ∀ y : Lat (fun _ => False) wr, y.W.cell? ⟨X, 1, none⟩ = some (.int .i64 r.2) := fun y => (blk_cell ((hnw.then y.ext).keep b0) 1).trans rfl
      refine mix_start (fun _ => False) wr (by kernel_rfl) ?_
      refine mix_batch [0, 1, 2, 3, 4, 5, 6, 7, 8, 9, 10, 11, 12, 13] (by kernel_rfl) 2 _ _ _ (by kernel_rfl) (lat_mem (by (repeat (first | exact Ext.refl _ _ | assumption | apply Ext.alloc | apply Ext.drewN | apply Ext.drew | refine Ext.setCell ?_ (fun h => by first | rfl | exact absurd h (by dsimp only; omega)) _)))) ?_
      simp only [pickOps, List.getD_cons_zero, List.getD_cons_succ]
      repeat (go_big_quiet_step (fail))
      refine wpQuiet_nil ?_
      refine mix_loud (i := 14) (by kernel_rfl) rfl (fun K hK => ?_)
      go_simp
      refine hK.out _ _ (lat_mem (by (repeat (first | exact Ext.refl _ _ | assumption | apply Ext.alloc | apply Ext.drewN | apply Ext.drew | refine Ext.setCell ?_ (fun h => by first | rfl | exact absurd h (by dsimp only; omega)) _)))) ?_
      clear hK
      clear q0 q1 q2 q3
      have bz := blk_new wr (.cells #[.int .i64 0, .int .i64 0] 53)
      have hnz := New.alloc1 wr (.cells #[.int .i64 0, .int .i64 0] 53)
      obtain ⟨w1, hw1⟩ : ∃ v, v = wr.alloc (.cells #[.int .i64 0, .int .i64 0] 53) := ⟨_, rfl⟩
      rw [← hw1] at bz hnz
      rw [← hw1]
      clear hw1
      have r0 := (blk_cell bz 0).trans rfl
      have rf0 := blk_free bz 0
      have r1 := (blk_cell bz 1).trans rfl
      have rf1 := blk_free bz 1
      refine mix_loud (i := 15) (by kernel_rfl) rfl (fun K hK => ?_)
      go_simp
      obtain ⟨w2, hw2, Y2, S2⟩ := set2 bz rfl (.int .i64 x.1) (.int .i64 (min x.2 r.1))
      rw [← hw2]
      have M2 : New wr w2 := hnz.trans S2 (fun j hj e => by rw [show j = wr.heap.size from e] at hj; omega)
      have M2d : New wr w2.drew := M2.then (show New w2 w2.drew by (repeat (first | exact Ext.refl _ _ | assumption | apply Ext.alloc | apply Ext.drewN | apply Ext.drew | refine Ext.setCell ?_ (fun h => by first | rfl | exact absurd h (by dsimp only; omega)) _)))
      refine hK.out _ _ (lat_mem (by first | exact M2 | exact M2d)) ?_
      clear hK hw2 r0 r1 rf0 rf1
      refine wpAnyH_done (by kernel_rfl) (NoPanic.normal ?_) _
      have Y2d : w2.drew.heap[wr.heap.size]? = some (.cells #[.int .i64 x.1, .int .i64 (min x.2 r.1)] 53) := Y2
      obtain ⟨w3, hw3⟩ : ∃ v, v = w2.drew := ⟨_, rfl⟩
      rw [← hw3] at M2d Y2d ⊢
      clear hw3 Y2 S2 M2 bz hnz
      obtain ⟨P, hP⟩ : ∃ P, P = wr.heap.size := ⟨_, rfl⟩
      have hPA : ∀ j, inA A' j → j ≠ P := fun j hj e => by have := (ho.at_ hj).2; omega
      rw [← hP] at Y2d ⊢
      have N3 := hnw.then M2d
      have ho3 := ho.new M2d
      clear hP
      go_wp2_with fail
      have q0 : ∀ y : Lat (fun _ => False) w3, y.W.cell? (ad.add (k * 2)) = some (.int .i64 x.1) := fun y => ((h.new (hn0.then (N3.then y.ext))).cellk HX.out).1
      have q1 : ∀ y : Lat (fun _ => False) w3, y.W.cell? ⟨(ad.add (k * 2)).block, (ad.add (k * 2)).off + 1, none⟩ = some (.int .i64 x.2) := fun y => ((h.new (hn0.then (N3.then y.ext))).cellk HX.out).2
      have q2 : ∀ y : Lat (fun _ => False) w3, y.W.cell? ⟨X, 0, none⟩ = some (.int .i64 r.1) := fun y => (blk_cell ((N3.then y.ext).keep b0) 0).trans rfl
      have q3 : ∀ y : Lat (fun _ => False) w3, y.W.cell? ⟨X, 1, none⟩ = some (.int .i64 r.2) := fun y => (blk_cell ((N3.then y.ext).keep b0) 1).trans rfl
      refine mix_start (fun _ => False) w3 (by kernel_rfl) ?_
      refine mix_batch [0, 1, 2, 3, 4, 5, 6, 7, 8, 9, 10, 11, 12, 13] (by kernel_rfl) 2 _ _ _ (by kernel_rfl) (lat_mem (by (repeat (first | exact Ext.refl _ _ | assumption | apply Ext.alloc | apply Ext.drewN | apply Ext.drew | refine Ext.setCell ?_ (fun h => by first | rfl | exact absurd h (by dsimp only; omega)) _)))) ?_
      simp only [pickOps, List.getD_cons_zero, List.getD_cons_succ]
      repeat (go_big_quiet_step (fail))
      refine wpQuiet_nil ?_
      refine mix_loud (i := 14) (by kernel_rfl) rfl (fun K hK => ?_)
      go_simp
      refine hK.out _ _ (lat_mem (by (repeat (first | exact Ext.refl _ _ | assumption | apply Ext.alloc | apply Ext.drewN | apply Ext.drew | refine Ext.setCell ?_ (fun h => by first | rfl | exact absurd h (by dsimp only; omega)) _)))) ?_
      clear hK
      clear q0 q1 q2 q3
      have bz := blk_new w3 (.cells #[.int .i64 0, .int .i64 0] 53)
      have hnz := New.alloc1 w3 (.cells #[.int .i64 0, .int .i64 0] 53)
      obtain ⟨w4, hw4⟩ : ∃ v, v = w3.alloc (.cells #[.int .i64 0, .int .i64 0] 53) := ⟨_, rfl⟩
      rw [← hw4] at bz hnz
      rw [← hw4]
      clear hw4
      have r0 := (blk_cell bz 0).trans rfl
      have rf0 := blk_free bz 0
      have r1 := (blk_cell bz 1).trans rfl
      have rf1 := blk_free bz 1
      refine mix_loud (i := 15) (by kernel_rfl) rfl (fun K hK => ?_)
      go_simp
      obtain ⟨w5, hw5, Y5, S5⟩ := set2 bz rfl (.int .i64 (max x.1 r.2)) (.int .i64 x.2)
      rw [← hw5]
      have M5 : New w3 w5 := hnz.trans S5 (fun j hj e => by rw [show j = w3.heap.size from e] at hj; omega)
      have M5d : New w3 w5.drew := M5.then (show New w5 w5.drew by (repeat (first | exact Ext.refl _ _ | assumption | apply Ext.alloc | apply Ext.drewN | apply Ext.drew | refine Ext.setCell ?_ (fun h => by first | rfl | exact absurd h (by dsimp only; omega)) _)))
      refine hK.out _ _ (lat_mem (by first | exact M5 | exact M5d)) ?_
      clear hK hw5 r0 r1 rf0 rf1
      refine wpAnyH_done (by kernel_rfl) (NoPanic.normal ?_) _
      have Y5d : w5.drew.heap[w3.heap.size]? = some (.cells #[.int .i64 (max x.1 r.2), .int .i64 x.2] 53) := Y5
      obtain ⟨w6, hw6⟩ : ∃ v, v = w5.drew := ⟨_, rfl⟩
      rw [← hw6] at M5d Y5d ⊢
      clear hw6 Y5 S5 M5 bz hnz
      obtain ⟨Q, hQ⟩ : ∃ Q, Q = w3.heap.size := ⟨_, rfl⟩
      have hQA : ∀ j, inA A' j → j ≠ Q := fun j hj e => by have := (ho3.at_ hj).2; omega
      have hQw : w0.heap.size ≤ Q := by have := N3.size; omega
      rw [← hQ] at Y5d ⊢
      have N6 := N3.then M5d
      have ho6 := ho3.new M5d
      have Y2e := M5d.keep Y2d
      clear hQ ho3 Y2d M5d M2d N3
      have hP0 := (blk_cell Y2e 0).trans rfl
      have hP1 := (blk_cell Y2e 1).trans rfl
      have hQ0 := (blk_cell Y5d 0).trans rfl
      have hQ1 := (blk_cell Y5d 1).trans rfl
      have hsz6 := N6.size
      by_cases c1 : x.1 < min x.2 r.1
      · have e1 : decide (x.1 < min x.2 r.1) = true := decide_eq_true c1
        have hrb := rd_lit w6 53 2 1 #[.int .i64 x.1, .int .i64 (min x.2 r.1)] (by omega) rfl (by simp [Value.oneCell'])
        have hnb := New.alloc1 w6 (.cells #[.int .i64 x.1, .int .i64 (min x.2 r.1)] 53)
        go_upto_region 9 with (at_builtin; refine app_r rfl _ _ rfl w0.heap.size rfl rfl (ho6.new hnb) hrb (by omega) (by have := hnb.size; omega) ?_; intro A7 c7 w7 ho7 he7 hA7)
        have N7 : New w0 w7 := (N6.then hnb).trans he7 (fun j hj hi => by have := (ho6.at_ hi).1; omega)
        have Y5e := he7.keep (hnb.keep Y5d) (fun hi => hQA _ hi rfl)
        clear hP0 hP1 hQ0 hQ1
        have hQ0 := (blk_cell Y5e 0).trans rfl
        have hQ1 := (blk_cell Y5e 1).trans rfl
        by_cases c2 : max x.1 r.2 < x.2
        · have e2 : decide (max x.1 r.2 < x.2) = true := decide_eq_true c2
          have HC := hide (show cut1 x r = [(x.1, min x.2 r.1), (max x.1 r.2, x.2)] by unfold cut1; rw [if_pos c1, if_pos c2]; rfl)
          have hrb2 := rd_lit w7 53 2 1 #[.int .i64 (max x.1 r.2), .int .i64 x.2] (by omega) rfl (by simp [Value.oneCell'])
          have hnb2 := New.alloc1 w7 (.cells #[.int .i64 (max x.1 r.2), .int .i64 x.2] 53)
          clear c1 c2
          go_wp2_with (at_builtin; refine app_r rfl _ _ rfl w0.heap.size rfl rfl (ho7.new hnb2) hrb2 (by omega) (by have := hnb2.size; have := N7.size; omega) ?_; intro A8 c8 w8 ho8 he8 hA8)
          have N8 : New w0 w8 := (N7.then hnb2).trans he8 (fun j hj hi => by have := (ho7.at_ hi).1; omega)
          clear hQ0 hQ1
          go_roundw
          case rel => exact ⟨N8, k + 1, A8, c8, o ++ [(x.1, min x.2 r.1), (max x.1 r.2, x.2)], by omega, by go_num, by rw [HNX.out, HC.out], by simp only [List.length_append, List.length_cons, List.length_nil], by rw [kcs_append]; simpa [kcs] using ho8⟩
          case measure => simp [intOf]; omega
        · have e2 : decide (max x.1 r.2 < x.2) = false := decide_eq_false c2
          have HC := hide (show cut1 x r = [(x.1, min x.2 r.1)] by unfold cut1; rw [if_pos c1, if_neg c2]; rfl)
          clear c1 c2
          go_wp2_with fail
          clear hQ0 hQ1
          go_roundw
          case rel => exact ⟨N7, k + 1, A7, c7, o ++ [(x.1, min x.2 r.1)], by omega, by go_num, by rw [HNX.out, HC.out], by simp only [List.length_append, List.length_cons, List.length_nil], by rw [kcs_append]; simpa [kcs] using ho7⟩
          case measure => simp [intOf]; omega
      · have e1 : decide (x.1 < min x.2 r.1) = false := decide_eq_false c1
        by_cases c2 : max x.1 r.2 < x.2
        · have e2 : decide (max x.1 r.2 < x.2) = true := decide_eq_true c2
          have HC := hide (show cut1 x r = [(max x.1 r.2, x.2)] by unfold cut1; rw [if_neg c1, if_pos c2]; rfl)
          have hrb2 := rd_lit w6 53 2 1 #[.int .i64 (max x.1 r.2), .int .i64 x.2] (by omega) rfl (by simp [Value.oneCell'])
          have hnb2 := New.alloc1 w6 (.cells #[.int .i64 (max x.1 r.2), .int .i64 x.2] 53)
          clear c1 c2
          go_wp2_with (at_builtin; refine app_r rfl _ _ rfl w0.heap.size rfl rfl (ho6.new hnb2) hrb2 (by omega) (by have := hnb2.size; omega) ?_; intro A8 c8 w8 ho8 he8 hA8)
          have N8 : New w0 w8 := (N6.then hnb2).trans he8 (fun j hj hi => by have := (ho6.at_ hi).1; omega)
          clear hP0 hP1 hQ0 hQ1
          go_roundw
          case rel => exact ⟨N8, k + 1, A8, c8, o ++ [(max x.1 r.2, x.2)], by omega, by go_num, by rw [HNX.out, HC.out], by simp only [List.length_append, List.length_cons, List.length_nil], by rw [kcs_append]; simpa [kcs] using ho8⟩
          case measure => simp [intOf]; omega
        · have e2 : decide (max x.1 r.2 < x.2) = false := decide_eq_false c2
          have HC := hide (show cut1 x r = [] by unfold cut1; rw [if_neg c1, if_neg c2]; rfl)
          clear c1 c2
          go_wp2_with fail
          clear hP0 hP1 hQ0 hQ1
          go_roundw
          case rel => exact ⟨N6, k + 1, A', c', o, by omega, by go_num, by rw [HNX.out, HC.out, List.append_nil], rfl, ho6⟩
          case measure => simp [intOf]; omega
    · have d1 : decide ((k : Int) < n) = false := decide_eq_false (by omega)
      have d2 : decide (k < n) = false := decide_eq_false (by omega)
      obtain rfl : k = n := by omega
      have hfin := hide (show cuts l r = o by rw [HOD.out, List.take_of_length_le (by have := HL.out; omega)])
      go_wp2_with fail
      go_ret
      rw [hfin.out]
      exact ⟨A', c', rfl, ho.le hn0.size, hn0.then hnw⟩
end Go.Proofs.Ytkiplbhnnjfjaaa
