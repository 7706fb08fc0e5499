/- Walks: a row cloned; ranges sorted and joined. -/
import Derived.Test.YtkiplbhnnjfjaaaS7
import Derived.Deep.DeepCutAuto
namespace Go.Proofs.Ytkiplbhnnjfjaaa
set_option linter.unusedVariables false
set_option linter.unusedSimpArgs false
open Go.RowKit
set_option maxRecDepth 100000

theorem info_p : (Try.prog.info? 30).map (fun i => (i.zero, i.size, i.bytes)) = some (some (.agg #[.int .i64 0, .int .i64 0]), 2, 16) := by kernel_rfl
theorem size_p : (Try.prog.info? 30).map (fun i => i.size) = some 2 := by kernel_rfl
section
variable {ops : Array Oper} {rest : List Oper} {o : Oper} {a : Act} {Q : Exit → Act → World → Prop} {w : World}
theorem app_p (hgd : o.guard = none) (s x : Operand) (ho : o.op = .call { callee := .builtin .append, args := #[s, x], argTypes := #[23, 23] })
    (base : Nat) {A B : Option Addr} {n c m d : Nat} {xs ys : List Value} (hs : a.eval s = .slice A n c) (hx : a.eval x = .slice B m d) (hown : Own w base 30 2 A n c xs) (hr : Rd w 2 B m d ys) (hbytes : (n + m) * 16 ≤ 140737488355328) (hbase : base ≤ w.heap.size)
    (h : ∀ A' c' w', Own w' base 30 2 A' (n + m) c' (xs ++ ys) → Ext (inA A) w w' → (A' = A ∨ A' = some ⟨w.heap.size, 0, none⟩) → wpList Try.prog ops Q rest (a.put o.dst (.slice A' (n + m) c')) w') :
    wpList Try.prog ops Q (o :: rest) a w :=
  wpList_app hgd s x _ ho base 30 (.agg #[.int .i64 0, .int .i64 0]) 2 16 Try.underlying23 info_p rfl (by decide) (by decide) hs hx hown hr hbytes hbase h
end
set_option maxHeartbeats 400000 in
theorem clone_c (A : Option Addr) (n c : Nat) (xs : List Value) (w : World) (hr : Rd w 2 A n c xs) (hn : n ≤ 1000000) :
    Calls Try.prog 42 #[.slice A n c] w fun e w' => ∃ A' c', e = .returned (.slice A' n c') ∧ Own w' w.heap.size 30 2 A' n c' xs ∧ New w w' := by
  have q1 := fun (W : World) => Lib.run_eql_slice_nil (P := Try.prog) W 23 30 A n c 0 0 Try.underlying23
  go_enter Try.func42, Try.ntmps42
  by_cases hA : A = none
  · have hn0 := hr.n0 hA
    subst hA
    subst hn0
    obtain rfl : xs = [] := List.eq_nil_of_length_eq_zero (by simpa using hr.len)
    go_wp2
    go_ret
    exact ⟨none, 0, rfl, Own.nil _ _ _ _, Ext.refl _ _⟩
  · have hi : A.isNone = false := by cases A <;> simp_all
    go_wp2_with (at_builtin; refine app_p rfl _ _ rfl w.heap.size rfl rfl (Own.lit0 _ _ _ _ (Nat.le_refl _)) (hr.new (New.alloc1 _ _)) (by omega) (by simp) ?_; intro A' c' w' ho he hA')
    go_ret
    exact ⟨A', c', by simp, by simpa using ho, (New.alloc1 _ _).trans he (fun i hi h => by have := (inA_some _ _).1 h; simp at this; omega)⟩
theorem kcs_snoc_set (a : List Rg) (c : Rg) (y : Int) : (kcs (a ++ [c])).set (a.length * 2 + 1) (.int .i64 y) = kcs (a ++ [(c.1, y)]) := by
  rw [kcs_append, kcs_append, List.set_append_right _ _ (by rw [kcs_len]; omega), kcs_len, show a.length * 2 + 1 - a.length * 2 = 1 by omega]
  rfl
theorem join_len (o : List Rg) (r : Rg) : (join o r).length ≤ o.length + 1 := by
  unfold join
  split
  · simp
  · split
    · simp
    · simp
theorem joins_len : ∀ (s o : List Rg), (s.foldl join o).length ≤ o.length + s.length
  | [], o => by simp
  | x :: t, o => by
    have := joins_len t (join o x)
    have := join_len o x
    simp only [List.foldl_cons, List.length_cons]
    omega
theorem snoc_or {α : Type} (l : List α) : l = [] ∨ ∃ a z, l = a ++ [z] := by
  rcases List.eq_nil_or_concat l with h | ⟨a, z, h⟩
  · exact .inl h
  · exact .inr ⟨a, z, by rw [h, List.concat_eq_append]⟩
def joined_ (l : List Rg) : List Rg := (srtd l).foldl join []
set_option maxHeartbeats 2000000 in
theorem row_c (A : Option Addr) (n c : Nat) (l : List Rg) (w : World) (h : Rd w 2 A n c (kcs l)) (hn : n ≤ 1000000) :
    Calls Try.prog 39 #[.slice A n c] w fun e w' => ∃ A' c', e = .returned (.tuple #[.slice A' (bnd (joined_ l)).1.length c', .int .i64 (bnd (joined_ l)).2]) ∧ Own w' w.heap.size 30 2 A' (bnd (joined_ l)).1.length c' (kcs (bnd (joined_ l)).1) ∧ New w w' := by
  have hl := h.lenk
  have HL := hide hl
  clear hl
  go_enter Try.func39, Try.ntmps39
  go_wp2_with fail
  refine (clone_c A n c _ _ h hn).mono ?_
  rintro e w1 ⟨A1, c1, rfl, ho1, hn1⟩
  go_wp2_with fail
  refine (sort_c ho1 hn).mono ?_
  rintro e w2 ⟨rfl, ho2, he2⟩
  have hn2 : New w w2 := hn1.trans he2 (fun k hk hi => by have := (ho1.at_ hi).1; omega)
  have hA1 : ∀ k, inA A1 k → k < w2.heap.size := fun k hk => (ho2.at_ hk).2
  have hR2 := ho2.rd
  have hsl : (srtd l).length = n := by rw [srtd_len, HL.out]
  obtain ⟨s, hs⟩ : ∃ s, s = srtd l := ⟨_, rfl⟩
  have HS := hide (show joined_ l = s.foldl join [] by rw [hs]; rfl)
  rw [← hs] at hR2 hsl
  have HSL := hide hsl
  clear hs hsl ho1 ho2 he2 hn1
  go_wp2_with fail
  go_loopw [5, 15] (fun s5 s15 wr => New w2 wr ∧ ∃ k A' c' o, k ≤ n ∧ s15 = .int .i64 (k : Nat) ∧ o = (s.take k).foldl join [] ∧ s5 = .slice A' o.length c' ∧ Own wr w2.heap.size 30 2 A' o.length c' (kcs o)) (fun _ i _ => n - (intOf i).toNat)
  case atStart => exact ⟨Ext.refl _ _, 0, none, 0, [], Nat.zero_le _, rfl, rfl, rfl, by simpa [kcs] using Own.nil _ _ _ _⟩
  case round =>
    obtain ⟨hnw, k, A', c', o, hk, rfl, hod, rfl, ho⟩ := hrel
    have hol : o.length ≤ k := by
      rw [hod]
      have := joins_len (s.take k) []
      simp only [List.length_nil, List.length_take] at this
      omega
    have HOD := hide hod
    clear hod
    by_cases hkn : k < n
    · have d1 : decide ((k : Int) < n) = true := decide_eq_true (by omega)
      have d2 : decide (k < n) = true := decide_eq_true (by omega)
      obtain ⟨ad, rfl⟩ := hR2.some (by omega)
      obtain ⟨x, hx⟩ : ∃ x, s[k]? = some x := ⟨_, List.getElem?_eq_getElem (by have := HSL.out; omega)⟩
      have hnext : (s.take (k + 1)).foldl join [] = join o x := by rw [foldl_take join [] s k x hx, ← HOD.out]
      have HNX := hide hnext
      have HX := hide hx
      clear hx hnext
      have hRw := hR2.new hnw
      have x0 := (hRw.cellk HX.out).1
      have x1 := (hRw.cellk HX.out).2
      have hszw := hnw.size
      go_upto_region 8 with (fail)
      have bx := blk_new wr (.cells #[.int .i64 x.1, .int .i64 x.2] 30)
      have hnx := New.alloc1 wr (.cells #[.int .i64 x.1, .int .i64 x.2] 30)
      obtain ⟨w3, hw3⟩ : ∃ v, v = wr.alloc (.cells #[.int .i64 x.1, .int .i64 x.2] 30) := ⟨_, rfl⟩
      rw [← hw3] at bx hnx ⊢
      clear hw3 x0 x1
      have ho3 := ho.new hnx
      obtain ⟨X, hX⟩ : ∃ X, X = wr.heap.size := ⟨_, rfl⟩
      rw [← hX] at bx ⊢
      have hXA : ¬ inA A' X := fun hi => by have := (ho.at_ hi).2; omega
      have hXs : wr.heap.size ≤ X := by omega
      clear hX
      rcases snoc_or o with rfl | ⟨a, z, hoa⟩
      · have hJ := hide (show join [] x = [x] from rfl)
        go_quiet (fail)
        have hn4 := new_draw w3 nq
        obtain ⟨w4, hw4⟩ : ∃ v, v = w3.drewN nq := ⟨_, rfl⟩
        rw [← hw4] at hn4 ⊢
        clear hw4
        have ho4 := ho3.new hn4
        have hb4 := hn4.keep bx
        have f0 := (blk_cell hb4 0).trans rfl
        have f1 := (blk_cell hb4 1).trans rfl
        have hs4 : w2.heap.size ≤ w4.heap.size := Nat.le_trans hnw.size (Nat.le_trans hnx.size hn4.size)
        have hrb : Rd (w4.alloc (.cells #[.int .i64 x.1, .int .i64 x.2] 30)) 2 (some ⟨w4.heap.size, 0, none⟩) 1 1 (kcs [x]) := rd_lit w4 30 2 1 #[.int .i64 x.1, .int .i64 x.2] (by omega) rfl (by simp [Value.oneCell'])
        have hnb := New.alloc1 w4 (.cells #[.int .i64 x.1, .int .i64 x.2] 30)
        go_wp2_with (at_builtin; refine app_p rfl _ _ rfl w2.heap.size rfl rfl (ho4.new hnb) hrb (by omega) (by have := hnb.size; omega) ?_; intro A5 c5 w5 ho5 he5 hA5)
        clear f0 f1
        go_roundw
        case rel => exact ⟨((hnw.then hnx).then (hn4.then hnb)).trans he5 (fun j hj hi => by have := (ho4.at_ hi).1; omega), k + 1, A5, c5, [x], by omega, by go_num, by rw [HNX.out, hJ.out], rfl, by simpa [kcs] using ho5⟩
        case measure => simp [intOf]; omega
      · have hoz : o[a.length]? = some z := by rw [hoa]; simp
        have hp : o.length = a.length + 1 := by rw [hoa]; simp
        have hJ := hide (show join o x = if x.1 ≤ z.2 then a ++ [(z.1, max z.2 x.2)] else o ++ [x] by rw [hoa, join_snoc])
        have hst := hide (show ∀ y, (kcs o).set (a.length * 2 + 1) (.int .i64 y) = kcs (a ++ [(z.1, y)]) from fun y => by rw [hoa, kcs_snoc_set])
        rw [hp] at ho3 hol ⊢
        rw [show ((a.length + 1 : Nat) : Int) - 1 = (a.length : Nat) by omega]
        have HP := hide hp
        obtain ⟨ad2, rfl⟩ := ho3.some (by omega)
        have z1 := (ho3.rd.cellk hoz).2
        have f0 := (blk_cell bx 0).trans rfl
        have f1 := (blk_cell bx 1).trans rfl
        have HZ := hide hoz
        clear hoa hoz hp
        have d6 : decide ((0 : Int) ≤ (a.length : Nat)) = true := decide_eq_true (by omega)
        have hlt : (a.length : Int) < (a.length + 1 : Nat) := by omega
        by_cases hle : x.1 ≤ z.2
        · have d5 : decide (x.1 ≤ z.2) = true := decide_eq_true hle
          have HJ := hide (show join o x = a ++ [(z.1, max z.2 x.2)] by rw [hJ.out, if_pos hle])
          clear hle
          go_quiet (fail)
          have hn4 := new_draw w3 nq
          obtain ⟨w4, hw4⟩ : ∃ v, v = w3.drewN nq := ⟨_, rfl⟩
          rw [← hw4] at hn4 ⊢
          clear hw4 z1 f0 f1
          have ho4 := ho3.new hn4
          have hb4 := hn4.keep bx
          have e1 : ad2.add (a.length * 2 + 1) = ⟨(ad2.add (a.length * 2)).block, (ad2.add (a.length * 2)).off + 1, none⟩ := by
            rw [← add_add]
            unfold Addr.add
            rw [if_neg (by omega)]
          have z1 : ∀ y : Lat (fun _ => False) w4, y.W.cell? ⟨(ad2.add (a.length * 2)).block, (ad2.add (a.length * 2)).off + 1, none⟩ = some (.int .i64 z.2) := fun y => ((ho4.new y.ext).rd.cellk HZ.out).2
          have zf : ∀ y : Lat (fun _ => False) w4, y.W.frozen? ⟨(ad2.add (a.length * 2)).block, (ad2.add (a.length * 2)).off + 1, none⟩ = false := fun y => by rw [← e1]; exact (ho4.new y.ext).free _
          have f1 : ∀ y : Lat (fun _ => False) w4, y.W.cell? ⟨X, 1, none⟩ = some (.int .i64 x.2) := fun y => (blk_cell (y.ext.keep hb4 (fun h => h)) 1).trans rfl
          have z1w := z1 ⟨w4.drew, by (repeat (first | exact Ext.refl _ _ | assumption | apply Ext.alloc | apply Ext.drewN | apply Ext.drew | refine Ext.setCell ?_ (fun h => by first | rfl | exact absurd h (by dsimp only; omega)) _))⟩
          have zfw := zf ⟨w4.drew, by (repeat (first | exact Ext.refl _ _ | assumption | apply Ext.alloc | apply Ext.drewN | apply Ext.drew | refine Ext.setCell ?_ (fun h => by first | rfl | exact absurd h (by dsimp only; omega)) _))⟩
          dsimp only at z1w zfw
          have HE := hide e1
          clear e1
          go_wp2_with fail
          refine mixU_start 12 (fun _ => False) w4 (by kernel_rfl) ?_
          refine mixU_batch [0, 1, 2, 3, 4, 5, 6, 7, 8, 9, 10, 11] (by kernel_rfl) 1 _ _ _ (by kernel_rfl) (lat_mem (by (repeat (first | exact Ext.refl _ _ | assumption | apply Ext.alloc | apply Ext.drewN | apply Ext.drew | refine Ext.setCell ?_ (fun h => by first | rfl | exact absurd h (by dsimp only; omega)) _)))) ?_
          simp only [pickOps, List.getD_cons_zero, List.getD_cons_succ]
          repeat (go_big_quiet_step (fail))
          refine wpQuiet_nil ?_
          refine mixU_last (by kernel_rfl) (by kernel_rfl) rfl (fun K hK => ?_)
          go_simp
          refine hK.out _ _ (mixU_after (S' := fun W => ∃ x : Lat (inA (some ad2)) w4, W = x.W) _ _ _ _ (by kernel_rfl) ?_)
          clear hK
          refine wpAnyH_done (by kernel_rfl) (NoPanic.normal ?_) _
          clear z1 zf f1 z1w zfw
          go_wp2_with fail
          go_roundw
          case rel =>
            rw [← HE.out]
            have hs5 : Own (w4.setCell (ad2.add (a.length * 2 + 1)) (.int .i64 (max z.2 x.2))) w2.heap.size 30 2 (some ad2) (a.length + 1) c' (kcs (a ++ [(z.1, max z.2 x.2)])) := by
              have := ho4.set (a.length * 2 + 1) (by rw [kcs_len, HP.out]; omega) (.int .i64 (max z.2 x.2)) rfl
              rwa [hst.out] at this
            have he5 := ho4.ext_set (a.length * 2 + 1) (.int .i64 (max z.2 x.2))
            have hdr : New (w4.setCell (ad2.add (a.length * 2 + 1)) (.int .i64 (max z.2 x.2))) (w4.setCell (ad2.add (a.length * 2 + 1)) (.int .i64 (max z.2 x.2))).drew := by (repeat (first | exact Ext.refl _ _ | assumption | apply Ext.alloc | apply Ext.drewN | apply Ext.drew | refine Ext.setCell ?_ (fun h => by first | rfl | exact absurd h (by dsimp only; omega)) _))
            exact ⟨New.then (((hnw.then hnx).then hn4).trans he5 (fun j hj hi => by have := (ho4.at_ hi).1; omega)) hdr, k + 1, some ad2, c', a ++ [(z.1, max z.2 x.2)], by omega, by go_num, by rw [HNX.out, HJ.out], by rw [List.length_append]; rfl, by rw [List.length_append]; exact hs5.new hdr⟩
          case measure => simp [intOf]; omega
        · have d5 : decide (x.1 ≤ z.2) = false := decide_eq_false hle
          have HJ := hide (show join o x = o ++ [x] by rw [hJ.out, if_neg hle])
          clear hle
          go_quiet (fail)
          have hn4 := new_draw w3 nq
          obtain ⟨w4, hw4⟩ : ∃ v, v = w3.drewN nq := ⟨_, rfl⟩
          rw [← hw4] at hn4 ⊢
          clear hw4 z1 f0 f1
          have ho4 := ho3.new hn4
          have hb4 := hn4.keep bx
          have f0 := (blk_cell hb4 0).trans rfl
          have f1 := (blk_cell hb4 1).trans rfl
          have hs4 : w2.heap.size ≤ w4.heap.size := Nat.le_trans hnw.size (Nat.le_trans hnx.size hn4.size)
          have hrb : Rd (w4.alloc (.cells #[.int .i64 x.1, .int .i64 x.2] 30)) 2 (some ⟨w4.heap.size, 0, none⟩) 1 1 (kcs [x]) := rd_lit w4 30 2 1 #[.int .i64 x.1, .int .i64 x.2] (by omega) rfl (by simp [Value.oneCell'])
          have hnb := New.alloc1 w4 (.cells #[.int .i64 x.1, .int .i64 x.2] 30)
          go_wp2_with (at_builtin; refine app_p rfl _ _ rfl w2.heap.size rfl rfl (ho4.new hnb) hrb (by omega) (by have := hnb.size; omega) ?_; intro A5 c5 w5 ho5 he5 hA5)
          clear f0 f1
          go_roundw
          case rel => exact ⟨((hnw.then hnx).then (hn4.then hnb)).trans he5 (fun j hj hi => by have := (ho4.at_ hi).1; omega), k + 1, A5, c5, o ++ [x], by omega, by go_num, by rw [HNX.out, HJ.out], by rw [List.length_append, HP.out]; rfl, by rw [List.length_append, HP.out, kcs_append]; exact ho5⟩
          case measure => simp [intOf]; omega
    · have d1 : decide ((k : Int) < n) = false := decide_eq_false (by omega)
      have d2 : decide (k < n) = false := decide_eq_false (by omega)
      obtain rfl : k = n := by omega
      have hfin : joined_ l = o := by rw [HS.out, HOD.out, List.take_of_length_le (by have := HSL.out; omega)]
      have HF := hide hfin
      by_cases h256 : 256 < o.length
      · have d3 : decide (256 < (o.length : Int)) = true := decide_eq_true (by omega)
        have d4 : decide (256 < o.length) = true := decide_eq_true (by omega)
        have HB := hide (show bnd o = ([], 3) from if_pos h256)
        clear h256 hfin
        go_wp2_with fail
        go_ret2
        refine ⟨none, 0, ?_⟩
        rw [HF.out, HB.out]
        exact ⟨rfl, by simpa [kcs] using Own.nil _ _ _ _, hn2.then hnw⟩
      · have d3 : decide (256 < (o.length : Int)) = false := decide_eq_false (by omega)
        have d4 : decide (256 < o.length) = false := decide_eq_false (by omega)
        have HB := hide (show bnd o = (o, 0) from if_neg h256)
        clear h256 hfin
        go_wp2_with fail
        go_ret2
        refine ⟨A', c', ?_⟩
        rw [HF.out, HB.out]
        exact ⟨rfl, ho.le hn2.size, hn2.then hnw⟩
end Go.Proofs.Ytkiplbhnnjfjaaa
