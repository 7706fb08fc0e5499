/- Walks: what is printed, in this seat's words. -/
import Derived.Test.YtkiplbhnnjfjaaaS4
namespace Go.Proofs.Ytkiplbhnnjfjaaa
set_option linter.unusedVariables false
set_option linter.unusedSimpArgs false
open Go.RowKit Go.Proofs.YtkiplbhnnjfjaaaW.PrintWords Go.Proofs.YtkiplbhnnjfjaaaW.PrintLast Go.Proofs.YtkiplbhnnjfjaaaW.PrintMore Go.Proofs.Ytkiplbhnnjfjaaa.PP
set_option maxRecDepth 100000

theorem New.of_drawn0 {w w' : World} (h : Drawn0 w w') : New w w' := by
  obtain ⟨n, rfl⟩ := h
  exact new_draw w n
section
variable {A B : Option Addr} {n c m d : Nat} {l k : List Rg} {w : World}
theorem right_c (a b : Int) (w : World) : Calls Try.prog 41 #[.agg #[.int .i64 a, .int .i64 b]] w fun e w' => e = .returned (.bool (decide (One (a, b)))) ∧ New w w' :=
  (sack_Range_right.calls a b _ w (right_v a b)).mono fun _ _ ⟨he, hb⟩ => ⟨he, New.of_below hb⟩
theorem rone_c (a b : Int) (w : World) : Calls Try.prog 47 #[.agg #[.int .i64 a, .int .i64 b]] w fun e w' => e = .returned (.bool (decide (One (a, b)))) ∧ New w w' :=
  (nozzleref34_one.calls a b _ w (one_v a b)).mono fun _ _ ⟨he, hb⟩ => ⟨he, New.of_below hb⟩
theorem check_c (h : Rd w 2 A n c (kcs l)) (hn : n ≤ 1000000) : Calls Try.prog 16 #[.slice A n c] w fun e w' => e = .returned (.int .i64 (chk l)) ∧ New w w' := by
  obtain ⟨h1, h2, h3⟩ := rowP h
  have hl := h.lenk
  have := sack_Check.calls (l.length + 1) A c _ _ w h1 h2 (check_v l (by omega) _ (by omega))
  rw [h3] at this
  exact this.mono fun _ _ ⟨he, hb⟩ => ⟨he, New.of_below hb⟩
theorem rcheck_c (h : Rd w 2 A n c (kcs l)) (hn : n ≤ 1000000) : Calls Try.prog 21 #[.slice A n c] w fun e w' => e = .returned (.int .i64 (chk l)) ∧ New w w' := by
  obtain ⟨h1, h2, h3⟩ := rowR h
  have hl := h.lenk
  have := nozzleref34_Check.calls (l.length + 1) A c _ _ w h1 h2 (rcheck_v l (by omega) _ (by omega))
  rw [h3] at this
  exact this.mono fun _ _ ⟨he, hb⟩ => ⟨he, New.of_below hb⟩
theorem count_c (h : Rd w 2 A n c (kcs l)) (hn : n ≤ 1000000) : Calls Try.prog 24 #[.slice A n c] w fun e w' => e = .returned (.int .i64 (cnt l)) ∧ New w w' := by
  obtain ⟨h1, h2, h3⟩ := rowP h
  have hl := h.lenk
  have hv : sack_Count.f (l.length + 1) (l.map mkP) = some (cnt l) := by
    unfold sack_Count.f
    rw [List.length_map]
    exact count_v l (by omega) l.length 0 (l.length + 1) 0 (by omega) (by omega) (by omega) (by omega) (by unfold tp; omega)
  have := sack_Count.calls (l.length + 1) A c _ _ w h1 h2 hv
  rw [h3] at this
  exact this.mono fun _ _ ⟨he, hb⟩ => ⟨he, New.of_below hb⟩
theorem rcount_c (h : Rd w 2 A n c (kcs l)) (hn : n ≤ 1000000) : Calls Try.prog 25 #[.slice A n c] w fun e w' => e = .returned (.int .i64 (cnt l)) ∧ New w w' := by
  obtain ⟨h1, h2, h3⟩ := rowR h
  have hl := h.lenk
  have := nozzleref34_Count.calls (l.length + 1) A c _ _ w h1 h2 (rcount_v l (by omega) l.length 0 (l.length + 1) 0 (by omega) (by omega) (by omega) (by omega) (by unfold tp; omega))
  rw [h3] at this
  exact this.mono fun _ _ ⟨he, hb⟩ => ⟨he, New.of_below hb⟩
theorem rhas_c (h : Rd w 2 A n c (kcs l)) (hn : n ≤ 1000000) (x : Int) : Calls Try.prog 23 #[.slice A n c, .int .i64 x] w fun e w' => e = .returned (.bool (decide (Hs l x))) ∧ New w w' := by
  obtain ⟨h1, h2, h3⟩ := rowR h
  have hl := h.lenk
  have := nozzleref34_Has.calls (l.length + 1) A c _ x _ w h1 h2 (rhas_v l x (by omega) l.length 0 (l.length + 1) (by omega) (by omega) (by omega))
  rw [h3] at this
  exact this.mono fun _ _ ⟨he, hb⟩ => ⟨he, New.of_drawn0 hb⟩
theorem of_c (h : Rd w 2 A n c (kcs l)) (hn : n ≤ 1000000) : Calls Try.prog 19 #[.slice A n c] w fun e w' => ∃ A' c', e = .returned (.slice A' n c') ∧ Own w' w.heap.size 30 2 A' n c' (kcs l) ∧ New w w' := by
  obtain ⟨h1, h2, h3⟩ := rowR h
  have hl := h.lenk
  have := nozzlelaw34_of.calls (l.length + 1) A c _ _ w h1 h2 (of_v l (by omega) l.length 0 (l.length + 1) [] (by omega) (by omega) (by omega) (by simp))
  rw [h3] at this
  refine this.mono fun _ _ ⟨v, he, hr, hb⟩ => ?_
  obtain ⟨A', c', rfl, ho⟩ := ownP hr
  rw [show (([] : List Rg) ++ List.drop 0 l).length = n by simpa using hl] at he ho
  exact ⟨A', c', he, ho, New.of_below hb⟩
theorem back_c (h : Rd w 2 A n c (kcs l)) (hn : n ≤ 1000000) : Calls Try.prog 14 #[.slice A n c] w fun e w' => ∃ A' c', e = .returned (.slice A' n c') ∧ Own w' w.heap.size 53 2 A' n c' (kcs l) ∧ New w w' := by
  obtain ⟨h1, h2, h3⟩ := rowP h
  have hl := h.lenk
  have := nozzlelaw34_back.calls (l.length + 1) A c _ _ w h1 h2 (back_v l (by omega) l.length 0 (l.length + 1) [] (by omega) (by omega) (by omega) (by simp))
  rw [h3] at this
  refine this.mono fun _ _ ⟨v, he, hr, hb⟩ => ?_
  obtain ⟨A', c', rfl, ho⟩ := ownR hr
  rw [show (([] : List Rg) ++ List.drop 0 l).length = n by simpa using hl] at he ho
  exact ⟨A', c', he, ho, New.of_below hb⟩
theorem with_c (h : Rd w 2 A n c (kcs l)) (hn : n ≤ 1000000) (r : Rg) : Calls Try.prog 43 #[.slice A n c, .agg #[.int .i64 r.1, .int .i64 r.2]] w fun e w' => ∃ A' c', e = .returned (.slice A' (put1 l r).length c') ∧ Own w' w.heap.size 53 2 A' (put1 l r).length c' (kcs (put1 l r)) ∧ New w w' := by
  obtain ⟨h1, h2, h3⟩ := rowR h
  have hl := h.lenk
  have := nozzleref34_with.calls (2 * l.length + 4) A c _ r.1 r.2 _ w h1 h2 (with_v l (by omega) r _ (by omega))
  rw [h3] at this
  refine this.mono fun _ _ ⟨v, he, hr, hb⟩ => ?_
  obtain ⟨A', c', rfl, ho⟩ := ownR hr
  exact ⟨A', c', he, ho, New.of_below hb⟩
theorem minus_c (h : Rd w 2 A n c (kcs l)) (g : Rd w 2 B m d (kcs k)) (hn : n ≤ 1000) (hm : m ≤ 1000) : Calls Try.prog 52 #[.slice A n c, .slice B m d] w fun e w' => ∃ A' c', e = .returned (.slice A' (mnus l k).length c') ∧ Own w' w.heap.size 30 2 A' (mnus l k).length c' (kcs (mnus l k)) ∧ New w w' := by
  obtain ⟨h1, h2, h3⟩ := rowP h
  obtain ⟨g1, g2, g3⟩ := rowP g
  have hl := h.lenk
  have gl := g.lenk
  have := sack_minus.calls (1000 * 2003 + 1) A c _ B d _ _ w h1 h2 g1 g2 (minus_v l k (by omega) (by omega) _ (by omega))
  rw [h3, g3] at this
  refine this.mono fun _ _ ⟨v, he, hr, hb⟩ => ?_
  obtain ⟨A', c', rfl, ho⟩ := ownP hr
  exact ⟨A', c', he, ho, New.of_below hb⟩
theorem rof_c (A : Option Addr) (n c : Nat) (xs : List Int) (w : World) (h : Rd w 1 A n c (xs.map (Value.int .i64))) (hn : n ≤ 1000) : Calls Try.prog 12 #[.slice A n c] w fun e w' => ∃ A' c', e = .returned (.tuple #[.slice A' (ofR xs).1.length c', .int .i64 (ofR xs).2]) ∧ Own w' w.heap.size 53 2 A' (ofR xs).1.length c' (kcs (ofR xs).1) ∧ New w w' := by
  obtain ⟨h1, h2, h3⟩ := rowN h
  have := nozzleref34_Of.calls 10000 A c xs _ _ w h1 h2 (rof_v xs (by omega))
  rw [h3] at this
  refine this.mono fun _ _ ⟨v, he, hr, hb⟩ => ?_
  obtain ⟨A', c', rfl, ho⟩ := ownR hr
  exact ⟨A', c', he, ho, New.of_below hb⟩
theorem sameInts_c (A : Option Addr) (n c : Nat) (xs : List Int) (B : Option Addr) (m d : Nat) (ys : List Int) (w : World) (h : Rd w 1 A n c (xs.map (Value.int .i64))) (g : Rd w 1 B m d (ys.map (Value.int .i64))) (hn : n ≤ 1000000) : Calls Try.prog 22 #[.slice A n c, .slice B m d] w fun e w' => e = .returned (.bool (decide (xs = ys))) ∧ New w w' := by
  obtain ⟨h1, h2, h3⟩ := rowN h
  obtain ⟨g1, g2, g3⟩ := rowN g
  have := nozzleref04_SameInts.calls (xs.length + 1) A c xs B d ys _ w h1 h2 g1 g2 (sameInts_v xs ys (by omega) _ (by omega))
  rw [h3, g3] at this
  exact this.mono fun _ _ ⟨he, hb⟩ => ⟨he, New.of_drawn0 hb⟩
end
end Go.Proofs.Ytkiplbhnnjfjaaa
