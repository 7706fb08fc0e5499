/- Walks: the document's Lates. -/
import Derived.Test.YtconaojkonjheaaT13
namespace Go.Proofs.Ytconaojkonjheaa
open Go.RowKit Go.Maps
set_option maxRecDepth 100000

set_option maxHeartbeats 1000000 in
theorem rLates_any (A : Option Addr) (n c : Nat) (l : List Int) (w : World) (h : Rd w 1 A n c (vsi l)) :
    Calls Try.prog 15 #[.slice A n c] w fun e w' => ∃ A' m' c', e = .returned (.tuple #[.slice A' m' c', .int .i64 (errL l)]) ∧ Own w' w.heap.size 3 1 A' m' c' (vsi (if mayL l then gs lateF l else [])) ∧ New w w' := by
  have hlen := h.leni
  by_cases hm : mayL l
  · rw [if_pos hm, errL_yes hm]
    have HM := hide hm
    have he0 := hide (errL_yes hm)
    have HL := hide hlen
    have hn4 : n ≤ 4096 := by have := hm.1; omega
    clear hm hlen
    go_enter Try.func15, Try.ntmps15
    go_wp2_with fail
    refine (rcheck_any A n c l _ h).mono ?_
    rintro e w1 ⟨rfl, rfl⟩
    rw [he0.out]
    go_wp2_with fail
    go_loopw [5, 6] (fun s6 s wr => New w wr ∧ ∃ k : Nat, k ≤ n ∧ s = .int .i64 (k : Nat) ∧ ∃ Ao co, s6 = .slice Ao k co ∧ Own wr w.heap.size 3 1 Ao k co (vsi (gs lateF (l.take k)))) (fun _ s _ => n - (intOf s).toNat)
    case atStart => exact ⟨Ext.refl _ _, 0, Nat.zero_le _, rfl, none, 0, rfl, Own.nil _ _ _ _⟩
    case round =>
      obtain ⟨hnw, k, hk, rfl, Ao, co, rfl, ho⟩ := hrel
      by_cases hkn : k < n
      · have d1 : decide ((k : Int) < n) = true := decide_eq_true (by omega)
        have d2 : decide (k < n) = true := decide_eq_true (by omega)
        obtain ⟨x, hx⟩ : ∃ x, l[k]? = some x := ⟨_, List.getElem?_eq_getElem (by have := HL.out; omega)⟩
        have HX := hide hx
        clear hx
        go_wp2_with fail
        refine (rlate_any A n c l k x _ (h.new hnw) HX.out hn4 HM.out.2).mono ?_
        rintro e w2 ⟨rfl, hn2⟩
        have ho2 := ho.new hn2
        have hnw2 := hnw.then hn2
        have hsz := hnw2.size
        obtain ⟨y, hy⟩ : ∃ y, y = lateF (l.take k) x := ⟨_, rfl⟩
        have HY := hide hy
        rw [← hy]
        clear hy
        go_wp2_with (at_builtin; refine app_i rfl _ _ rfl w.heap.size rfl rfl (ho2.new (New.alloc1 _ _)) (rd_box _ _ _ rfl) (by omega) (by simp; omega) ?_; intro A3 c3 w3 ho3 he3 hA3)
        have ht := take_snoc l k x HX.out
        go_roundw
        case rel =>
          refine ⟨(hnw2.then (New.alloc1 _ _)).trans he3 (fun k hk hj => by have := (ho2.at_ hj).1; omega), k + 1, by omega, by go_num, A3, c3, rfl, ?_⟩
          rw [ht, gs_snoc, ← HY.out, vsi_append]
          exact ho3
        case measure => simp [intOf]; omega
      · have d1 : decide ((k : Int) < n) = false := decide_eq_false (by omega)
        have d2 : decide (k < n) = false := decide_eq_false (by omega)
        have hfin : l.take k = l := List.take_of_length_le (by have := HL.out; omega)
        have HF := hide hfin
        clear hfin
        go_wp2_with fail
        go_ret2
        rw [HF.out] at ho
        exact ⟨Ao, k, co, rfl, ho, hnw⟩
  · rw [if_neg hm]
    have hz : (errL l == 0) = false := by rcases errL_no hm with e | e <;> rw [e] <;> rfl
    clear hm
    go_enter Try.func15, Try.ntmps15
    go_wp2_with fail
    refine (rcheck_any A n c l _ h).mono ?_
    rintro e w1 ⟨rfl, rfl⟩
    go_wp2_with fail
    go_ret2
    exact ⟨none, 0, 0, rfl, Own.nil _ _ _ _, Ext.refl _ _⟩
end Go.Proofs.Ytconaojkonjheaa
