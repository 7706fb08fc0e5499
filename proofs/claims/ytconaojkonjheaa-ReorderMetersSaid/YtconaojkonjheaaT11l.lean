/- Walks: Lates. -/
import Derived.Test.YtconaojkonjheaaT10
namespace Go.Proofs.Ytconaojkonjheaa
open Go.RowKit Go.Maps
set_option maxRecDepth 100000

set_option maxHeartbeats 1000000 in
theorem Lates_any (A : Option Addr) (n c : Nat) (l : List Int) (w : World) (h : Rd w 1 A n c (vsi l)) :
    Calls Try.prog 14 #[.slice A n c] w fun e w' => ∃ A' m' c', e = .returned (.tuple #[.slice A' m' c', .int .i64 (errL l)]) ∧ Own w' w.heap.size 3 1 A' m' c' (vsi (if mayL l then gs lateF l else [])) ∧ New w w' := by
  have hlen := h.leni
  by_cases hm : mayL l
  · rw [if_pos hm, errL_yes hm]
    have HM := hide hm
    have he0 := hide (errL_yes hm)
    have HL := hide hlen
    have hn4 : n ≤ 4096 := by have := hm.1; omega
    clear hm hlen
    go_enter Try.func14, Try.ntmps14
    go_wp2_with fail
    refine (check_any A n c l _ h).mono ?_
    rintro e w1 ⟨rfl, rfl⟩
    rw [he0.out]
    go_wp2_with fail
    refine (new_any _).mono ?_
    rintro e w1 ⟨p, b, rfl, hms, hp, hb, hn1⟩
    have hR : Bes w w1 p b none 0 0 [] [] none 0 0 [] := ⟨hms, Own.nil _ _ _ _, (fun k hk => absurd hk (inA_none k)), hp, hb, (fun k hk => absurd hk (inA_none k)), hn1⟩
    clear hms hp hb hn1
    go_wp2_with fail
    go_loopw [6, 19] (fun s6 s wr => ∃ k : Nat, k ≤ n ∧ s = .int .i64 (k : Nat) ∧ ∃ A n c hs Ao co, s6 = .slice Ao k co ∧ Bes w wr p b A n c (l.take k) hs Ao k co (gs lateF (l.take k))) (fun _ s _ => n - (intOf s).toNat)
    case atStart => exact ⟨0, Nat.zero_le _, rfl, none, 0, 0, [], none, 0, rfl, hR⟩
    case round =>
      clear hR
      obtain ⟨k, hk, rfl, A1, n1, c1, hs, Ao, co, rfl, hR⟩ := hrel
      by_cases hkn : k < n
      · have d1 : decide ((k : Int) < n) = true := decide_eq_true (by omega)
        have d2 : decide (k < n) = true := decide_eq_true (by omega)
        obtain ⟨ad, rfl⟩ := h.some (by omega)
        obtain ⟨x, hx⟩ : ∃ x, l[k]? = some x := ⟨_, List.getElem?_eq_getElem (by have := HL.out; omega)⟩
        have hcx := (h.new hR.nw).celli hx
        have HX := hide hx
        clear hx
        go_wp2_with fail
        refine (add_ms p b A1 n1 c1 (l.take k) hs x _ hR.ms (HM.out.2 x (List.mem_of_getElem? HX.out)) (fun y hy => HM.out.2 y (List.mem_of_mem_take hy)) (by rw [List.length_take]; omega)).mono ?_
        rintro e w2 ⟨rfl, A2, n2, c2, hs2, hms2, he2, hf2⟩
        have hR2 := hR.add hms2 he2 hf2
        have hsz := hR2.nw.size
        obtain ⟨y, hy⟩ : ∃ y, y = lateF (l.take k) x := ⟨_, rfl⟩
        have HY := hide hy
        rw [← hy]
        clear hy
        go_wp2_with (at_builtin; refine app_i rfl _ _ rfl w.heap.size rfl rfl (hR2.ow.new (New.alloc1 _ _)) (rd_box _ _ _ rfl) (by omega) (by simp; omega) ?_; intro A3 c3 w3 ho3 he3 hA3)
        have ht := take_snoc l k x HX.out
        have hR3 := hR2.app (out' := gs lateF (l.take k) ++ [y]) (by rw [vsi_append]; exact ho3) he3 hA3
        go_roundw
        case rel =>
          refine ⟨k + 1, by omega, by go_num, A2, n2, c2, hs2, A3, c3, rfl, ?_⟩
          rw [ht, gs_snoc, ← HY.out]
          exact hR3
        case measure => simp [intOf]; omega
      · have d1 : decide ((k : Int) < n) = false := decide_eq_false (by omega)
        have d2 : decide (k < n) = false := decide_eq_false (by omega)
        have hkk : k = n := by omega
        have hfin : l.take k = l := List.take_of_length_le (by have := HL.out; omega)
        have HF := hide hfin
        clear hfin hkk
        go_wp2_with fail
        go_ret2
        have := hR.ow
        rw [HF.out] at this
        exact ⟨Ao, k, co, rfl, this, hR.nw⟩
  · rw [if_neg hm]
    have hz : (errL l == 0) = false := by rcases errL_no hm with e | e <;> rw [e] <;> rfl
    clear hm
    go_enter Try.func14, Try.ntmps14
    go_wp2_with fail
    refine (check_any A n c l _ h).mono ?_
    rintro e w1 ⟨rfl, rfl⟩
    go_wp2_with fail
    go_ret2
    exact ⟨none, 0, 0, rfl, Own.nil _ _ _ _, Ext.refl _ _⟩
end Go.Proofs.Ytconaojkonjheaa
