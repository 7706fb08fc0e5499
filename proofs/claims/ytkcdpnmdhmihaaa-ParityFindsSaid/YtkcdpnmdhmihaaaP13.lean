/- The law on what is found. -/
import Derived.Test.YtkcdpnmdhmihaaaP12
namespace Go.Proofs.Ytkcdpnmdhmihaaa
open Go.RowKit
set_option maxRecDepth 100000

theorem size_row : (Try.prog.info? 23).map (fun i => i.size) = some 1 := by kernel_rfl
theorem lensOf_mid (l : List (List Int)) (b : List Int) (r : List (List Int)) : lensOf (l ++ b :: r) = lensOf (l ++ r) ^^^ b.length := by
  refine snoc_ind (p := fun r => lensOf (l ++ b :: r) = lensOf (l ++ r) ^^^ b.length) ?_ ?_ r
  · rw [lensOf_snoc, List.append_nil]
  · intro r c ih
    rw [show l ++ b :: (r ++ [c]) = (l ++ b :: r) ++ [c] by simp, lensOf_snoc, ih, ← List.append_assoc, lensOf_snoc, Nat.xor_assoc, Nat.xor_assoc, Nat.xor_comm b.length]
theorem longOf_mid (l : List (List Int)) (b : List Int) (r : List (List Int)) : longOf (l ++ b :: r) = max (longOf (l ++ r)) b.length := by
  refine snoc_ind (p := fun r => longOf (l ++ b :: r) = max (longOf (l ++ r)) b.length) ?_ ?_ r
  · rw [longOf_snoc, List.append_nil]
  · intro r c ih
    rw [show l ++ b :: (r ++ [c]) = (l ++ b :: r) ++ [c] by simp, longOf_snoc, ih, ← List.append_assoc, longOf_snoc]
    omega
theorem x8_swap (a b c : Int) : x8 (x8 a b) c = x8 (x8 a c) b := by
  unfold x8
  simp only [Int.toNat_natCast]
  rw [Nat.xor_assoc, Nat.xor_comm b.toNat, ← Nat.xor_assoc]
theorem atOf_mid (l : List (List Int)) (b : List Int) (r : List (List Int)) (j : Nat) : atOf (l ++ b :: r) j = if j < b.length then x8 (atOf (l ++ r) j) (b.getD j 0) else atOf (l ++ r) j := by
  refine snoc_ind (p := fun r => atOf (l ++ b :: r) j = if j < b.length then x8 (atOf (l ++ r) j) (b.getD j 0) else atOf (l ++ r) j) ?_ ?_ r
  · rw [atOf_snoc, List.append_nil]
  · intro r c ih
    rw [show l ++ b :: (r ++ [c]) = (l ++ b :: r) ++ [c] by simp, atOf_snoc, ih, ← List.append_assoc, atOf_snoc]
    by_cases hc : j < c.length <;> by_cases hb : j < b.length <;> simp only [hc, hb, if_true, if_false]
    exact x8_swap _ _ _
theorem x8_back {a b : Int} (hb : 0 ≤ b) : x8 a (x8 a b) = b := by
  unfold x8
  simp only [Int.toNat_natCast]
  rw [← Nat.xor_assoc, Nat.xor_self, Nat.zero_xor]
  omega
theorem x8_self (a : Int) : x8 a a = 0 := by
  unfold x8
  rw [Nat.xor_self]
  rfl

/-- Whatever piece is lost: it is found. -/
theorem found_again (l r : List (List Int)) (b : List Int) (hB : ∀ x ∈ l ++ b :: r, isB x) (hn : (l ++ b :: r).length ≤ 16) (hl : longOf (l ++ b :: r) ≤ 1024) :
    okA (makeOf (l ++ b :: r)) (l ++ r) ∧ xorN (makeOf (l ++ b :: r)) (l ++ r) = b.length ∧ outOf (makeOf (l ++ b :: r)) (l ++ r) = b := by
  have hm := longOf_mid l b r
  have hbs : b.length ≤ 1024 := by omega
  have hls : lensOf (l ++ b :: r) < 2 ^ 11 := lensOf_lt _ 11 (fun x hx => by have := longOf_ge hx; omega)
  have e0 : (makeOf (l ++ b :: r)).getD 0 0 = ((lensOf (l ++ b :: r) / 256 % 256 : Nat) : Int) := rfl
  have e1 : (makeOf (l ++ b :: r)).getD 1 0 = ((lensOf (l ++ b :: r) % 256 : Nat) : Int) := rfl
  have hx : xorN (makeOf (l ++ b :: r)) (l ++ r) = b.length := by
    unfold xorN
    rw [e0, e1, Int.toNat_natCast, Int.toNat_natCast, show lensOf (l ++ b :: r) / 256 % 256 * 256 + lensOf (l ++ b :: r) % 256 = lensOf (l ++ b :: r) by omega, lensOf_mid, ← Nat.xor_assoc, Nat.xor_self, Nat.zero_xor]
  have hk : (makeOf (l ++ b :: r)).length = longOf (l ++ b :: r) + 2 := makeOf_len _
  have ea : ∀ j, allAt (makeOf (l ++ b :: r)) (l ++ r) j = if j < b.length then b.getD j 0 else 0 := by
    intro j
    unfold allAt
    have : (makeOf (l ++ b :: r)).getD (j + 2) 0 = atOf (l ++ b :: r) j := by
      rw [← foldOf_getD]
      rfl
    rw [this, atOf_mid]
    split
    · exact x8_back ((hB b (by simp)).getD j).1
    · exact x8_self _
  refine ⟨⟨⟨⟨?_, ?_, ?_, ?_⟩, ?_, ?_⟩, fun j h1 h2 => ?_⟩, hx, ?_⟩
  · simp at hn ⊢; omega
  · omega
  · omega
  · omega
  · omega
  · omega
  · rw [hx] at h2
    rw [ea, if_neg (by omega)]
  · unfold outOf
    rw [hx]
    refine List.ext_getElem? (fun j => ?_)
    rw [List.getElem?_map]
    by_cases hj : j < b.length
    · rw [List.getElem?_range hj, Option.map_some, ea, if_pos hj, List.getD_eq_getElem?_getD, List.getElem?_eq_getElem hj]
      rfl
    · rw [List.getElem?_eq_none (by rw [List.length_range]; omega), List.getElem?_eq_none (by omega)]
      rfl

set_option maxHeartbeats 2000000 in
theorem law_finds_walk (A : Option Addr) (n c : Nat) (L : List Pc) (k : Nat) (w : World) (h : Rows w A n c L) (hk : k < 256) :
    Calls Try.prog 4 #[.slice A n c, .int .u8 k] w fun e w' => e = .returned (.bool true) ∧ New w w' := by
  have hcap := h.rd.cap
  go_enter Try.func4, Try.ntmps4
  go_wp2_with fail
  refine (few_any A n c L _ h).mono ?_
  rintro e w1 ⟨A1, c1, rfl, _, hR, hn1⟩
  obtain ⟨L1, hL1⟩ : ∃ L1, L1 = (L.take 20).map cutP := ⟨_, rfl⟩
  rw [← hL1] at hR
  clear hL1
  generalize min n 20 = n1 at *
  go_wp2_with fail
  by_cases hp : isP L1
  · refine (make_yes A1 n1 c1 L1 _ hR hp).mono ?_
    rintro e w2 ⟨Ax, cx, rfl, hox, hn2⟩
    have hlen := hR.len
    have h1n : 1 ≤ n1 := by have := hp.1; omega
    have h16 : n1 ≤ 16 := by have := hp.2.1; omega
    obtain ⟨i, hi⟩ : ∃ i, i = k % n1 := ⟨_, rfl⟩
    have hin : i < n1 := by rw [hi]; exact Nat.mod_lt _ h1n
    have HI := hide hi
    clear hi
    have him : (k : Int).tmod (n1 : Int) = (i : Int) := by rw [HI.out]; rfl
    have hn0 : ¬ n1 = 0 := by omega
    have s1 := run_cut_h (P := Try.prog) 22 23 1 Try.underlying22 size_row A1 n1 c1 i i rfl (by have := hR.rd.cap; omega) .i64
    have s2 := run_cut_l (P := Try.prog) 22 23 1 Try.underlying22 size_row A1 n1 c1 ((i : Int) + 1) (i + 1) (by omega) (by omega) .i64
    have hR2 := hR.new hn2
    go_wp2_with (first | (at_builtin; refine app_row rfl _ _ rfl w2.heap.size rfl rfl (Own.lit0 _ _ _ _ (Nat.le_refl _)) ((hR2.rd.take i (by omega)).new (New.alloc1 _ _)) (by omega) (by simp) ?_; intro A3 c3 w3 ho3 he3 hA3; rw [Nat.zero_add, List.nil_append, Nat.mul_one] at ho3; have hn3 : New w2 w3 := new_lit he3; have hd4 := (hR2.rd.drop (i + 1) (by omega)).new hn3; rw [Nat.mul_one] at hd4) | (at_builtin; refine app_row rfl _ _ rfl w2.heap.size rfl rfl ho3 hd4 (by omega) hn3.size ?_; intro A4 c4 w4 ho4 he4 hA4; have hn4 := new_app0 hn3 ho3 he4))
    rw [← List.map_take, ← List.map_drop, ← List.map_append] at ho4
    obtain ⟨p, hp1⟩ : ∃ p, L1[i]? = some p := ⟨_, List.getElem?_eq_getElem (by omega)⟩
    have hsplit : L1 = L1.take i ++ p :: L1.drop (i + 1) := by
      have h1 := List.take_append_drop i L1
      rw [List.drop_eq_getElem_cons (by omega)] at h1
      have h2 := (List.getElem?_eq_some_iff.1 hp1).2
      rw [h2] at h1
      exact h1.symm
    obtain ⟨La, hLa⟩ : ∃ La, La = L1.take i := ⟨_, rfl⟩
    obtain ⟨Lb, hLb⟩ : ∃ Lb, Lb = L1.drop (i + 1) := ⟨_, rfl⟩
    rw [← hLa, ← hLb] at ho4 hsplit
    have hbs : byt L1 = byt La ++ p.b :: byt Lb := by rw [hsplit]; simp [byt]
    have hbo : byt (La ++ Lb) = byt La ++ byt Lb := by simp [byt]
    obtain ⟨f1, f2, f3⟩ := found_again (byt La) (byt Lb) p.b (by rw [← hbs]; exact hR.allB) (by rw [← hbs, byt_len]; exact hp.2.1) (by rw [← hbs]; exact hp.2.2)
    rw [← hbs, ← hbo] at f1 f2 f3
    have hn24 : New w2 w4 := hn4
    have hR4 : Rows w4 A4 (i + (n1 - (i + 1))) c4 (La ++ Lb) := ⟨ho4.rd, fun q hq => by
      refine (hR2.new hn24).one q ?_
      rw [hsplit]
      rcases List.mem_append.1 hq with hq | hq
      · exact List.mem_append_left _ hq
      · exact List.mem_append_right _ (List.mem_cons_of_mem _ hq)⟩
    have hmB : isB (makeOf (byt L1)) := isB.append (hdOf_b _) (foldOf_b _ hR.allB)
    have HB := hide hbs
    have HO := hide hbo
    have HS := hide hsplit
    have HA := hide hLa
    have HC := hide hLb
    have HP := hide hp1
    clear hbs hbo hsplit hLa hLb hp1 s1 s2 him
    refine (find_any Ax (longOf (byt L1) + 2) cx (makeOf (byt L1)) A4 _ c4 (La ++ Lb) _ (hox.rd.new hn24) hmB hR4).mono ?_
    rintro e w5 ⟨A5, n5, c5, rfl, hr5, hn5⟩
    rw [erF, if_pos f1]
    rw [fdOf, if_pos f1, f3] at hr5
    have hn25 := hn24.then hn5
    obtain ⟨hr6, hB6⟩ := (hR2.new hn25).one p (List.mem_of_getElem? HP.out)
    obtain ⟨ad, hadA⟩ := hR2.rd.some (by omega)
    have hci : w5.cell? (ad.add i) = some (.slice p.a p.n p.c) := by
      have := (hR2.new hn25).rd.cell ad hadA i p.v (by rw [List.getElem?_map, HP.out]; rfl)
      exact this
    have g0 : ∀ x : Lat (fun _ => False) w5, x.W.cell? (ad.add i) = some (.slice p.a p.n p.c) := fun x => (World.cell?_of_block (x.ext.block _ (World.block_lt_of_cell? w5 _ hci) (fun h => h))).trans hci
    have g1 : ∀ x : Lat (fun _ => False) w5, (convert 23 9 (.slice p.a p.n p.c)).run Try.prog x.W = .ok (.string (strOfNums p.b)) x.W := fun x => Str.of (hr6.new x.ext)
    have g2 : ∀ x : Lat (fun _ => False) w5, (convert 23 9 (.slice A5 n5 c5)).run Try.prog x.W = .ok (.string (strOfNums p.b)) x.W := fun x => Str.of (hr5.new x.ext)
    clear f1 f2 f3
    rw [hadA]
    have HAD := hide hadA
    clear hadA
    go_wp2_with fail
    refine mix_start (fun _ => False) w5 (by kernel_rfl) ?_
    refine mix_batch [0, 1, 2, 3, 4, 5, 6, 7, 8, 9, 10, 11, 12] (by kernel_rfl) 3 _ _ _ (by kernel_rfl) (lat_mem (by (repeat (first | exact Ext.refl _ _ | assumption | apply Ext.alloc | apply Ext.drewN | apply Ext.drew | refine Ext.setCell ?_ (fun h => by first | rfl | exact absurd h (by dsimp only; omega)) _)))) ?_
    simp only [pickOps, List.getD_cons_zero, List.getD_cons_succ]
    repeat (go_big_quiet_step (fail))
    refine wpQuiet_nil ?_
    refine mix_loud (i := 13) (by kernel_rfl) rfl (fun K hK => ?_)
    go_simp
    refine (awake_any _).mono ?_
    rintro e w8 ⟨rfl, hn8⟩
    have hn58 : New w5 w8 := New.then (by (repeat (first | exact Ext.refl _ _ | assumption | apply Ext.alloc | apply Ext.drewN | apply Ext.drew | refine Ext.setCell ?_ (fun h => by first | rfl | exact absurd h (by dsimp only; omega)) _))) hn8
    refine hK.out _ _ (lat_mem hn58) (mix_next hn58 (fun _ _ h => h) ?_)
    clear hK
    refine mix_batch [14, 15] (by kernel_rfl) 0 _ _ _ (by kernel_rfl) (lat_mem (by (repeat (first | exact Ext.refl _ _ | assumption | apply Ext.alloc | apply Ext.drewN | apply Ext.drew | refine Ext.setCell ?_ (fun h => by first | rfl | exact absurd h (by dsimp only; omega)) _)))) ?_
    simp only [pickOps, List.getD_cons_zero, List.getD_cons_succ]
    repeat (go_big_quiet_step (fail))
    refine wpQuiet_nil ?_
    refine wpAnyH_done (by kernel_rfl) (NoPanic.normal ?_) _
    clear g0 g1 g2
    go_wp2_with fail
    go_ret
    exact ⟨rfl, hn1.then (hn2.then (hn25.then hn58))⟩
  · refine (make_no A1 n1 c1 L1 _ hR hp).mono ?_
    rintro e w2 ⟨rfl, rfl⟩
    go_wp2_with fail
    refine (is_any A1 n1 c1 L1 _ hR).mono ?_
    rw [decide_eq_false hp]
    rintro e w2 ⟨rfl, rfl⟩
    go_wp2_with fail
    refine (awake_any _).mono ?_
    rintro e w8 ⟨rfl, hn8⟩
    go_wp2_with fail
    go_ret
    exact ⟨rfl, hn1.then hn8⟩

theorem law_finds (A : Option Addr) (n c : Nat) (L : List Pc) (k : Int) (w : World) (h : Rows w A n c L) (_ : True) (hk : (Lit.int .u8 k).wf = true) :
    Calls Try.prog 4 #[.slice A n c, .int .u8 k] w fun e w' => e = .returned (.bool true) ∧ New w w' := by
  have hb := bounds_u8 hk
  obtain ⟨k, rfl⟩ := Int.eq_ofNat_of_zero_le hb.1
  exact law_finds_walk A n c L k w h (by omega)
end Go.Proofs.Ytkcdpnmdhmihaaa
