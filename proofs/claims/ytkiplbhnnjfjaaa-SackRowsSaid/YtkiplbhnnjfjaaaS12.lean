/- Walks: the program's Of, Add, Minus, Gaps, First. -/
import Derived.Test.YtkiplbhnnjfjaaaS11
namespace Go.Proofs.Ytkiplbhnnjfjaaa
set_option linter.unusedVariables false
set_option linter.unusedSimpArgs false
open Go.RowKit
set_option maxRecDepth 100000

set_option maxHeartbeats 800000 in
theorem min_c (A B : Option Addr) (n c m d : Nat) (a b : List Rg) (w : World) (h : Rd w 2 A n c (kcs a)) (g : Rd w 2 B m d (kcs b)) (hn : n ≤ 1000) (hm : m ≤ 1000) :
    Calls Try.prog 31 #[.slice A n c, .slice B m d] w (Res2 (minP a b) w) := by
  have hrl := rd_lit w 23 1 2 #[.slice A n c, .slice B m d] (by omega) rfl (by simp [Value.oneCell'])
  have hnl := New.alloc1 w (.cells #[.slice A n c, .slice B m d] 23)
  have hl := h.lenk
  have gl := g.lenk
  have hlen : (mnus a b).length ≤ 1000000000 → (mnus a b).length ≤ 1000000000 := id
  clear hlen
  have HL := hide hl
  have GL := hide gl
  clear hl gl
  go_enter Try.func31, Try.ntmps31
  go_wp2_with fail
  refine (checked2_c _ _ A B n c m d a b _ hrl (h.new hnl) (g.new hnl) (by omega) (by omega)).mono ?_
  rintro e w1 ⟨rfl, hn1⟩
  by_cases hz : chk2 a b = 0
  · have HU := hide (show minP a b = bnd (joined_ (mnus a b)) from if_pos hz)
    have hlen : (mnus a b).length ≤ 256 * 257 := by
      obtain ⟨h1, h2⟩ := chk2_zero hz
      have h3 := (chk_zero h1).1
      have h4 := (chk_zero h2).1
      have h5 : ∀ (a : List Rg), (mnus a b).length ≤ a.length * (b.length + 1) := by
        intro a
        induction a with
        | nil => simp [mnus]
        | cons r t ih =>
          have := mns_len r.2 r.1 b
          have hc : mnus (r :: t) b = mns r.2 r.1 b ++ mnus t b := rfl
          rw [hc, List.length_append, List.length_cons, Nat.succ_mul]
          omega
      exact Nat.le_trans (h5 a) (Nat.mul_le_mul h3 (by omega))
    rw [hz]
    clear hz
    have hN := hnl.then hn1
    go_wp2_with fail
    refine (minus_c (h.new hN) (g.new hN) hn hm).mono ?_
    rintro e w2 ⟨A2, c2, rfl, ho2, hn2⟩
    go_wp2_with fail
    refine (row_r ho2.rd (by omega)).mono ?_
    rintro e w3 ⟨A3, c3, rfl, hr3, hn3⟩
    go_wp2_with fail
    go_ret2
    rw [HU.out]
    exact ⟨A3, c3, rfl, hr3, hN.then (hn2.then hn3)⟩
  · have HU := hide (show minP a b = ([], chk2 a b) from if_neg hz)
    have e1 : (chk2 a b != 0) = true := by simpa using hz
    generalize chk2 a b = x at *
    clear hz
    go_wp2_with fail
    go_ret2
    rw [HU.out]
    exact Res2.none x (hnl.then hn1)
set_option maxHeartbeats 800000 in
theorem gap_c (A : Option Addr) (n c : Nat) (l : List Rg) (r : Rg) (w : World) (h : Rd w 2 A n c (kcs l)) (hn : n ≤ 1000) :
    Calls Try.prog 33 #[.slice A n c, .agg #[.int .i64 r.1, .int .i64 r.2]] w (Res2 (gapP l r) w) := by
  have hl := h.lenk
  have HL := hide hl
  clear hl
  have hlen : (mnus [r] l).length ≤ n + 1 := by
    have := mns_len r.2 r.1 l
    have hc : mnus [r] l = mns r.2 r.1 l ++ [] := rfl
    rw [hc, List.append_nil, ← HL.out]
    exact this
  have hn0 := New.alloc1 w (.cells #[.int .i64 r.1, .int .i64 r.2] 30)
  have b0 := blk_new w (.cells #[.int .i64 r.1, .int .i64 r.2] 30)
  go_enter Try.func33, Try.ntmps33
  go_upto_region 1 with (fail)
  obtain ⟨w0, hw0⟩ : ∃ v, v = w.alloc (.cells #[.int .i64 r.1, .int .i64 r.2] 30) := ⟨_, rfl⟩
  rw [← hw0] at hn0 b0 ⊢
  clear hw0
  have hrl := rd_lit w0 23 1 1 #[.slice A n c] (by omega) rfl (by simp [Value.oneCell'])
  have hnl := New.alloc1 w0 (.cells #[.slice A n c] 23)
  go_wp2_with fail
  refine (checked1_c _ _ A n c l _ hrl ((h.new hn0).new hnl) (by omega)).mono ?_
  rintro e w1 ⟨rfl, hn1⟩
  have hN := hn0.then (hnl.then hn1)
  have b1 := (hnl.then hn1).keep b0
  by_cases hz : chk l = 0
  · have HU := hide (show gapP l r = if One r then bnd (joined_ (mnus [r] l)) else ([], 5) from if_pos hz)
    rw [hz]
    clear hz
    have c0 := (blk_cell b1 0).trans rfl
    have c1 := (blk_cell b1 1).trans rfl
    go_wp2_with fail
    refine (right_c r.1 r.2 _).mono ?_
    rintro e w2 ⟨rfl, hn2⟩
    have b2 := hn2.keep b1
    clear c0 c1
    have hN2 := hN.then hn2
    by_cases hr : One (r.1, r.2)
    · have HV := hide (HU.out.trans (if_pos (show One r from hr)))
      rw [decide_eq_true hr]
      clear hr
      have c0 := (blk_cell b2 0).trans rfl
      have c1 := (blk_cell b2 1).trans rfl
      have hrb := rd_lit w2 30 2 1 #[.int .i64 r.1, .int .i64 r.2] (by omega) rfl (by simp [Value.oneCell'])
      have hnb := New.alloc1 w2 (.cells #[.int .i64 r.1, .int .i64 r.2] 30)
      go_wp2_with fail
      refine (minus_c (l := [r]) (by simpa [kcs] using hrb) ((h.new hN2).new hnb) (by omega) hn).mono ?_
      rintro e w3 ⟨A2, c2, rfl, ho2, hn3⟩
      clear c0 c1
      go_wp2_with fail
      refine (row_r ho2.rd (by omega)).mono ?_
      rintro e w4 ⟨A3, c3, rfl, hr3, hn4⟩
      go_wp2_with fail
      go_ret2
      rw [HV.out]
      exact ⟨A3, c3, rfl, hr3, hN2.then (hnb.then (hn3.then hn4))⟩
    · have HV := hide (HU.out.trans (if_neg (show ¬ One r from hr)))
      rw [decide_eq_false hr]
      clear hr
      go_wp2_with fail
      go_ret2
      rw [HV.out]
      exact Res2.none 5 hN2
  · have HU := hide (show gapP l r = ([], chk l) from if_neg hz)
    have e1 : (chk l != 0) = true := by simpa using hz
    generalize chk l = x at *
    clear hz
    go_wp2_with fail
    go_ret2
    rw [HU.out]
    exact Res2.none x hN
set_option maxHeartbeats 1600000 in
theorem add_c (A : Option Addr) (n c : Nat) (l : List Rg) (r : Rg) (w : World) (h : Rd w 2 A n c (kcs l)) (hn : n ≤ 1000) :
    Calls Try.prog 11 #[.slice A n c, .agg #[.int .i64 r.1, .int .i64 r.2]] w (Res2 (addP l r) w) := by
  have hn0 := New.alloc1 w (.cells #[.int .i64 r.1, .int .i64 r.2] 30)
  have b0 := blk_new w (.cells #[.int .i64 r.1, .int .i64 r.2] 30)
  go_enter Try.func11, Try.ntmps11
  go_upto_region 1 with (fail)
  obtain ⟨w0, hw0⟩ : ∃ v, v = w.alloc (.cells #[.int .i64 r.1, .int .i64 r.2] 30) := ⟨_, rfl⟩
  rw [← hw0] at hn0 b0 ⊢
  clear hw0
  have hrl := rd_lit w0 23 1 1 #[.slice A n c] (by omega) rfl (by simp [Value.oneCell'])
  have hnl := New.alloc1 w0 (.cells #[.slice A n c] 23)
  go_wp2_with fail
  refine (checked1_c _ _ A n c l _ hrl ((h.new hn0).new hnl) (by omega)).mono ?_
  rintro e w1 ⟨rfl, hn1⟩
  have hN := hn0.then (hnl.then hn1)
  have b1 := (hnl.then hn1).keep b0
  by_cases hz : chk l = 0
  · have HU := hide (show addP l r = if One r then bnd (joined_ (l ++ [r])) else ([], 5) from if_pos hz)
    rw [hz]
    clear hz
    have c0 := (blk_cell b1 0).trans rfl
    have c1 := (blk_cell b1 1).trans rfl
    go_wp2_with fail
    refine (right_c r.1 r.2 _).mono ?_
    rintro e w2 ⟨rfl, hn2⟩
    have b2 := hn2.keep b1
    clear c0 c1
    have hN2 := hN.then hn2
    by_cases hr : One (r.1, r.2)
    · have HV := hide (HU.out.trans (if_pos (show One r from hr)))
      rw [decide_eq_true hr]
      clear hr
      have q0 : ∀ y : Lat (fun _ => False) w2, y.W.cell? ⟨w.heap.size, 0, none⟩ = some (.int .i64 r.1) := fun y => (blk_cell (y.ext.keep b2 (fun h => h)) 0).trans rfl
      have q1 : ∀ y : Lat (fun _ => False) w2, y.W.cell? ⟨w.heap.size, 1, none⟩ = some (.int .i64 r.2) := fun y => (blk_cell (y.ext.keep b2 (fun h => h)) 1).trans rfl
      go_wp2_with fail
      refine mix_start (fun _ => False) w2 (by kernel_rfl) ?_
      refine mix_batch [0, 2] (by kernel_rfl) 8 _ _ _ (by kernel_rfl) (lat_mem (by (repeat (first | exact Ext.refl _ _ | assumption | apply Ext.alloc | apply Ext.drewN | apply Ext.drew | refine Ext.setCell ?_ (fun h => by first | rfl | exact absurd h (by dsimp only; omega)) _)))) ?_
      simp only [pickOps, List.getD_cons_zero, List.getD_cons_succ]
      repeat (go_big_quiet_step (fail))
      refine wpQuiet_nil ?_
      refine mix_two (i := 1) (j := 3) (by kernel_rfl) rfl rfl (fun K hK => ?_) (fun K hK => ?_)
      · go_simp
        have M0 : New w2 w2.drew := by (repeat (first | exact Ext.refl _ _ | assumption | apply Ext.alloc | apply Ext.drewN | apply Ext.drew | refine Ext.setCell ?_ (fun h => by first | rfl | exact absurd h (by dsimp only; omega)) _))
        refine (clone_c A n c _ _ ((h.new hN2).new M0) (by omega)).mono ?_
        rintro e w3 ⟨A3, c3, rfl, ho3, hn3⟩
        have M3 := M0.then hn3
        refine hK.out _ _ (lat_mem M3) ?_
        clear hK
        refine mix_loud (i := 3) (by kernel_rfl) rfl (fun K hK => ?_)
        go_simp
        refine hK.out _ _ (lat_mem (by (repeat (first | exact Ext.refl _ _ | assumption | apply Ext.alloc | apply Ext.drewN | apply Ext.drew | refine Ext.setCell ?_ (fun h => by first | rfl | exact absurd h (by dsimp only; omega)) _)))) ?_
        clear hK
        have hrb := rd_lit w3 30 2 1 #[.int .i64 r.1, .int .i64 r.2] (by omega) rfl (by simp [Value.oneCell'])
        have hnb := New.alloc1 w3 (.cells #[.int .i64 r.1, .int .i64 r.2] 30)
        have ho4 : Own (w3.alloc (.cells #[.int .i64 r.1, .int .i64 r.2] 30)) w2.heap.size 30 2 A3 n c3 (kcs l) := (ho3.le M0.size).new hnb
        have M4 := M3.then hnb
        refine mix_loud (i := 4) (by kernel_rfl) rfl (fun K hK => ?_)
        rw [if_pos (by kernel_rfl)]
        obtain ⟨A5, c5, w5, hrun, ho5, he5, hA5⟩ := run_app (P := Try.prog) (w3.alloc (.cells #[.int .i64 r.1, .int .i64 r.2] 30)) w2.heap.size 23 23 30 (.agg #[.int .i64 0, .int .i64 0]) 2 16 Try.underlying23 info_p rfl (by decide) (by decide) ho4 hrb (by omega) (by have := (M4).size; omega)
        refine Lib.wp_append_run _ _ _ _ _ rfl _ _ rfl rfl _ _ hrun ?_
        have N5 : New w2 w5 := (M4).trans he5 (fun j hj hi => by have := ((ho4).at_ hi).1; omega)
        refine hK.out _ _ (lat_mem N5) ?_
        clear hK
        go_simp
        refine mix_loud (i := 5) (by kernel_rfl) rfl (fun K hK => ?_)
        go_simp
        have hr5 := ho5.rd
        rw [show kcs l ++ [Value.int IntKind.i64 r.1, Value.int IntKind.i64 r.2] = kcs (l ++ [r]) by rw [kcs_append]; rfl] at hr5
        refine (row_r hr5 (by omega)).mono ?_
        rintro e w6 ⟨A6, c6, rfl, hr6, hn6⟩
        have N6 := N5.then hn6
        refine hK.out _ _ (lat_mem N6) ?_
        clear hK
        refine mix_batch [6, 7, 8, 9] (by kernel_rfl) 0 _ _ _ (by kernel_rfl) (lat_mem (by (repeat (first | exact Ext.refl _ _ | assumption | apply Ext.alloc | apply Ext.drewN | apply Ext.drew | refine Ext.setCell ?_ (fun h => by first | rfl | exact absurd h (by dsimp only; omega)) _)))) ?_
        simp only [pickOps, List.getD_cons_zero, List.getD_cons_succ]
        repeat (go_big_quiet_step (fail))
        refine wpQuiet_nil ?_
        refine wpAnyH_done (by kernel_rfl) (NoPanic.normal ?_) _
        clear q0 q1
        go_wp2_with fail
        go_ret2
        rw [HV.out]
        exact ⟨A6, c6, rfl, hr6, hN2.then N6⟩
      · go_simp
        have hrb := rd_lit w2 30 2 1 #[.int .i64 r.1, .int .i64 r.2] (by omega) rfl (by simp [Value.oneCell'])
        have hnb := New.alloc1 w2 (.cells #[.int .i64 r.1, .int .i64 r.2] 30)
        have M0 : New w2 (w2.alloc (.cells #[.int .i64 r.1, .int .i64 r.2] 30)).drew := by (repeat (first | exact Ext.refl _ _ | assumption | apply Ext.alloc | apply Ext.drewN | apply Ext.drew | refine Ext.setCell ?_ (fun h => by first | rfl | exact absurd h (by dsimp only; omega)) _))
        have M1 : New (w2.alloc (.cells #[.int .i64 r.1, .int .i64 r.2] 30)) (w2.alloc (.cells #[.int .i64 r.1, .int .i64 r.2] 30)).drew := by (repeat (first | exact Ext.refl _ _ | assumption | apply Ext.alloc | apply Ext.drewN | apply Ext.drew | refine Ext.setCell ?_ (fun h => by first | rfl | exact absurd h (by dsimp only; omega)) _))
        refine hK.out _ _ (lat_mem (by (repeat (first | exact Ext.refl _ _ | assumption | apply Ext.alloc | apply Ext.drewN | apply Ext.drew | refine Ext.setCell ?_ (fun h => by first | rfl | exact absurd h (by dsimp only; omega)) _)))) ?_
        clear hK
        refine mix_loud (i := 1) (by kernel_rfl) rfl (fun K hK => ?_)
        go_simp
        refine (clone_c A n c _ _ ((h.new hN2).new M0) (by omega)).mono ?_
        rintro e w3 ⟨A3, c3, rfl, ho3, hn3⟩
        have M3 := M0.then hn3
        have hrb3 := (hrb.new M1).new hn3
        refine hK.out _ _ (lat_mem M3) ?_
        clear hK
        have ho4 := ho3.le M0.size
        refine mix_loud (i := 4) (by kernel_rfl) rfl (fun K hK => ?_)
        rw [if_pos (by kernel_rfl)]
        obtain ⟨A5, c5, w5, hrun, ho5, he5, hA5⟩ := run_app (P := Try.prog) w3 w2.heap.size 23 23 30 (.agg #[.int .i64 0, .int .i64 0]) 2 16 Try.underlying23 info_p rfl (by decide) (by decide) ho4 hrb3 (by omega) (by have := (M3).size; omega)
        refine Lib.wp_append_run _ _ _ _ _ rfl _ _ rfl rfl _ _ hrun ?_
        have N5 : New w2 w5 := (M3).trans he5 (fun j hj hi => by have := ((ho4).at_ hi).1; omega)
        refine hK.out _ _ (lat_mem N5) ?_
        clear hK
        go_simp
        refine mix_loud (i := 5) (by kernel_rfl) rfl (fun K hK => ?_)
        go_simp
        have hr5 := ho5.rd
        rw [show kcs l ++ [Value.int IntKind.i64 r.1, Value.int IntKind.i64 r.2] = kcs (l ++ [r]) by rw [kcs_append]; rfl] at hr5
        refine (row_r hr5 (by omega)).mono ?_
        rintro e w6 ⟨A6, c6, rfl, hr6, hn6⟩
        have N6 := N5.then hn6
        refine hK.out _ _ (lat_mem N6) ?_
        clear hK
        refine mix_batch [6, 7, 8, 9] (by kernel_rfl) 0 _ _ _ (by kernel_rfl) (lat_mem (by (repeat (first | exact Ext.refl _ _ | assumption | apply Ext.alloc | apply Ext.drewN | apply Ext.drew | refine Ext.setCell ?_ (fun h => by first | rfl | exact absurd h (by dsimp only; omega)) _)))) ?_
        simp only [pickOps, List.getD_cons_zero, List.getD_cons_succ]
        repeat (go_big_quiet_step (fail))
        refine wpQuiet_nil ?_
        refine wpAnyH_done (by kernel_rfl) (NoPanic.normal ?_) _
        clear q0 q1
        go_wp2_with fail
        go_ret2
        rw [HV.out]
        exact ⟨A6, c6, rfl, hr6, hN2.then N6⟩
    · have HV := hide (HU.out.trans (if_neg (show ¬ One r from hr)))
      rw [decide_eq_false hr]
      clear hr
      go_wp2_with fail
      go_ret2
      rw [HV.out]
      exact Res2.none 5 hN2
  · have HU := hide (show addP l r = ([], chk l) from if_neg hz)
    have e1 : (chk l != 0) = true := by simpa using hz
    generalize chk l = x at *
    clear hz
    go_wp2_with fail
    go_ret2
    rw [HU.out]
    exact Res2.none x hN
set_option maxHeartbeats 800000 in
theorem of_p (A : Option Addr) (n c : Nat) (xs : List Int) (w : World) (h : Rd w 1 A n c (xs.map (Value.int .i64))) (hn : n ≤ 1000) :
    Calls Try.prog 9 #[.slice A n c] w (Res2 (ofP xs) w) := by
  have hl := h.lenn
  have HL := hide hl
  clear hl
  go_enter Try.func9, Try.ntmps9
  go_wp2_with fail
  go_loopw [4, 9] (fun s4 s9 wr => New w wr ∧ ∃ k A' c', k ≤ n ∧ s9 = .int .i64 (k : Nat) ∧ s4 = .slice A' k c' ∧ Own wr w.heap.size 30 2 A' k c' (kcs ((xs.take k).map num)) ∧ ∀ x ∈ xs.take k, 0 ≤ x ∧ x < tp) (fun _ i _ => n - (intOf i).toNat)
  case atStart => exact ⟨Ext.refl _ _, 0, none, 0, Nat.zero_le _, rfl, rfl, by simpa [kcs] using Own.nil _ _ _ _, by simp⟩
  case round =>
    obtain ⟨hnw, k, A', c', hk, rfl, rfl, ho, hok⟩ := hrel
    have HK := hide hok
    clear hok
    by_cases hkn : k < n
    · have d1 : decide ((k : Int) < n) = true := decide_eq_true (by omega)
      have d2 : decide (k < n) = true := decide_eq_true (by omega)
      obtain ⟨ad, rfl⟩ := h.some (by omega)
      obtain ⟨x, hx⟩ : ∃ x, xs[k]? = some x := ⟨_, List.getElem?_eq_getElem (by have := HL.out; omega)⟩
      have hc := (h.new hnw).celln hx
      have hm := List.mem_of_getElem? hx
      have HX := hide hx
      clear hx
      have hwsz := hnw.size
      by_cases hb : 0 ≤ x ∧ x < tp
      · obtain ⟨hb0, hb1⟩ := hb
        have e1 : decide (x < 0) = false := decide_eq_false (by omega)
        have e2 : decide (1152921504606846976 ≤ x) = false := decide_eq_false (by unfold tp at hb1; omega)
        have hb2 : x ≤ 1152921504606846975 := by unfold tp at hb1; omega
        have hnext := hide (show kcs ((xs.take (k + 1)).map num) = kcs ((xs.take k).map num) ++ kcs [(x, x + 1)] by rw [take_snoc xs k x HX.out, List.map_append, kcs_append]; rfl)
        have hok2 := hide (show ∀ y ∈ xs.take (k + 1), 0 ≤ y ∧ y < tp by
          rw [take_snoc xs k x HX.out]
          intro y hy
          rcases List.mem_append.1 hy with hy | hy
          · exact HK.out y hy
          · rw [List.mem_singleton.1 hy]; exact ⟨hb0, hb1⟩)
        clear hb1
        have hrb : Rd (wr.alloc (.cells #[.int .i64 x, .int .i64 (x + 1)] 30)) 2 (some ⟨wr.heap.size, 0, none⟩) 1 1 (kcs [(x, x + 1)]) := rd_lit wr 30 2 1 #[.int .i64 x, .int .i64 (x + 1)] (by omega) rfl (by simp [Value.oneCell'])
        have hnb := New.alloc1 wr (.cells #[.int .i64 x, .int .i64 (x + 1)] 30)
        go_wp2_with (at_builtin; refine app_p rfl _ _ rfl w.heap.size rfl rfl (ho.new hnb) hrb (by omega) (by have := hnb.size; omega) ?_; intro A5 c5 w5 ho5 he5 hA5)
        go_roundw
        case rel => exact ⟨(hnw.then hnb).trans he5 (fun j hj hi => by have := (ho.at_ hi).1; omega), k + 1, A5, c5, by omega, by go_num, rfl, by rw [hnext.out]; exact ho5, hok2.out⟩
        case measure => simp [intOf]; omega
      · have HB := hide (show ofP xs = ([], 5) from if_neg (fun hh => hb (hh x hm)))
        by_cases h0 : x < 0
        · have e1 : decide (x < 0) = true := decide_eq_true h0
          clear hb h0
          go_wp2_with fail
          go_ret2
          rw [HB.out]
          exact Res2.none 5 hnw
        · have e1 : decide (x < 0) = false := decide_eq_false h0
          have e2 : decide (1152921504606846976 ≤ x) = true := decide_eq_true (by unfold tp at hb; omega)
          clear hb h0
          go_wp2_with fail
          go_ret2
          rw [HB.out]
          exact Res2.none 5 hnw
    · have d1 : decide ((k : Int) < n) = false := decide_eq_false (by omega)
      have d2 : decide (k < n) = false := decide_eq_false (by omega)
      obtain rfl : k = n := by omega
      have hxk : xs.take k = xs := List.take_of_length_le (by have := HL.out; omega)
      rw [hxk] at ho
      have HB := hide (show ofP xs = bnd (joined_ (xs.map num)) from if_pos (by have := HK.out; rwa [hxk] at this))
      clear hxk
      go_wp2_with fail
      refine (row_r ho.rd (by omega)).mono ?_
      rintro e w3 ⟨A3, c3, rfl, hr3, hn3⟩
      go_wp2_with fail
      go_ret2
      rw [HB.out]
      exact ⟨A3, c3, rfl, hr3, hnw.then hn3⟩
end Go.Proofs.Ytkiplbhnnjfjaaa
