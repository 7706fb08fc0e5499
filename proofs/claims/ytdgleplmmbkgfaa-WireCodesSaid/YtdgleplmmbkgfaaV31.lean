/- The law on packets and bytes. -/
import Derived.Test.YtdgleplmmbkgfaaV29
import Derived.Test.YtdgleplmmbkgfaaV28
namespace Go.Proofs.Ytdgleplmmbkgfaa
open Go.RowKit
set_option maxRecDepth 100000

theorem rdecode_r (A : Option Addr) (n c : Nat) (l : List Int) (w : World) (hr : Rd w 1 A n c (bts l)) (hB : isB l) (hm : n ≤ 140737488355000) : Calls Try.prog 18 #[.slice A n c] w fun e w' => New w w' ∧ ∃ y : PkA, e = .returned (.tuple #[y.v, .int .i64 (dcE l)]) ∧ y.ok w' ∧ y.p = decQ l :=
  (rdec_any A n c l w hr hB hm).mono fun _ _ h => dec_one h hB
theorem rencode_r (x : PkA) (w : World) (hx : x.ok w) (b : Bool) (hb : okB x.p = b) (m : Nat) (hm : m = (enQ x.p).length) : Calls Try.prog 17 #[x.v] w fun e w' => ∃ A' c', e = .returned (.tuple #[.slice A' m c', .int .i64 (bif b then 0 else 30)]) ∧ Rd w' 1 A' m c' (bts (enQ x.p)) ∧ New w w' := by
  have hl := enQ_len x.p
  rw [hb] at hl
  cases b
  · have e : enQ x.p = [] := by unfold enQ; rw [hb]; rfl
    rw [e] at hm ⊢
    subst hm
    refine (renc_no x.p x.a x.n x.c w hx.len hb).mono ?_
    rintro e w' ⟨rfl, hn⟩
    exact ⟨none, 0, rfl, Rd.nil w' 1, hn⟩
  · have e : enQ x.p = enL x.p := by unfold enQ; rw [hb]; rfl
    have hm' : m = 36 + x.n := by rw [hm, hl, hx.len]; rfl
    rw [e]
    subst hm'
    refine (renc_yes x.p x.a x.n x.c w hx.len hb hx.rd hx.b).mono ?_
    rintro e w' ⟨A', c', rfl, ho, hn⟩
    exact ⟨A', c', rfl, ho.rd, hn⟩
set_option maxHeartbeats 8000000 in
theorem law_codes (p0 : PkA) (B : Option Addr) (m0 mc : Nat) (l0 : List Int) (w : World) (hp0 : p0.ok w) (hb0 : Rd w 1 B m0 mc (l0.map (Value.int .u8))) (wl0 : ∀ x ∈ l0, (Lit.int .u8 x).wf = true) (_ : m0 * 1 ≤ 140737488351232) :
    Calls Try.prog 5 #[p0.v, .slice B m0 mc] w fun e w' => e = .returned (.bool true) ∧ New w w' := by
  obtain ⟨m, hm⟩ : ∃ m, m = min m0 1200 := ⟨_, rfl⟩
  obtain ⟨l, hl⟩ : ∃ l, l = l0.take m := ⟨_, rfl⟩
  have hm2 : m ≤ 1200 := by omega
  have hrd0 : Rd w 1 B m mc (bts l) := by
    have h1 := hb0.take m (by omega)
    rw [Nat.mul_one, ← List.map_take, ← hl] at h1
    exact h1
  have hB : isB l := fun x hx => by
    rw [hl] at hx
    have := wf_of_u8 (wl0 x (List.mem_of_mem_take hx))
    omega
  have s1 := run_cut_h (P := Try.prog) 23 5 1 Try.underlying23 size_u8 B m0 mc m m rfl (by have := hb0.cap; omega) .i64
  have hmin : Hid (m = min m0 1200) := hide hm
  have hn1 := New.alloc1 w (p0.o 25)
  have hX1 := at_new w p0
  obtain ⟨w2, hw2⟩ : ∃ v, v = w.alloc (p0.o 25) := ⟨_, rfl⟩
  obtain ⟨X, hX⟩ : ∃ X, X = w.heap.size := ⟨_, rfl⟩
  rw [← hw2] at hX1 hn1
  rw [← hX] at hX1
  have hXw : w.heap.size ≤ X := by omega
  obtain ⟨p, hp⟩ : ∃ p, p = p0.few := ⟨_, rfl⟩
  have hpo : p.ok w := by rw [hp]; exact hp0.few
  have hpn : p.n ≤ 1100 := by rw [hp]; show min p0.n 1100 ≤ 1100; omega
  have HP := hide hp
  have HLL := hide hl
  clear hp hl hm
  go_enter Try.func5, Try.ntmps5
  go_upto_region 1 with (fail)
  rw [← hw2, ← hX]
  clear hw2 hX
  go_cut [1] (fun s1' wc => s1' = .slice B m mc ∧ At wc X p ∧ New w wc)
  case first =>
    have x0 := fun y : Lat (fun _ => False) w2 => (hX1.keep y.ext (fun h => h)).c0
    have x1 := fun y : Lat (fun _ => False) w2 => (hX1.keep y.ext (fun h => h)).c1
    have x2 := fun y : Lat (fun _ => False) w2 => (hX1.keep y.ext (fun h => h)).c2
    have x3 := fun y : Lat (fun _ => False) w2 => (hX1.keep y.ext (fun h => h)).c3
    have x4 := fun y : Lat (fun _ => False) w2 => (hX1.keep y.ext (fun h => h)).c4
    have x5 := fun y : Lat (fun _ => False) w2 => (hX1.keep y.ext (fun h => h)).c5
    have x6 := fun y : Lat (fun _ => False) w2 => (hX1.keep y.ext (fun h => h)).c6
    have x7 := fun y : Lat (fun _ => False) w2 => (hX1.keep y.ext (fun h => h)).c7
    have x8 := fun y : Lat (fun _ => False) w2 => (hX1.keep y.ext (fun h => h)).c8
    by_cases hle : m0 ≤ 1200
    · obtain rfl : m = m0 := by have := hmin.out; omega
      have hi : (m : Int) ≤ 1200 := by omega
      refine mixU_start 7 (fun _ => False) w2 (by kernel_rfl) ?_
      refine mixU_batch [0] (by kernel_rfl) 8 _ _ _ (by kernel_rfl) (lat_mem (by (repeat (first | exact Ext.refl _ _ | assumption | apply Ext.alloc | apply Ext.drewN | apply Ext.drew | refine Ext.setCell ?_ (fun h => by first | rfl | exact absurd h (by dsimp only; omega)) _)))) ?_
      simp only [pickOps, List.getD_cons_zero, List.getD_cons_succ]
      repeat (go_big_quiet_step (fail))
      refine wpQuiet_nil ?_
      refine mixU_pure w2 [2, 3, 4, 5, 6] (by kernel_rfl) 3 _ _ _ (by kernel_rfl) (.inr (lat_mem (by (repeat (first | exact Ext.refl _ _ | assumption | apply Ext.alloc | apply Ext.drewN | apply Ext.drew | refine Ext.setCell ?_ (fun h => by first | rfl | exact absurd h (by dsimp only; omega)) _))))) ?_
      simp only [pickOps, List.getD_cons_zero, List.getD_cons_succ]
      repeat (go_big_quiet_step (fail))
      refine wpQuiet_nil ?_
      refine mixU_loud (i := 1) (by kernel_rfl) rfl (fun K hK => ?_)
      go_simp
      refine (few_r p0 p _ (hp0.new (hn1.then (show New w2 _ by (repeat (first | exact Ext.refl _ _ | assumption | apply Ext.alloc | apply Ext.drewN | apply Ext.drew | refine Ext.setCell ?_ (fun h => by first | rfl | exact absurd h (by dsimp only; omega)) _))))) HP.out).mono ?_
      rintro e w3 ⟨rfl, hn3⟩
      have N23 : New w2 w3 := (show New w2 w2.drew by (repeat (first | exact Ext.refl _ _ | assumption | apply Ext.alloc | apply Ext.drewN | apply Ext.drew | refine Ext.setCell ?_ (fun h => by first | rfl | exact absurd h (by dsimp only; omega)) _))).then hn3
      refine hK.out _ _ (lat_mem N23) ?_
      clear hK x0 x1 x2 x3 x4 x5 x6 x7 x8
      have hX4 := hX1.new N23
      have x0 := hX4.c0
      have d0 := hX4.fr 0
      have x1 := hX4.c1
      have d1 := hX4.fr 1
      have x2 := hX4.c2
      have d2 := hX4.fr 2
      have x3 := hX4.c3
      have d3 := hX4.fr 3
      have x4 := hX4.c4
      have d4 := hX4.fr 4
      have x5 := hX4.c5
      have d5 := hX4.fr 5
      have x6 := hX4.c6
      have d6 := hX4.fr 6
      have x7 := hX4.c7
      have d7 := hX4.fr 7
      have x8 := hX4.c8
      have d8 := hX4.fr 8
      refine mixU_last (by kernel_rfl) (by kernel_rfl) rfl (fun K hK => ?_)
      go_simp
      obtain ⟨w5, hw5, hX5, he5⟩ := at_set hX4 p
      rw [← hw5]
      refine hK.out _ _ (mixU_after (S' := fun W => ∃ x : Lat (fun j => j = X) w5, W = x.W) _ _ _ _ (by kernel_rfl) ?_)
      clear hK hw5 x0 x1 x2 x3 x4 x5 x6 x7 x8 d0 d1 d2 d3 d4 d5 d6 d7 d8
      refine mix_batch [8] (by kernel_rfl) 0 _ _ _ (by kernel_rfl) (lat_mem (by (repeat (first | exact Ext.refl _ _ | assumption | apply Ext.alloc | apply Ext.drewN | apply Ext.drew | refine Ext.setCell ?_ (fun h => by first | rfl | exact absurd h (by dsimp only; omega)) _)))) ?_
      simp only [pickOps, List.getD_cons_zero, List.getD_cons_succ]
      repeat (go_big_quiet_step (fail))
      refine wpQuiet_nil ?_
      refine wpAnyH_done (by kernel_rfl) (NoPanic.normal ?_) _
      go_wp2_with fail
      go_meet
      exact ⟨rfl, hX5, (hn1.then N23).trans he5 (fun j hj e => by omega)⟩
    · obtain rfl : m = 1200 := by have := hmin.out; omega
      have hi : ¬ (m0 : Int) ≤ 1200 := by omega
      clear s1
      have s1 := run_cut_h (P := Try.prog) 23 5 1 Try.underlying23 size_u8 B m0 mc 1200 1200 rfl (by have := hb0.cap; omega) .i64
      refine mixU_start 7 (fun _ => False) w2 (by kernel_rfl) ?_
      refine mixU_batch [0] (by kernel_rfl) 8 _ _ _ (by kernel_rfl) (lat_mem (by (repeat (first | exact Ext.refl _ _ | assumption | apply Ext.alloc | apply Ext.drewN | apply Ext.drew | refine Ext.setCell ?_ (fun h => by first | rfl | exact absurd h (by dsimp only; omega)) _)))) ?_
      simp only [pickOps, List.getD_cons_zero, List.getD_cons_succ]
      repeat (go_big_quiet_step (fail))
      refine wpQuiet_nil ?_
      refine mixU_pure w2 [2, 3, 4, 5, 6] (by kernel_rfl) 3 _ _ _ (by kernel_rfl) (.inr (lat_mem (by (repeat (first | exact Ext.refl _ _ | assumption | apply Ext.alloc | apply Ext.drewN | apply Ext.drew | refine Ext.setCell ?_ (fun h => by first | rfl | exact absurd h (by dsimp only; omega)) _))))) ?_
      simp only [pickOps, List.getD_cons_zero, List.getD_cons_succ]
      repeat (go_big_quiet_step (fail))
      refine wpQuiet_nil ?_
      refine mixU_loud (i := 1) (by kernel_rfl) rfl (fun K hK => ?_)
      go_simp
      refine (few_r p0 p _ (hp0.new (hn1.then (show New w2 _ by (repeat (first | exact Ext.refl _ _ | assumption | apply Ext.alloc | apply Ext.drewN | apply Ext.drew | refine Ext.setCell ?_ (fun h => by first | rfl | exact absurd h (by dsimp only; omega)) _))))) HP.out).mono ?_
      rintro e w3 ⟨rfl, hn3⟩
      have N23 : New w2 w3 := (show New w2 w2.drew by (repeat (first | exact Ext.refl _ _ | assumption | apply Ext.alloc | apply Ext.drewN | apply Ext.drew | refine Ext.setCell ?_ (fun h => by first | rfl | exact absurd h (by dsimp only; omega)) _))).then hn3
      refine hK.out _ _ (lat_mem N23) ?_
      clear hK x0 x1 x2 x3 x4 x5 x6 x7 x8
      have hX4 := hX1.new N23
      have x0 := hX4.c0
      have d0 := hX4.fr 0
      have x1 := hX4.c1
      have d1 := hX4.fr 1
      have x2 := hX4.c2
      have d2 := hX4.fr 2
      have x3 := hX4.c3
      have d3 := hX4.fr 3
      have x4 := hX4.c4
      have d4 := hX4.fr 4
      have x5 := hX4.c5
      have d5 := hX4.fr 5
      have x6 := hX4.c6
      have d6 := hX4.fr 6
      have x7 := hX4.c7
      have d7 := hX4.fr 7
      have x8 := hX4.c8
      have d8 := hX4.fr 8
      refine mixU_last (by kernel_rfl) (by kernel_rfl) rfl (fun K hK => ?_)
      go_simp
      obtain ⟨w5, hw5, hX5, he5⟩ := at_set hX4 p
      rw [← hw5]
      refine hK.out _ _ (mixU_after (S' := fun W => ∃ x : Lat (fun j => j = X) w5, W = x.W) _ _ _ _ (by kernel_rfl) ?_)
      clear hK hw5 x0 x1 x2 x3 x4 x5 x6 x7 x8 d0 d1 d2 d3 d4 d5 d6 d7 d8
      refine mix_batch [8] (by kernel_rfl) 0 _ _ _ (by kernel_rfl) (lat_mem (by (repeat (first | exact Ext.refl _ _ | assumption | apply Ext.alloc | apply Ext.drewN | apply Ext.drew | refine Ext.setCell ?_ (fun h => by first | rfl | exact absurd h (by dsimp only; omega)) _)))) ?_
      simp only [pickOps, List.getD_cons_zero, List.getD_cons_succ]
      repeat (go_big_quiet_step (fail))
      refine wpQuiet_nil ?_
      refine wpAnyH_done (by kernel_rfl) (NoPanic.normal ?_) _
      go_wp2_with fail
      go_meet
      exact ⟨rfl, hX5, (hn1.then N23).trans he5 (fun j hj e => by omega)⟩
  case rest =>
    obtain ⟨rfl, hX6, N6⟩ := hcut
    clear hX1 hn1 s1
    obtain ⟨w6, hw6⟩ : ∃ v, v = wc := ⟨_, rfl⟩
    rw [← hw6] at hX6 N6
    rw [← hw6]
    clear hw6
    have hpo6 := hpo.new N6
    have hrd6 := hrd0.new N6
    obtain ⟨k, hk⟩ : ∃ k, k = (enQ p.p).length := ⟨_, rfl⟩
    have hkl := hk
    rw [enQ_len] at hk
    obtain ⟨L, hL⟩ : ∃ L, L = enQ p.p := ⟨_, rfl⟩
    obtain ⟨ev, hev⟩ : ∃ v, v = dcE l := ⟨_, rfl⟩
    have HL := hide hL
    have HE := hide hev
    have HK := hide hkl
    cases hok : okB p.p
    all_goals
      have hkv : k = bif okB p.p then 36 + p.n else 0 := by rw [hk, hpo.len]
      rw [hok] at hkv
      simp only [cond_true, cond_false] at hkv
      have hk2 : k ≤ 1136 := by omega
      have HOK := hide hok
      have HKV := hide hkv
      clear hok hk hkl hL hev hkv
    · have x0 := hX6.c0
      have x1 := hX6.c1
      have x2 := hX6.c2
      have x3 := hX6.c3
      have x4 := hX6.c4
      have x5 := hX6.c5
      have x6 := hX6.c6
      have x7 := hX6.c7
      have x8 := hX6.c8
      go_wp2_with fail
      refine (encode_r p _ hpo6 false HOK.out k HK.out).mono ?_
      rintro e w7 ⟨A7, c7, rfl, hr7, hn7⟩
      have hX7 := hX6.new hn7
      rw [← HL.out] at hr7
      clear x0 x1 x2 x3 x4 x5 x6 x7 x8
      have x0 := hX7.c0
      have x1 := hX7.c1
      have x2 := hX7.c2
      have x3 := hX7.c3
      have x4 := hX7.c4
      have x5 := hX7.c5
      have x6 := hX7.c6
      have x7 := hX7.c7
      have x8 := hX7.c8
      go_wp2_with fail
      refine (rencode_r p _ (hpo6.new hn7) false HOK.out k HK.out).mono ?_
      rintro e w8 ⟨A8, c8', rfl, hr8, hn8⟩
      have hX8 := hX7.new hn8
      have M8 := hn7.then hn8
      rw [← HL.out] at hr8
      clear x0 x1 x2 x3 x4 x5 x6 x7 x8
      go_wp2_with fail
      refine (decode_r B m mc l _ (hrd6.new M8) hB (by omega)).mono ?_
      rintro e w9 ⟨hn9, y, rfl, hyo, hyp⟩
      rw [← HE.out]
      have HYP := hide hyp
      clear hyp
      have hY10 := at_new w9 y
      have hn10 := New.alloc1 w9 (y.o 25)
      go_upto_region 5 with (fail)
      obtain ⟨Y, hY⟩ : ∃ Y, Y = w9.heap.size := ⟨_, rfl⟩
      obtain ⟨w10, hw10⟩ : ∃ v, v = w9.alloc (y.o 25) := ⟨_, rfl⟩
      rw [← hY, ← hw10] at hY10
      rw [← hw10] at hn10
      rw [← hw10, ← hY]
      clear hw10 hY
      have M10 := (M8.then hn9).then hn10
      go_wp2_with fail
      refine (rdecode_r B m mc l _ (hrd6.new M10) hB (by omega)).mono ?_
      rintro e w11 ⟨hn11, z, rfl, hzo, hzp⟩
      rw [← HE.out]
      have HZP := hide hzp
      clear hzp
      have hZ12 := at_new w11 z
      have hn12 := New.alloc1 w11 (z.o 25)
      go_upto_region 6 with (fail)
      obtain ⟨Z, hZ⟩ : ∃ Y, Y = w11.heap.size := ⟨_, rfl⟩
      obtain ⟨w12, hw12⟩ : ∃ v, v = w11.alloc (z.o 25) := ⟨_, rfl⟩
      rw [← hZ, ← hw12] at hZ12
      rw [← hw12] at hn12
      rw [← hw12, ← hZ]
      clear hw12 hZ
      have M12 := (M10.then hn11).then hn12
      have hY12 := hY10.new (hn11.then hn12)
      have hX12 := hX6.new M12
      have hr7' := hr7.new ((hn8.then (hn9.then hn10)).then (hn11.then hn12))
      have hr8' := hr8.new ((hn9.then hn10).then (hn11.then hn12))
      obtain ⟨S, hS⟩ : ∃ S, S = strOfNums L := ⟨_, rfl⟩
      have q1 : ∀ y : Lat (fun _ => False) w12, (convert 23 9 (.slice A7 k c7)).run Try.prog y.W = .ok (.string S) y.W := fun y => by rw [hS]; exact Str.of (hr7'.new y.ext)
      have q2 : ∀ y : Lat (fun _ => False) w12, (convert 23 9 (.slice A8 k c8')).run Try.prog y.W = .ok (.string S) y.W := fun y => by rw [hS]; exact Str.of (hr8'.new y.ext)
      clear hS
      have fy0 := fun y : Lat (fun _ => False) w12 => (hY12.keep y.ext (fun h => h)).c0
      have fy1 := fun y : Lat (fun _ => False) w12 => (hY12.keep y.ext (fun h => h)).c1
      have fy2 := fun y : Lat (fun _ => False) w12 => (hY12.keep y.ext (fun h => h)).c2
      have fy3 := fun y : Lat (fun _ => False) w12 => (hY12.keep y.ext (fun h => h)).c3
      have fy4 := fun y : Lat (fun _ => False) w12 => (hY12.keep y.ext (fun h => h)).c4
      have fy5 := fun y : Lat (fun _ => False) w12 => (hY12.keep y.ext (fun h => h)).c5
      have fy6 := fun y : Lat (fun _ => False) w12 => (hY12.keep y.ext (fun h => h)).c6
      have fy7 := fun y : Lat (fun _ => False) w12 => (hY12.keep y.ext (fun h => h)).c7
      have fy8 := fun y : Lat (fun _ => False) w12 => (hY12.keep y.ext (fun h => h)).c8
      have fz0 := fun y : Lat (fun _ => False) w12 => (hZ12.keep y.ext (fun h => h)).c0
      have fz1 := fun y : Lat (fun _ => False) w12 => (hZ12.keep y.ext (fun h => h)).c1
      have fz2 := fun y : Lat (fun _ => False) w12 => (hZ12.keep y.ext (fun h => h)).c2
      have fz3 := fun y : Lat (fun _ => False) w12 => (hZ12.keep y.ext (fun h => h)).c3
      have fz4 := fun y : Lat (fun _ => False) w12 => (hZ12.keep y.ext (fun h => h)).c4
      have fz5 := fun y : Lat (fun _ => False) w12 => (hZ12.keep y.ext (fun h => h)).c5
      have fz6 := fun y : Lat (fun _ => False) w12 => (hZ12.keep y.ext (fun h => h)).c6
      have fz7 := fun y : Lat (fun _ => False) w12 => (hZ12.keep y.ext (fun h => h)).c7
      have fz8 := fun y : Lat (fun _ => False) w12 => (hZ12.keep y.ext (fun h => h)).c8
      have fx0 := fun y : Lat (fun _ => False) w12 => (hX12.keep y.ext (fun h => h)).c0
      have fx1 := fun y : Lat (fun _ => False) w12 => (hX12.keep y.ext (fun h => h)).c1
      have fx2 := fun y : Lat (fun _ => False) w12 => (hX12.keep y.ext (fun h => h)).c2
      have fx3 := fun y : Lat (fun _ => False) w12 => (hX12.keep y.ext (fun h => h)).c3
      have fx4 := fun y : Lat (fun _ => False) w12 => (hX12.keep y.ext (fun h => h)).c4
      have fx5 := fun y : Lat (fun _ => False) w12 => (hX12.keep y.ext (fun h => h)).c5
      have fx6 := fun y : Lat (fun _ => False) w12 => (hX12.keep y.ext (fun h => h)).c6
      have fx7 := fun y : Lat (fun _ => False) w12 => (hX12.keep y.ext (fun h => h)).c7
      have fx8 := fun y : Lat (fun _ => False) w12 => (hX12.keep y.ext (fun h => h)).c8
      refine mix_start (fun _ => False) w12 (by kernel_rfl) ?_
      refine mix_batch [0, 1, 2, 3, 4, 5, 6, 7, 8, 9, 10, 11, 12] (by kernel_rfl) 16 _ _ _ (by kernel_rfl) (lat_mem (by (repeat (first | exact Ext.refl _ _ | assumption | apply Ext.alloc | apply Ext.drewN | apply Ext.drew | refine Ext.setCell ?_ (fun h => by first | rfl | exact absurd h (by dsimp only; omega)) _)))) ?_
      simp only [pickOps, List.getD_cons_zero, List.getD_cons_succ]
      repeat (go_big_quiet_step (fail))
      refine wpQuiet_nil ?_
      refine mix_loud (i := 13) (by kernel_rfl) rfl (fun K hK => ?_)
      go_simp
      refine (rsame_r y z _ (hyo.new (hn10.then ((hn11.then hn12).then (show New w12 _ by (repeat (first | exact Ext.refl _ _ | assumption | apply Ext.alloc | apply Ext.drewN | apply Ext.drew | refine Ext.setCell ?_ (fun h => by first | rfl | exact absurd h (by dsimp only; omega)) _)))))) (hzo.new (hn12.then (show New w12 _ by (repeat (first | exact Ext.refl _ _ | assumption | apply Ext.alloc | apply Ext.drewN | apply Ext.drew | refine Ext.setCell ?_ (fun h => by first | rfl | exact absurd h (by dsimp only; omega)) _))))) true (by rw [HYP.out, HZP.out]; exact sm_self _)).mono ?_
      rintro e w13 ⟨rfl, hn13⟩
      have T13 : New w12 w13 := (show New w12 w12.drew by (repeat (first | exact Ext.refl _ _ | assumption | apply Ext.alloc | apply Ext.drewN | apply Ext.drew | refine Ext.setCell ?_ (fun h => by first | rfl | exact absurd h (by dsimp only; omega)) _))).then hn13
      refine hK.out _ _ (lat_mem T13) ?_
      clear hK
      refine mix_batch [14, 15, 16, 17, 18, 19, 20, 21, 22, 25] (by kernel_rfl) 5 _ _ _ (by kernel_rfl) (lat_mem (by (repeat (first | exact Ext.refl _ _ | assumption | apply Ext.alloc | apply Ext.drewN | apply Ext.drew | refine Ext.setCell ?_ (fun h => by first | rfl | exact absurd h (by dsimp only; omega)) _)))) ?_
      simp only [pickOps, List.getD_cons_zero, List.getD_cons_succ]
      repeat (go_big_quiet_step (fail))
      refine wpQuiet_nil ?_
      refine mix_loud (i := 23) (by kernel_rfl) rfl (fun K hK => ?_)
      go_simp
      refine (check_r p _ (hpo6.new (M12.then T13)) false HOK.out).mono ?_
      rintro e w14 ⟨rfl, hn14⟩
      have T14 : New w12 w14 := T13.then hn14
      refine hK.out _ _ (lat_mem T14) ?_
      clear hK
      refine mix_batch [24] (by kernel_rfl) 3 _ _ _ (by kernel_rfl) (lat_mem (by (repeat (first | exact Ext.refl _ _ | assumption | apply Ext.alloc | apply Ext.drewN | apply Ext.drew | refine Ext.setCell ?_ (fun h => by first | rfl | exact absurd h (by dsimp only; omega)) _)))) ?_
      simp only [pickOps, List.getD_cons_zero, List.getD_cons_succ]
      repeat (go_big_quiet_step (fail))
      refine wpQuiet_nil ?_
      refine mix_loud (i := 26) (by kernel_rfl) rfl (fun K hK => ?_)
      go_simp
      refine (is_r p _ (hpo6.new (M12.then T14)) false HOK.out).mono ?_
      rintro e w15 ⟨rfl, hn15⟩
      have T15 : New w12 w15 := T14.then hn15
      refine hK.out _ _ (lat_mem T15) ?_
      clear hK
      refine mix_batch [27, 28] (by kernel_rfl) 0 _ _ _ (by kernel_rfl) (lat_mem (by (repeat (first | exact Ext.refl _ _ | assumption | apply Ext.alloc | apply Ext.drewN | apply Ext.drew | refine Ext.setCell ?_ (fun h => by first | rfl | exact absurd h (by dsimp only; omega)) _)))) ?_
      simp only [pickOps, List.getD_cons_zero, List.getD_cons_succ]
      repeat (go_big_quiet_step (fail))
      refine wpQuiet_nil ?_
      refine wpAnyH_done (by kernel_rfl) (NoPanic.normal ?_) _
      clear q1 q2 fx0 fx1 fx2 fx3 fx4 fx5 fx6 fx7 fx8 fy0 fy1 fy2 fy3 fy4 fy5 fy6 fy7 fy8 fz0 fz1 fz2 fz3 fz4 fz5 fz6 fz7 fz8
      have M15 := M12.then T15
      have hX15 := hX6.new M15
      have x0 := hX15.c0
      have x1 := hX15.c1
      have x2 := hX15.c2
      have x3 := hX15.c3
      have x4 := hX15.c4
      have x5 := hX15.c5
      have x6 := hX15.c6
      have x7 := hX15.c7
      have x8 := hX15.c8
      go_wp2_with fail
      refine (size_r p _ (hpo6.new M15) (by omega) false HOK.out (k : Int) (by have := HKV.out; simp only [cond_true, cond_false]; omega)).mono ?_
      rintro e w16 ⟨rfl, hn16⟩
      have M16 := M15.then hn16
      have hX16 := hX6.new M16
      clear x0 x1 x2 x3 x4 x5 x6 x7 x8
      have x0 := hX16.c0
      have x1 := hX16.c1
      have x2 := hX16.c2
      have x3 := hX16.c3
      have x4 := hX16.c4
      have x5 := hX16.c5
      have x6 := hX16.c6
      have x7 := hX16.c7
      have x8 := hX16.c8
      go_wp2_with fail
      refine (is_r p _ (hpo6.new M16) false HOK.out).mono ?_
      rintro e w17 ⟨rfl, hn17⟩
      have M17 := M16.then hn17
      have hX17 := hX6.new M17
      clear x0 x1 x2 x3 x4 x5 x6 x7 x8
      have hk0 : ((k : Int) == 0) = true := by have := HKV.out; simp; omega
      have hk0n : (k == 0) = true := by have := HKV.out; simp; omega
      have x0 := hX17.c0
      have x1 := hX17.c1
      have x2 := hX17.c2
      have x3 := hX17.c3
      have x4 := hX17.c4
      have x5 := hX17.c5
      have x6 := hX17.c6
      have x7 := hX17.c7
      have x8 := hX17.c8
      go_wp2_with fail
      refine (is_r p _ (hpo6.new M17) false HOK.out).mono ?_
      rintro e w18 ⟨rfl, hn18⟩
      have M18 := M17.then hn18
      have hX18 := hX6.new M18
      clear x0 x1 x2 x3 x4 x5 x6 x7 x8
      have x0 := hX18.c0
      have x1 := hX18.c1
      have x2 := hX18.c2
      have x3 := hX18.c3
      have x4 := hX18.c4
      have x5 := hX18.c5
      have x6 := hX18.c6
      have x7 := hX18.c7
      have x8 := hX18.c8
      go_wp2_with fail
      refine (check_r p _ (hpo6.new M18) false HOK.out).mono ?_
      rintro e w19 ⟨rfl, hn19⟩
      have M19 := M18.then hn19
      clear x0 x1 x2 x3 x4 x5 x6 x7 x8
      go_wp2_with fail
      refine (awake_any _).mono ?_
      rintro e w20 ⟨rfl, hn20⟩
      go_wp2_with fail
      go_ret
      exact ⟨rfl, (N6.then M19).then hn20⟩
    · have x0 := hX6.c0
      have x1 := hX6.c1
      have x2 := hX6.c2
      have x3 := hX6.c3
      have x4 := hX6.c4
      have x5 := hX6.c5
      have x6 := hX6.c6
      have x7 := hX6.c7
      have x8 := hX6.c8
      go_wp2_with fail
      refine (encode_r p _ hpo6 true HOK.out k HK.out).mono ?_
      rintro e w7 ⟨A7, c7, rfl, hr7, hn7⟩
      have hX7 := hX6.new hn7
      rw [← HL.out] at hr7
      clear x0 x1 x2 x3 x4 x5 x6 x7 x8
      have x0 := hX7.c0
      have x1 := hX7.c1
      have x2 := hX7.c2
      have x3 := hX7.c3
      have x4 := hX7.c4
      have x5 := hX7.c5
      have x6 := hX7.c6
      have x7 := hX7.c7
      have x8 := hX7.c8
      go_wp2_with fail
      refine (rencode_r p _ (hpo6.new hn7) true HOK.out k HK.out).mono ?_
      rintro e w8 ⟨A8, c8', rfl, hr8, hn8⟩
      have hX8 := hX7.new hn8
      have M8 := hn7.then hn8
      rw [← HL.out] at hr8
      clear x0 x1 x2 x3 x4 x5 x6 x7 x8
      go_wp2_with fail
      refine (decode_r B m mc l _ (hrd6.new M8) hB (by omega)).mono ?_
      rintro e w9 ⟨hn9, y, rfl, hyo, hyp⟩
      rw [← HE.out]
      have HYP := hide hyp
      clear hyp
      have hY10 := at_new w9 y
      have hn10 := New.alloc1 w9 (y.o 25)
      go_upto_region 5 with (fail)
      obtain ⟨Y, hY⟩ : ∃ Y, Y = w9.heap.size := ⟨_, rfl⟩
      obtain ⟨w10, hw10⟩ : ∃ v, v = w9.alloc (y.o 25) := ⟨_, rfl⟩
      rw [← hY, ← hw10] at hY10
      rw [← hw10] at hn10
      rw [← hw10, ← hY]
      clear hw10 hY
      have M10 := (M8.then hn9).then hn10
      go_wp2_with fail
      refine (rdecode_r B m mc l _ (hrd6.new M10) hB (by omega)).mono ?_
      rintro e w11 ⟨hn11, z, rfl, hzo, hzp⟩
      rw [← HE.out]
      have HZP := hide hzp
      clear hzp
      have hZ12 := at_new w11 z
      have hn12 := New.alloc1 w11 (z.o 25)
      go_upto_region 6 with (fail)
      obtain ⟨Z, hZ⟩ : ∃ Y, Y = w11.heap.size := ⟨_, rfl⟩
      obtain ⟨w12, hw12⟩ : ∃ v, v = w11.alloc (z.o 25) := ⟨_, rfl⟩
      rw [← hZ, ← hw12] at hZ12
      rw [← hw12] at hn12
      rw [← hw12, ← hZ]
      clear hw12 hZ
      have M12 := (M10.then hn11).then hn12
      have hY12 := hY10.new (hn11.then hn12)
      have hX12 := hX6.new M12
      have hr7' := hr7.new ((hn8.then (hn9.then hn10)).then (hn11.then hn12))
      have hr8' := hr8.new ((hn9.then hn10).then (hn11.then hn12))
      obtain ⟨S, hS⟩ : ∃ S, S = strOfNums L := ⟨_, rfl⟩
      have q1 : ∀ y : Lat (fun _ => False) w12, (convert 23 9 (.slice A7 k c7)).run Try.prog y.W = .ok (.string S) y.W := fun y => by rw [hS]; exact Str.of (hr7'.new y.ext)
      have q2 : ∀ y : Lat (fun _ => False) w12, (convert 23 9 (.slice A8 k c8')).run Try.prog y.W = .ok (.string S) y.W := fun y => by rw [hS]; exact Str.of (hr8'.new y.ext)
      clear hS
      have fy0 := fun y : Lat (fun _ => False) w12 => (hY12.keep y.ext (fun h => h)).c0
      have fy1 := fun y : Lat (fun _ => False) w12 => (hY12.keep y.ext (fun h => h)).c1
      have fy2 := fun y : Lat (fun _ => False) w12 => (hY12.keep y.ext (fun h => h)).c2
      have fy3 := fun y : Lat (fun _ => False) w12 => (hY12.keep y.ext (fun h => h)).c3
      have fy4 := fun y : Lat (fun _ => False) w12 => (hY12.keep y.ext (fun h => h)).c4
      have fy5 := fun y : Lat (fun _ => False) w12 => (hY12.keep y.ext (fun h => h)).c5
      have fy6 := fun y : Lat (fun _ => False) w12 => (hY12.keep y.ext (fun h => h)).c6
      have fy7 := fun y : Lat (fun _ => False) w12 => (hY12.keep y.ext (fun h => h)).c7
      have fy8 := fun y : Lat (fun _ => False) w12 => (hY12.keep y.ext (fun h => h)).c8
      have fz0 := fun y : Lat (fun _ => False) w12 => (hZ12.keep y.ext (fun h => h)).c0
      have fz1 := fun y : Lat (fun _ => False) w12 => (hZ12.keep y.ext (fun h => h)).c1
      have fz2 := fun y : Lat (fun _ => False) w12 => (hZ12.keep y.ext (fun h => h)).c2
      have fz3 := fun y : Lat (fun _ => False) w12 => (hZ12.keep y.ext (fun h => h)).c3
      have fz4 := fun y : Lat (fun _ => False) w12 => (hZ12.keep y.ext (fun h => h)).c4
      have fz5 := fun y : Lat (fun _ => False) w12 => (hZ12.keep y.ext (fun h => h)).c5
      have fz6 := fun y : Lat (fun _ => False) w12 => (hZ12.keep y.ext (fun h => h)).c6
      have fz7 := fun y : Lat (fun _ => False) w12 => (hZ12.keep y.ext (fun h => h)).c7
      have fz8 := fun y : Lat (fun _ => False) w12 => (hZ12.keep y.ext (fun h => h)).c8
      have fx0 := fun y : Lat (fun _ => False) w12 => (hX12.keep y.ext (fun h => h)).c0
      have fx1 := fun y : Lat (fun _ => False) w12 => (hX12.keep y.ext (fun h => h)).c1
      have fx2 := fun y : Lat (fun _ => False) w12 => (hX12.keep y.ext (fun h => h)).c2
      have fx3 := fun y : Lat (fun _ => False) w12 => (hX12.keep y.ext (fun h => h)).c3
      have fx4 := fun y : Lat (fun _ => False) w12 => (hX12.keep y.ext (fun h => h)).c4
      have fx5 := fun y : Lat (fun _ => False) w12 => (hX12.keep y.ext (fun h => h)).c5
      have fx6 := fun y : Lat (fun _ => False) w12 => (hX12.keep y.ext (fun h => h)).c6
      have fx7 := fun y : Lat (fun _ => False) w12 => (hX12.keep y.ext (fun h => h)).c7
      have fx8 := fun y : Lat (fun _ => False) w12 => (hX12.keep y.ext (fun h => h)).c8
      refine mix_start (fun _ => False) w12 (by kernel_rfl) ?_
      refine mix_batch [0, 1, 2, 3, 4, 5, 6, 7, 8, 9, 10, 11, 12] (by kernel_rfl) 16 _ _ _ (by kernel_rfl) (lat_mem (by (repeat (first | exact Ext.refl _ _ | assumption | apply Ext.alloc | apply Ext.drewN | apply Ext.drew | refine Ext.setCell ?_ (fun h => by first | rfl | exact absurd h (by dsimp only; omega)) _)))) ?_
      simp only [pickOps, List.getD_cons_zero, List.getD_cons_succ]
      repeat (go_big_quiet_step (fail))
      refine wpQuiet_nil ?_
      refine mix_loud (i := 13) (by kernel_rfl) rfl (fun K hK => ?_)
      go_simp
      refine (rsame_r y z _ (hyo.new (hn10.then ((hn11.then hn12).then (show New w12 _ by (repeat (first | exact Ext.refl _ _ | assumption | apply Ext.alloc | apply Ext.drewN | apply Ext.drew | refine Ext.setCell ?_ (fun h => by first | rfl | exact absurd h (by dsimp only; omega)) _)))))) (hzo.new (hn12.then (show New w12 _ by (repeat (first | exact Ext.refl _ _ | assumption | apply Ext.alloc | apply Ext.drewN | apply Ext.drew | refine Ext.setCell ?_ (fun h => by first | rfl | exact absurd h (by dsimp only; omega)) _))))) true (by rw [HYP.out, HZP.out]; exact sm_self _)).mono ?_
      rintro e w13 ⟨rfl, hn13⟩
      have T13 : New w12 w13 := (show New w12 w12.drew by (repeat (first | exact Ext.refl _ _ | assumption | apply Ext.alloc | apply Ext.drewN | apply Ext.drew | refine Ext.setCell ?_ (fun h => by first | rfl | exact absurd h (by dsimp only; omega)) _))).then hn13
      refine hK.out _ _ (lat_mem T13) ?_
      clear hK
      refine mix_batch [14, 15, 16, 17, 18, 19, 20, 21, 22, 25] (by kernel_rfl) 5 _ _ _ (by kernel_rfl) (lat_mem (by (repeat (first | exact Ext.refl _ _ | assumption | apply Ext.alloc | apply Ext.drewN | apply Ext.drew | refine Ext.setCell ?_ (fun h => by first | rfl | exact absurd h (by dsimp only; omega)) _)))) ?_
      simp only [pickOps, List.getD_cons_zero, List.getD_cons_succ]
      repeat (go_big_quiet_step (fail))
      refine wpQuiet_nil ?_
      refine mix_loud (i := 23) (by kernel_rfl) rfl (fun K hK => ?_)
      go_simp
      refine (check_r p _ (hpo6.new (M12.then T13)) true HOK.out).mono ?_
      rintro e w14 ⟨rfl, hn14⟩
      have T14 : New w12 w14 := T13.then hn14
      refine hK.out _ _ (lat_mem T14) ?_
      clear hK
      refine mix_batch [24] (by kernel_rfl) 3 _ _ _ (by kernel_rfl) (lat_mem (by (repeat (first | exact Ext.refl _ _ | assumption | apply Ext.alloc | apply Ext.drewN | apply Ext.drew | refine Ext.setCell ?_ (fun h => by first | rfl | exact absurd h (by dsimp only; omega)) _)))) ?_
      simp only [pickOps, List.getD_cons_zero, List.getD_cons_succ]
      repeat (go_big_quiet_step (fail))
      refine wpQuiet_nil ?_
      refine mix_loud (i := 26) (by kernel_rfl) rfl (fun K hK => ?_)
      go_simp
      refine (is_r p _ (hpo6.new (M12.then T14)) true HOK.out).mono ?_
      rintro e w15 ⟨rfl, hn15⟩
      have T15 : New w12 w15 := T14.then hn15
      refine hK.out _ _ (lat_mem T15) ?_
      clear hK
      refine mix_batch [27, 28] (by kernel_rfl) 0 _ _ _ (by kernel_rfl) (lat_mem (by (repeat (first | exact Ext.refl _ _ | assumption | apply Ext.alloc | apply Ext.drewN | apply Ext.drew | refine Ext.setCell ?_ (fun h => by first | rfl | exact absurd h (by dsimp only; omega)) _)))) ?_
      simp only [pickOps, List.getD_cons_zero, List.getD_cons_succ]
      repeat (go_big_quiet_step (fail))
      refine wpQuiet_nil ?_
      refine wpAnyH_done (by kernel_rfl) (NoPanic.normal ?_) _
      clear q1 q2 fx0 fx1 fx2 fx3 fx4 fx5 fx6 fx7 fx8 fy0 fy1 fy2 fy3 fy4 fy5 fy6 fy7 fy8 fz0 fz1 fz2 fz3 fz4 fz5 fz6 fz7 fz8
      have M15 := M12.then T15
      have hX15 := hX6.new M15
      have x0 := hX15.c0
      have x1 := hX15.c1
      have x2 := hX15.c2
      have x3 := hX15.c3
      have x4 := hX15.c4
      have x5 := hX15.c5
      have x6 := hX15.c6
      have x7 := hX15.c7
      have x8 := hX15.c8
      go_wp2_with fail
      refine (size_r p _ (hpo6.new M15) (by omega) true HOK.out (k : Int) (by have := HKV.out; simp only [cond_true, cond_false]; omega)).mono ?_
      rintro e w16 ⟨rfl, hn16⟩
      have M16 := M15.then hn16
      have hX16 := hX6.new M16
      clear x0 x1 x2 x3 x4 x5 x6 x7 x8
      have x0 := hX16.c0
      have x1 := hX16.c1
      have x2 := hX16.c2
      have x3 := hX16.c3
      have x4 := hX16.c4
      have x5 := hX16.c5
      have x6 := hX16.c6
      have x7 := hX16.c7
      have x8 := hX16.c8
      go_wp2_with fail
      refine (is_r p _ (hpo6.new M16) true HOK.out).mono ?_
      rintro e w17 ⟨rfl, hn17⟩
      have M17 := M16.then hn17
      have hX17 := hX6.new M17
      clear x0 x1 x2 x3 x4 x5 x6 x7 x8
      go_wp2_with fail
      refine (awake_any _).mono ?_
      rintro e w20 ⟨rfl, hn20⟩
      go_wp2_with fail
      go_ret
      exact ⟨rfl, (N6.then M17).then hn20⟩
end Go.Proofs.Ytdgleplmmbkgfaa
