/- The law on what is issued and what was owed. -/
import Derived.Test.YtmonhhodbinagaaK18
import Derived.Test.YtmonhhodbinagaaK17
namespace Go.Proofs.Ytmonhhodbinagaa
open Go.RowKit Go.Maps
set_option maxRecDepth 100000

/-- Where the law stands: K the keys, O what was owed. -/
structure NmAt (w wr : World) (p : Nat) (s : PS) (K O : Nat) (a b : Int) : Prop where
  pn : Pn (fun j => (w.heap.size ≤ j ∧ j ≠ K) ∧ j ≠ O) wr p s
  n : New w wr
  kb : wr.heap[K]? = some (.cells #[.int .i64 2, .int .i64 3, .int .i64 4, .int .i64 1] 30)
  ob : wr.heap[O]? = some (.cells #[.int .i64 a, .int .i64 b] 3)
  ko : K < O
  lo : w.heap.size ≤ K
namespace NmAt
variable {w wr wr' : World} {p K O : Nat} {s s' : PS} {a b : Int}
theorem step (h : NmAt w wr p s K O a b) (hp : Pn (fun j => (w.heap.size ≤ j ∧ j ≠ K) ∧ j ≠ O) wr' p s') (he : Ext (fun j => (w.heap.size ≤ j ∧ j ≠ K) ∧ j ≠ O) wr wr') : NmAt w wr' p s' K O a b :=
  ⟨hp, h.n.trans he (fun k hk e => by omega), he.keep h.kb (fun e => e.1.2 rfl), he.keep h.ob (fun e => e.2 rfl), h.ko, h.lo⟩
theorem new (h : NmAt w wr p s K O a b) (he : New wr wr') : NmAt w wr' p s K O a b :=
  ⟨h.pn.new he, h.n.then he, he.keep h.kb, he.keep h.ob, h.ko, h.lo⟩
theorem k0 (h : NmAt w wr p s K O a b) : wr.cell? ⟨K, 0, none⟩ = some (.int .i64 2) := (blk_cell h.kb 0).trans rfl
theorem k1 (h : NmAt w wr p s K O a b) : wr.cell? ⟨K, 1, none⟩ = some (.int .i64 3) := (blk_cell h.kb 1).trans rfl
theorem k2 (h : NmAt w wr p s K O a b) : wr.cell? ⟨K, 2, none⟩ = some (.int .i64 4) := (blk_cell h.kb 2).trans rfl
theorem k3 (h : NmAt w wr p s K O a b) : wr.cell? ⟨K, 3, none⟩ = some (.int .i64 1) := (blk_cell h.kb 3).trans rfl
theorem o0 (h : NmAt w wr p s K O a b) : wr.cell? ⟨O, 0, none⟩ = some (.int .i64 a) := (blk_cell h.ob 0).trans rfl
theorem o1 (h : NmAt w wr p s K O a b) : wr.cell? ⟨O, 1, none⟩ = some (.int .i64 b) := (blk_cell h.ob 1).trans rfl
end NmAt
set_option maxHeartbeats 4000000 in
theorem law_nomore (A : Option Addr) (m c : Nat) (l : List Int) (cl : Int) (w : World) (hr : Rd w 1 A m c (l.map (Value.int .u8))) (wl : ∀ x ∈ l, (Lit.int .u8 x).wf = true) (_ : m * 1 ≤ 140737488351232) (wc : (Lit.int .u8 cl).wf = true) :
    Calls Try.prog 5 #[.slice A m c, .int .u8 cl] w fun e w' => e = .returned (.bool true) ∧ New w w' := by
  have hc := wf_of_u8 wc
  have hlen := hr.lenn
  have hcap := hr.cap
  have htop := hr.top
  have hwf : ∀ x ∈ l, 0 ≤ x ∧ x ≤ 255 := fun x hx => by have := wf_of_u8 (wl x hx); omega
  have HL := hide hlen
  have HW := hide hwf
  clear hlen hwf wl wc
  go_enter Try.func5, Try.ntmps5
  go_wp2_with fail
  refine (new_n 5 _ (by omega) (by omega)).mono ?_
  rintro e w1 ⟨p, rfl, h1, hn1⟩
  have hsz1 := hn1.size
  have h2 := h1.apart (o := .cells #[.int .i64 2, .int .i64 3, .int .i64 4, .int .i64 1] 30)
  have hkb := blk_new w1 (.cells #[.int .i64 2, .int .i64 3, .int .i64 4, .int .i64 1] 30)
  have hn2 := hn1.then (New.alloc1 w1 (.cells #[.int .i64 2, .int .i64 3, .int .i64 4, .int .i64 1] 30))
  clear h1 hn1
  go_wp2_with fail
  refine (know_n h2 (2, 3) _ (by decide) (by omega) rfl (by decide)).mono ?_
  rintro e w3 ⟨rfl, h3, he3⟩
  have hkb3 := he3.keep hkb (fun e => e.2 rfl)
  have hn3 : New w w3 := hn2.trans he3 (fun k hk e => by omega)
  have k2 := (blk_cell hkb3 2).trans rfl
  have k3 := (blk_cell hkb3 3).trans rfl
  clear h2 hkb hn2 he3
  go_wp2_with fail
  obtain ⟨hf1, hnm⟩ := Nm.zero ((cl : Int) % 2) (cl / 2 % 2) (by omega) (by omega)
  refine (know_n (S := fun k => w.heap.size ≤ k ∧ k ≠ w1.heap.size) h3 (4, 1) _ (by decide) (by omega) hf1 (by simp [knowS, fresh])).mono ?_
  rintro e w4 ⟨rfl, h4, he4⟩
  have hkb4 := he4.keep hkb3 (fun e => e.2 rfl)
  have hn4 : New w w4 := hn3.trans he4 (fun k hk e => by omega)
  clear h3 hkb3 hn3 he4 k2 k3
  go_wp2_with fail
  refine (awake_p _).mono ?_
  rintro e w5 ⟨rfl, hn5⟩
  have h5 := h4.new hn5
  have hkb5 := hn5.keep hkb4
  have hn5' := hn4.then hn5
  clear h4 hkb4 hn4 hn5
  have hlk := blk_lt hkb5
  have hA : NmAt w (w5.alloc (.cells #[.int .i64 0, .int .i64 0] 3)) p _ w1.heap.size w5.heap.size 0 0 := ⟨h5.apart, hn5'.then (New.alloc1 _ _), blk_alloc hkb5 _, blk_new _ _, hlk, hsz1⟩
  clear h5 hkb5 hn5' hf1
  obtain ⟨K, hK⟩ : ∃ K, K = w1.heap.size := ⟨_, rfl⟩
  obtain ⟨O, hO⟩ : ∃ O, O = w5.heap.size := ⟨_, rfl⟩
  go_wp2_with fail
  rw [← hK, ← hO] at hA
  rw [← hK, ← hO]
  clear hlk hK hO
  go_loopw [9] (fun s9 wr => ∃ (i : Nat) (s : PS) (a b : Int), i ≤ m ∧ i ≤ 100 ∧ s9 = .int .i64 i ∧ NmAt w wr p s K O a b ∧ Nm s a b ∧ 0 ≤ a ∧ 0 ≤ b ∧ a ≤ 8 * i ∧ b ≤ 8 * i) (fun a _ => m - (intOf a).toNat)
  case atStart => exact ⟨0, _, 0, 0, by omega, by omega, rfl, hA, hnm, by omega, by omega, by omega, by omega⟩
  case round =>
    clear hA
    obtain ⟨i, s, a, b, hi, hi100, rfl, h, hm0, ha0, hb0, ha, hb⟩ := hrel
    by_cases him : i < m
    · have d1 : decide ((i : Int) < m) = true := decide_eq_true (by omega)
      have d1n : decide (i < m) = true := decide_eq_true (by omega)
      by_cases hi1 : i < 100
      · have d2 : decide ((i : Int) < 100) = true := decide_eq_true (by omega)
        have d2n : decide (i < 100) = true := decide_eq_true (by omega)
        obtain ⟨ad, rfl⟩ := hr.some (by omega)
        obtain ⟨x, hx⟩ : ∃ x, l[i]? = some x := ⟨_, List.getElem?_eq_getElem (by have := HL.out; omega)⟩
        have hcx := (hr.new h.n).celln hx
        obtain ⟨hx0, hx1⟩ := HW.out x (List.mem_of_getElem? hx)
        clear hx
        go_upto_if 74 with (fail)
        obtain ⟨z, hz⟩ : ∃ z, z = x % 3 := ⟨_, rfl⟩
        rw [← hz]
        have hz3 : z = 0 ∨ z = 1 ∨ z = 2 := by omega
        clear hz
        go_cut [] (fun wc => ∃ (s : PS) (a b : Int), NmAt w wc p s K O a b ∧ Nm s a b ∧ 0 ≤ a ∧ 0 ≤ b ∧ a ≤ 8 * ((i : Int) + 1) ∧ b ≤ 8 * ((i : Int) + 1))
        case first =>
          obtain rfl | rfl | rfl := hz3
          · have k0 := h.k0
            have k1 := h.k1
            go_wp2_with fail
            obtain ⟨y, hy, hy1, hnm⟩ := hm0.owe0 (1 + x / 32) (by omega) (by omega) (by omega)
            have HY := hide hy
            clear hy
            refine (owe_n h.pn (2, 3) (1 + x / 32) y HY.out (by omega) hy1).mono ?_
            rintro e w6 ⟨rfl, h6, he6⟩
            have h6' := h.step h6 he6
            clear k0 k1 h6 he6
            have o0 := h6'.o0
            have of0 := blk_free h6'.ob 0
            go_wp2_with fail
            go_meet
            have e7 : Ext (fun j => j = O) w6 (w6.setCell ⟨O, 0, none⟩ (.int .i64 (a + (1 + x / 32)))) := (Ext.refl _ _).set (by rfl)
            have hko := h6'.ko
            have hlo := h6'.lo
            exact ⟨_, a + (1 + x / 32), b, ⟨h6'.pn.keep e7 (fun k hk e => hk.2 e), h6'.n.trans e7 (fun k hk e => by omega), e7.keep h6'.kb (by omega), blk_set h6'.ob 0 _, hko, hlo⟩, hnm, by omega, by omega, by omega, by omega⟩
          · have k2 := h.k2
            have k3 := h.k3
            go_wp2_with fail
            obtain ⟨y, hy, hy1, hnm⟩ := hm0.owe1 (1 + x / 32) (by omega) (by omega) (by omega)
            have HY := hide hy
            clear hy
            refine (owe_n h.pn (4, 1) (1 + x / 32) y HY.out (by omega) hy1).mono ?_
            rintro e w6 ⟨rfl, h6, he6⟩
            have h6' := h.step h6 he6
            clear k2 k3 h6 he6
            have o1 := h6'.o1
            have of1 := blk_free h6'.ob 1
            go_wp2_with fail
            go_meet
            have e7 : Ext (fun j => j = O) w6 (w6.setCell ⟨O, 1, none⟩ (.int .i64 (b + (1 + x / 32)))) := (Ext.refl _ _).set (by rfl)
            have hko := h6'.ko
            have hlo := h6'.lo
            exact ⟨_, a, b + (1 + x / 32), ⟨h6'.pn.keep e7 (fun k hk e => hk.2 e), h6'.n.trans e7 (fun k hk e => by omega), e7.keep h6'.kb (by omega), blk_set h6'.ob 1 _, hko, hlo⟩, hnm, by omega, by omega, by omega, by omega⟩
          · obtain ⟨P0, hP0⟩ : ∃ v, v = (ofK s.L (2, 3)).pend := ⟨_, rfl⟩
            obtain ⟨P1, hP1⟩ : ∃ v, v = (ofK s.L (4, 1)).pend := ⟨_, rfl⟩
            have hof0 := hm0.of0
            have hof1 := hm0.of1
            have hwt := hm0.waits
            have htot := hm0.tot
            rw [← hP0] at hof0 hwt
            rw [← hP1] at hof1 hwt
            have hP0b : 0 ≤ P0 ∧ P0 ≤ 1000 := by omega
            have hP1b : 0 ≤ P1 ∧ P1 ≤ 1000 := by omega
            have htb : s.total ≤ 2000 := by omega
            have H0 := hide hP0
            have H1 := hide hP1
            have HWT := hide hwt
            clear hP0 hP1 hof0 hof1 hwt htot
            obtain ⟨hP00, hP01⟩ := hP0b
            obtain ⟨hP10, hP11⟩ := hP1b
            go_wp2_with fail
            have q0 : ∀ y : Lat (fun _ => False) wr, y.W.cell? ⟨K, 0, none⟩ = some (.int .i64 2) := fun y => (h.new y.ext).k0
            have q1 : ∀ y : Lat (fun _ => False) wr, y.W.cell? ⟨K, 1, none⟩ = some (.int .i64 3) := fun y => (h.new y.ext).k1
            have q2 : ∀ y : Lat (fun _ => False) wr, y.W.cell? ⟨K, 2, none⟩ = some (.int .i64 4) := fun y => (h.new y.ext).k2
            have q3 : ∀ y : Lat (fun _ => False) wr, y.W.cell? ⟨K, 3, none⟩ = some (.int .i64 1) := fun y => (h.new y.ext).k3
            refine mix_start (fun _ => False) wr (by kernel_rfl) ?_
            refine mix_batch [0, 1, 2, 3, 5, 6, 7, 8] (by kernel_rfl) 5 _ _ _ (by kernel_rfl) (lat_mem (by (repeat (first | exact Ext.refl _ _ | assumption | apply Ext.alloc | apply Ext.drewN | apply Ext.drew | refine Ext.setCell ?_ (fun h => by first | rfl | exact absurd h (by dsimp only; omega)) _)))) ?_
            simp only [pickOps, List.getD_cons_zero, List.getD_cons_succ]
            repeat (go_big_quiet_step (fail))
            refine wpQuiet_nil ?_
            refine mix_loud (i := 4) (by kernel_rfl) rfl (fun K hK => ?_)
            go_simp
            refine (pending_n (h.pn.new (show New wr _ by (repeat (first | exact Ext.refl _ _ | assumption | apply Ext.alloc | apply Ext.drewN | apply Ext.drew | refine Ext.setCell ?_ (fun h => by first | rfl | exact absurd h (by dsimp only; omega)) _)))) (2, 3) (show may (2, 3) by decide).wf P0 H0.out).mono ?_
            rintro e w6 ⟨rfl, hn6⟩
            have hn6' : New wr w6 := (show New wr wr.drew by (repeat (first | exact Ext.refl _ _ | assumption | apply Ext.alloc | apply Ext.drewN | apply Ext.drew | refine Ext.setCell ?_ (fun h => by first | rfl | exact absurd h (by dsimp only; omega)) _))).then hn6
            refine hK.out _ _ (lat_mem hn6') ?_
            clear hK
            refine mix_loud (i := 9) (by kernel_rfl) rfl (fun K hK => ?_)
            go_simp
            refine (pending_n (h.pn.new hn6') (4, 1) (show may (4, 1) by decide).wf P1 H1.out).mono ?_
            rintro e w7 ⟨rfl, hn7⟩
            have hn7' : New wr w7 := hn6'.then hn7
            refine hK.out _ _ (lat_mem hn7') (mix_next hn7' (fun _ _ h => h) ?_)
            clear hK
            have es : IntKind.i64.wrap (P0 + P1) = P0 + P1 := IntWalk.i64_in _ (by omega)
            refine mix_batch [10, 11, 12] (by kernel_rfl) 0 _ _ _ (by kernel_rfl) (lat_mem (by (repeat (first | exact Ext.refl _ _ | assumption | apply Ext.alloc | apply Ext.drewN | apply Ext.drew | refine Ext.setCell ?_ (fun h => by first | rfl | exact absurd h (by dsimp only; omega)) _)))) ?_
            simp only [pickOps, List.getD_cons_zero, List.getD_cons_succ]
            repeat (go_big_quiet_step (fail))
            refine wpQuiet_nil ?_
            refine wpAnyH_done (by kernel_rfl) (NoPanic.normal ?_) _
            clear q0 q1 q2 q3 es
            have h7 := h.new hn7'
            rcases HWT.out with ⟨hpos, s', x', hx'⟩ | ⟨hz, hu0, hu1⟩
            · have e5 : decide (0 < P0 + P1) = true := decide_eq_true hpos
              have hnm' := hm0.tick hx'
              have HX := hide hx'
              clear hx'
              go_wp2_with fail
              refine (tick_n h7.pn HX.out (by omega) x'.k.1 x'.k.2 (x'.iss + 1) rfl rfl).mono ?_
              rintro e w8 ⟨rfl, h8, he8⟩
              have h8' := (h7.step h8 he8).new (New.alloc1 w8 (.cells #[.int .i64 x'.k.1, .int .i64 x'.k.2, .int .i64 (x'.iss + 1)] 32))
              go_wp2_with fail
              go_meet
              exact ⟨_, a, b, h8', hnm', by omega, by omega, by omega, by omega⟩
            · have e5 : decide (0 < P0 + P1) = false := decide_eq_false (by omega)
              have HU0 := hide hu0
              have HU1 := hide hu1
              clear hu0 hu1 hz
              go_wp2_with fail
              refine (tick_nno h7.pn HU0.out HU1.out).mono ?_
              rintro e w8 ⟨rfl, h8, he8⟩
              have h8' := (h7.step h8 he8).new (New.alloc1 w8 (.cells #[.int .i64 0, .int .i64 0, .int .i64 0] 32))
              go_wp2_with fail
              go_meet
              exact ⟨_, a, b, h8', hm0, by omega, by omega, by omega, by omega⟩
        case rest =>
          clear h
          obtain ⟨s, a, b, h, hm0, ha0, hb0, ha, hb⟩ := hcut
          go_wp2_with fail
          go_loopw [15] (fun s15 wc => (s15 = .int .i64 0 ∨ s15 = .int .i64 1 ∨ s15 = .int .i64 2) ∧ NmAt w wc p s K O a b) (fun a _ => 2 - (intOf a).toNat)
          case atStart => exact ⟨.inl rfl, h⟩
          case round =>
            clear h
            obtain ⟨rfl | rfl | rfl, h⟩ := hrel
            · obtain ⟨P0, hP0⟩ : ∃ v, v = (ofK s.L (2, 3)).pend := ⟨_, rfl⟩
              obtain ⟨I0, hI0⟩ : ∃ v, v = (ofK s.L (2, 3)).iss := ⟨_, rfl⟩
              have hof0 := hm0.of0
              rw [← hP0, ← hI0] at hof0
              have H0 := hide hP0
              have H1 := hide hI0
              obtain ⟨hab, hP00, hI00⟩ := hof0
              have eab : (I0 + P0 != a) = false := by simp [hab]
              have ep : decide (P0 < 0) = false := decide_eq_false (by omega)
              have hP01 : P0 ≤ 1000 := by omega
              have hI01 : I0 ≤ 1000 := by omega
              have es : IntKind.i64.wrap (I0 + P0) = I0 + P0 := IntWalk.i64_in _ (by omega)
              clear hP0 hI0 hab
              go_wp2_with fail
              have q0 : ∀ y : Lat (fun _ => False) wr, y.W.cell? ⟨K, 0, none⟩ = some (.int .i64 2) := fun y => (h.new y.ext).k0
              have q1 : ∀ y : Lat (fun _ => False) wr, y.W.cell? ⟨K, 1, none⟩ = some (.int .i64 3) := fun y => (h.new y.ext).k1
              have q2 : ∀ y : Lat (fun _ => False) wr, y.W.cell? ⟨O, 0, none⟩ = some (.int .i64 a) := fun y => (h.new y.ext).o0
              refine mix_start (fun _ => False) wr (by kernel_rfl) ?_
              refine mix_batch [0, 1, 2, 3, 4, 6, 7, 8, 9, 10, 13, 14, 15, 16] (by kernel_rfl) 13 _ _ _ (by kernel_rfl) (lat_mem (by (repeat (first | exact Ext.refl _ _ | assumption | apply Ext.alloc | apply Ext.drewN | apply Ext.drew | refine Ext.setCell ?_ (fun h => by first | rfl | exact absurd h (by dsimp only; omega)) _)))) ?_
              simp only [pickOps, List.getD_cons_zero, List.getD_cons_succ]
              repeat (go_big_quiet_step (fail))
              refine wpQuiet_nil ?_
              refine mix_loud (i := 5) (by kernel_rfl) rfl (fun K hK => ?_)
              go_simp
              refine (issued_n (h.pn.new (show New wr _ by (repeat (first | exact Ext.refl _ _ | assumption | apply Ext.alloc | apply Ext.drewN | apply Ext.drew | refine Ext.setCell ?_ (fun h => by first | rfl | exact absurd h (by dsimp only; omega)) _)))) (2, 3) (show may (2, 3) by decide).wf I0 H1.out).mono ?_
              rintro e w6 ⟨rfl, hn6⟩
              have hn6' : New wr w6 := (show New wr wr.drew by (repeat (first | exact Ext.refl _ _ | assumption | apply Ext.alloc | apply Ext.drewN | apply Ext.drew | refine Ext.setCell ?_ (fun h => by first | rfl | exact absurd h (by dsimp only; omega)) _))).then hn6
              refine hK.out _ _ (lat_mem hn6') ?_
              clear hK
              refine mix_loud (i := 11) (by kernel_rfl) rfl (fun K hK => ?_)
              go_simp
              refine (pending_n (h.pn.new hn6') (2, 3) (show may (2, 3) by decide).wf P0 H0.out).mono ?_
              rintro e w7 ⟨rfl, hn7⟩
              have hn7' : New wr w7 := hn6'.then hn7
              refine hK.out _ _ (lat_mem hn7') ?_
              clear hK
              refine mix_batch [12, 17, 18, 19, 20, 21, 22, 23] (by kernel_rfl) 3 _ _ _ (by kernel_rfl) (lat_mem (by (repeat (first | exact Ext.refl _ _ | assumption | apply Ext.alloc | apply Ext.drewN | apply Ext.drew | refine Ext.setCell ?_ (fun h => by first | rfl | exact absurd h (by dsimp only; omega)) _)))) ?_
              simp only [pickOps, List.getD_cons_zero, List.getD_cons_succ]
              repeat (go_big_quiet_step (fail))
              refine wpQuiet_nil ?_
              refine mix_loud (i := 24) (by kernel_rfl) rfl (fun K hK => ?_)
              go_simp
              refine (pending_n (h.pn.new hn7') (2, 3) (show may (2, 3) by decide).wf P0 H0.out).mono ?_
              rintro e w8 ⟨rfl, hn8⟩
              have hn8' : New wr w8 := hn7'.then hn8
              refine hK.out _ _ (lat_mem hn8') ?_
              clear hK
              refine mix_batch [25, 26] (by kernel_rfl) 0 _ _ _ (by kernel_rfl) (lat_mem (by (repeat (first | exact Ext.refl _ _ | assumption | apply Ext.alloc | apply Ext.drewN | apply Ext.drew | refine Ext.setCell ?_ (fun h => by first | rfl | exact absurd h (by dsimp only; omega)) _)))) ?_
              simp only [pickOps, List.getD_cons_zero, List.getD_cons_succ]
              repeat (go_big_quiet_step (fail))
              refine wpQuiet_nil ?_
              refine wpAnyH_done (by kernel_rfl) (NoPanic.normal ?_) _
              clear q0 q1 q2 es
              have h8 := h.new hn8'
              go_wp2_with fail
              exact ⟨⟨.inr (.inl rfl), h8⟩, by simp [intOf]⟩
            · obtain ⟨P0, hP0⟩ : ∃ v, v = (ofK s.L (4, 1)).pend := ⟨_, rfl⟩
              obtain ⟨I0, hI0⟩ : ∃ v, v = (ofK s.L (4, 1)).iss := ⟨_, rfl⟩
              have hof0 := hm0.of1
              rw [← hP0, ← hI0] at hof0
              have H0 := hide hP0
              have H1 := hide hI0
              obtain ⟨hab, hP00, hI00⟩ := hof0
              have eab : (I0 + P0 != b) = false := by simp [hab]
              have ep : decide (P0 < 0) = false := decide_eq_false (by omega)
              have hP01 : P0 ≤ 1000 := by omega
              have hI01 : I0 ≤ 1000 := by omega
              have es : IntKind.i64.wrap (I0 + P0) = I0 + P0 := IntWalk.i64_in _ (by omega)
              clear hP0 hI0 hab
              go_wp2_with fail
              have q0 : ∀ y : Lat (fun _ => False) wr, y.W.cell? ⟨K, 2, none⟩ = some (.int .i64 4) := fun y => (h.new y.ext).k2
              have q1 : ∀ y : Lat (fun _ => False) wr, y.W.cell? ⟨K, 3, none⟩ = some (.int .i64 1) := fun y => (h.new y.ext).k3
              have q2 : ∀ y : Lat (fun _ => False) wr, y.W.cell? ⟨O, 1, none⟩ = some (.int .i64 b) := fun y => (h.new y.ext).o1
              refine mix_start (fun _ => False) wr (by kernel_rfl) ?_
              refine mix_batch [0, 1, 2, 3, 4, 6, 7, 8, 9, 10, 13, 14, 15, 16] (by kernel_rfl) 13 _ _ _ (by kernel_rfl) (lat_mem (by (repeat (first | exact Ext.refl _ _ | assumption | apply Ext.alloc | apply Ext.drewN | apply Ext.drew | refine Ext.setCell ?_ (fun h => by first | rfl | exact absurd h (by dsimp only; omega)) _)))) ?_
              simp only [pickOps, List.getD_cons_zero, List.getD_cons_succ]
              repeat (go_big_quiet_step (fail))
              refine wpQuiet_nil ?_
              refine mix_loud (i := 5) (by kernel_rfl) rfl (fun K hK => ?_)
              go_simp
              refine (issued_n (h.pn.new (show New wr _ by (repeat (first | exact Ext.refl _ _ | assumption | apply Ext.alloc | apply Ext.drewN | apply Ext.drew | refine Ext.setCell ?_ (fun h => by first | rfl | exact absurd h (by dsimp only; omega)) _)))) (4, 1) (show may (4, 1) by decide).wf I0 H1.out).mono ?_
              rintro e w6 ⟨rfl, hn6⟩
              have hn6' : New wr w6 := (show New wr wr.drew by (repeat (first | exact Ext.refl _ _ | assumption | apply Ext.alloc | apply Ext.drewN | apply Ext.drew | refine Ext.setCell ?_ (fun h => by first | rfl | exact absurd h (by dsimp only; omega)) _))).then hn6
              refine hK.out _ _ (lat_mem hn6') ?_
              clear hK
              refine mix_loud (i := 11) (by kernel_rfl) rfl (fun K hK => ?_)
              go_simp
              refine (pending_n (h.pn.new hn6') (4, 1) (show may (4, 1) by decide).wf P0 H0.out).mono ?_
              rintro e w7 ⟨rfl, hn7⟩
              have hn7' : New wr w7 := hn6'.then hn7
              refine hK.out _ _ (lat_mem hn7') ?_
              clear hK
              refine mix_batch [12, 17, 18, 19, 20, 21, 22, 23] (by kernel_rfl) 3 _ _ _ (by kernel_rfl) (lat_mem (by (repeat (first | exact Ext.refl _ _ | assumption | apply Ext.alloc | apply Ext.drewN | apply Ext.drew | refine Ext.setCell ?_ (fun h => by first | rfl | exact absurd h (by dsimp only; omega)) _)))) ?_
              simp only [pickOps, List.getD_cons_zero, List.getD_cons_succ]
              repeat (go_big_quiet_step (fail))
              refine wpQuiet_nil ?_
              refine mix_loud (i := 24) (by kernel_rfl) rfl (fun K hK => ?_)
              go_simp
              refine (pending_n (h.pn.new hn7') (4, 1) (show may (4, 1) by decide).wf P0 H0.out).mono ?_
              rintro e w8 ⟨rfl, hn8⟩
              have hn8' : New wr w8 := hn7'.then hn8
              refine hK.out _ _ (lat_mem hn8') ?_
              clear hK
              refine mix_batch [25, 26] (by kernel_rfl) 0 _ _ _ (by kernel_rfl) (lat_mem (by (repeat (first | exact Ext.refl _ _ | assumption | apply Ext.alloc | apply Ext.drewN | apply Ext.drew | refine Ext.setCell ?_ (fun h => by first | rfl | exact absurd h (by dsimp only; omega)) _)))) ?_
              simp only [pickOps, List.getD_cons_zero, List.getD_cons_succ]
              repeat (go_big_quiet_step (fail))
              refine wpQuiet_nil ?_
              refine wpAnyH_done (by kernel_rfl) (NoPanic.normal ?_) _
              clear q0 q1 q2 es
              have h8 := h.new hn8'
              go_wp2_with fail
              exact ⟨⟨.inr (.inr rfl), h8⟩, by simp [intOf]⟩
            · obtain ⟨I0, hI0⟩ : ∃ v, v = (ofK s.L (2, 3)).iss := ⟨_, rfl⟩
              obtain ⟨I1, hI1⟩ : ∃ v, v = (ofK s.L (4, 1)).iss := ⟨_, rfl⟩
              obtain ⟨t, htt⟩ : ∃ v, v = s.total := ⟨_, rfl⟩
              have hof0 := hm0.of0
              have hof1 := hm0.of1
              have htot := hm0.tot
              rw [← hI0] at hof0
              rw [← hI1] at hof1
              rw [← hI0, ← hI1, ← htt] at htot
              have H0 := hide hI0
              have H1 := hide hI1
              have HT := hide htt
              have eab : (I0 + I1 != t) = false := by simp [htot]
              have hb0' := hb0
              have hI00 : 0 ≤ I0 := by omega
              have hI10 : 0 ≤ I1 := by omega
              have hb2 : I0 ≤ 1000 := by omega
              have hb3 : I1 ≤ 1000 := by omega
              have es : IntKind.i64.wrap (I0 + I1) = I0 + I1 := IntWalk.i64_in _ (by omega)
              clear hI0 hI1 htt hof0 hof1 htot
              go_wp2_with fail
              have q0 : ∀ y : Lat (fun _ => False) wr, y.W.cell? ⟨K, 0, none⟩ = some (.int .i64 2) := fun y => (h.new y.ext).k0
              have q1 : ∀ y : Lat (fun _ => False) wr, y.W.cell? ⟨K, 1, none⟩ = some (.int .i64 3) := fun y => (h.new y.ext).k1
              have q2 : ∀ y : Lat (fun _ => False) wr, y.W.cell? ⟨K, 2, none⟩ = some (.int .i64 4) := fun y => (h.new y.ext).k2
              have q3 : ∀ y : Lat (fun _ => False) wr, y.W.cell? ⟨K, 3, none⟩ = some (.int .i64 1) := fun y => (h.new y.ext).k3
              refine mix_start (fun _ => False) wr (by kernel_rfl) ?_
              refine mix_batch [0, 1, 2, 3, 5, 6, 7, 8, 11] (by kernel_rfl) 5 _ _ _ (by kernel_rfl) (lat_mem (by (repeat (first | exact Ext.refl _ _ | assumption | apply Ext.alloc | apply Ext.drewN | apply Ext.drew | refine Ext.setCell ?_ (fun h => by first | rfl | exact absurd h (by dsimp only; omega)) _)))) ?_
              simp only [pickOps, List.getD_cons_zero, List.getD_cons_succ]
              repeat (go_big_quiet_step (fail))
              refine wpQuiet_nil ?_
              refine mix_loud (i := 4) (by kernel_rfl) rfl (fun K hK => ?_)
              go_simp
              refine (issued_n (h.pn.new (show New wr _ by (repeat (first | exact Ext.refl _ _ | assumption | apply Ext.alloc | apply Ext.drewN | apply Ext.drew | refine Ext.setCell ?_ (fun h => by first | rfl | exact absurd h (by dsimp only; omega)) _)))) (2, 3) (show may (2, 3) by decide).wf I0 H0.out).mono ?_
              rintro e w6 ⟨rfl, hn6⟩
              have hn6' : New wr w6 := (show New wr wr.drew by (repeat (first | exact Ext.refl _ _ | assumption | apply Ext.alloc | apply Ext.drewN | apply Ext.drew | refine Ext.setCell ?_ (fun h => by first | rfl | exact absurd h (by dsimp only; omega)) _))).then hn6
              refine hK.out _ _ (lat_mem hn6') ?_
              clear hK
              refine mix_loud (i := 9) (by kernel_rfl) rfl (fun K hK => ?_)
              go_simp
              refine (issued_n (h.pn.new hn6') (4, 1) (show may (4, 1) by decide).wf I1 H1.out).mono ?_
              rintro e w7 ⟨rfl, hn7⟩
              have hn7' : New wr w7 := hn6'.then hn7
              refine hK.out _ _ (lat_mem hn7') ?_
              clear hK
              refine mix_batch [10] (by kernel_rfl) 2 _ _ _ (by kernel_rfl) (lat_mem (by (repeat (first | exact Ext.refl _ _ | assumption | apply Ext.alloc | apply Ext.drewN | apply Ext.drew | refine Ext.setCell ?_ (fun h => by first | rfl | exact absurd h (by dsimp only; omega)) _)))) ?_
              simp only [pickOps, List.getD_cons_zero, List.getD_cons_succ]
              repeat (go_big_quiet_step (fail))
              refine wpQuiet_nil ?_
              refine mix_loud (i := 12) (by kernel_rfl) rfl (fun K hK => ?_)
              go_simp
              refine (total_n (h.pn.new hn7') t HT.out).mono ?_
              rintro e w8 ⟨rfl, rfl⟩
              refine hK.out _ _ (lat_mem hn7') ?_
              clear hK
              refine mix_batch [13] (by kernel_rfl) 0 _ _ _ (by kernel_rfl) (lat_mem (by (repeat (first | exact Ext.refl _ _ | assumption | apply Ext.alloc | apply Ext.drewN | apply Ext.drew | refine Ext.setCell ?_ (fun h => by first | rfl | exact absurd h (by dsimp only; omega)) _)))) ?_
              simp only [pickOps, List.getD_cons_zero, List.getD_cons_succ]
              repeat (go_big_quiet_step (fail))
              refine wpQuiet_nil ?_
              refine wpAnyH_done (by kernel_rfl) (NoPanic.normal ?_) _
              clear q0 q1 q2 q3 es
              have h8 := h.new hn7'
              go_wp2_with fail
              exact ⟨⟨i + 1, s, a, b, by omega, by omega, by go_num, h8, hm0, ha0, hb0', by omega, by omega⟩, by simp [intOf]; omega⟩
      · have d2 : decide ((i : Int) < 100) = false := decide_eq_false (by omega)
        have d2n : decide (i < 100) = false := decide_eq_false (by omega)
        go_wp2_with fail
        go_ret
        exact ⟨rfl, h.n⟩
    · have d1 : decide ((i : Int) < m) = false := decide_eq_false (by omega)
      have d1n : decide (i < m) = false := decide_eq_false (by omega)
      go_wp2_with fail
      go_ret
      exact ⟨rfl, h.n⟩
end Go.Proofs.Ytmonhhodbinagaa
