/- Walk: keys of class 1, turn by turn. -/
import Derived.Test.YtmonhhodbinagaaK13
import Derived.Test.YtmonhhodbinagaaW
namespace Go.Proofs.Ytmonhhodbinagaa
open Go.RowKit Go.Maps
set_option maxRecDepth 100000

/-- Where the law stands. -/
def FairAt1 (w wr : World) (p : Nat) (s : PS) : Prop := Pn (fun k => w.heap.size ≤ k) wr p s ∧ New w wr
theorem FairAt1.step {w wr wr' : World} {p : Nat} {s s' : PS} (h : FairAt1 w wr p s) (hp : Pn (fun k => w.heap.size ≤ k) wr' p s') (he : Ext (fun k => w.heap.size ≤ k) wr wr') : FairAt1 w wr' p s' := ⟨hp, h.2.trans he (fun k hk e => by omega)⟩
theorem FairAt1.new {w wr wr' : World} {p : Nat} {s : PS} (h : FairAt1 w wr p s) (he : New wr wr') : FairAt1 w wr' p s := ⟨h.1.new he, h.2.then he⟩
theorem kw_of1 {s s' : PS} {x : Kn} (h : s.Wf) (ht : tickS s = some (s', x)) : kwf x.k ∧ 0 ≤ x.iss ∧ x.iss ≤ s.total := by
  obtain ⟨_, _, t⟩ := h.turn_inv ht
  exact ⟨(h.may x t.mem).wf, h.i0 x t.mem, h.i1 x t.mem⟩
set_option maxHeartbeats 4000000 in
theorem fair1 (n : Int) (A : Option Addr) (m c : Nat) (l : List Int) (turns : Int) (w : World) (wn : (Lit.int .u8 n).wf = true) (hr : Rd w 1 A m c (l.map (Value.int .u8))) (wl : ∀ x ∈ l, (Lit.int .u8 x).wf = true) (wt : (Lit.int .u8 turns).wf = true) :
    Calls Try.prog 3 #[.int .u8 n, .slice A m c, .bool true, .int .u8 turns] w fun e w' => e = .returned (.bool true) ∧ New w w' := by
  have hn := wf_of_u8 wn
  have ht := wf_of_u8 wt
  obtain ⟨n, rfl⟩ : ∃ k : Nat, n = k := ⟨n.toNat, by omega⟩
  obtain ⟨T, rfl⟩ : ∃ k : Nat, turns = k := ⟨turns.toNat, by omega⟩
  obtain ⟨k, hk⟩ : ∃ k, k = 1 + n % 8 := ⟨_, rfl⟩
  have hk1 : 1 ≤ k := by omega
  have hk8 : k ≤ 8 := by omega
  have hkk : (1 : Int) + (n : Int) % 8 = k := by omega
  have hlen : l.length = m := by have := hr.len; simpa using this
  have hcap := hr.cap
  have htop := hr.top
  have hwf : ∀ x ∈ l, 0 ≤ x ∧ x ≤ 255 := fun x hx => by have := wf_of_u8 (wl x hx); omega
  have HK := hide hkk
  have HL := hide hlen
  have HW := hide hwf
  clear hkk hlen hwf wl wn wt hk
  go_enter Try.func3, Try.ntmps3
  go_wp2_with fail
  refine (new_n 20 _ (by omega) (by omega)).mono ?_
  rintro e w1 ⟨p, rfl, h1, hn1⟩
  have hF : FairAt1 w w1 p (fresh 20) := ⟨h1, hn1⟩
  clear h1 hn1
  go_wp2_with fail
  refine (awake_p _).mono ?_
  rintro e w2 ⟨rfl, hn2⟩
  replace hF := hF.new hn2
  clear hn2
  go_wp2_with fail
  rw [HK.out]
  go_loopw [13] (fun s13 wr => ∃ (i : Nat) (s : PS), i ≤ k ∧ s13 = .int .i64 i ∧ FairAt1 w wr p s ∧ Fs 1 i s) (fun a _ => k - (intOf a).toNat)
  case atStart => exact ⟨0, _, by omega, rfl, hF, Fs.zero _⟩
  case round =>
    obtain ⟨i, s, hi, rfl, h, hs⟩ := hrel
    by_cases hik : i < k
    · have d1 : decide ((i : Int) < k) = true := decide_eq_true (by omega)
      have d1n : decide (i < k) = true := decide_eq_true (by omega)
      go_upto_if 47 with (fail)
      go_cut [14] (fun s14 wc => wr = wc ∧ ∃ o : Int, s14 = .int .i64 o ∧ 300 ≤ o ∧ o ≤ 555)
      case first =>
        by_cases him : i < m
        · have d2 : decide ((i : Int) < m) = true := decide_eq_true (by omega)
          have d2n : decide (i < m) = true := decide_eq_true (by omega)
          obtain ⟨ad, rfl⟩ := hr.some (by omega)
          obtain ⟨x, hx⟩ : ∃ x, l[i]? = some x := ⟨_, List.getElem?_eq_getElem (by have := HL.out; omega)⟩
          have hcx := (hr.new h.2).celln hx
          have hxb := HW.out x (List.mem_of_getElem? hx)
          clear hx
          go_wp2_with fail
          go_meet
          exact ⟨rfl, 300 + x, rfl, by omega, by omega⟩
        · have d2 : decide ((i : Int) < m) = false := decide_eq_false (by omega)
          have d2n : decide (i < m) = false := decide_eq_false (by omega)
          go_wp2_with fail
          go_meet
          exact ⟨rfl, 300, rfl, by omega, by omega⟩
      case rest =>
        obtain ⟨rfl, o, rfl, ho1, ho2⟩ := hcut
        go_wp2_with fail
        refine (know_n h.1 ((i : Int), 5) 1 (fa_may (by omega)) (by omega) (hs.new i (Nat.le_refl _)) (by rw [hs.len, hs.most]; omega)).mono ?_
        rintro e w3 ⟨rfl, hp3, he3⟩
        have h3 := h.step hp3 he3
        clear hp3 he3
        go_wp2_with fail
        refine (owe_n h3.1 ((i : Int), 5) o ⟨((i : Int), 5), 1, 0, 0⟩ (know_fnd s _ _ (hs.new i (Nat.le_refl _))) (by omega) (by dsimp only; omega)).mono ?_
        rintro e w4 ⟨rfl, hp4, he4⟩
        have h4 := h3.step hp4 he4
        go_wp2_with fail
        exact ⟨⟨i + 1, _, by omega, by go_num, h4, hs.next (by omega) (by omega) o ho1 (by omega)⟩, by simp [intOf]; omega⟩
    · have d1 : decide ((i : Int) < k) = false := decide_eq_false (by omega)
      have d1n : decide (i < k) = false := decide_eq_false (by omega)
      obtain rfl : i = k := by omega
      have hfa := hs.done hk1
      have ht0 := hs.tot
      clear hs
      go_wp2_with fail
      go_loopw [15] (fun s15 wr => ∃ (t : Nat) (s : PS), t ≤ T ∧ s15 = .int .i64 t ∧ FairAt1 w wr p s ∧ Fa 1 i s ∧ s.total = t) (fun a _ => T - (intOf a).toNat)
      case atStart => exact ⟨0, s, by omega, rfl, h, hfa, ht0⟩
      case round =>
        clear h hfa ht0
        obtain ⟨t, s, htT, rfl, h, hfa, ht0⟩ := hrel
        by_cases hlt : t < T
        · have d1 : decide ((t : Int) < T) = true := decide_eq_true (by omega)
          have d1n : decide (t < T) = true := decide_eq_true (by omega)
          obtain ⟨s', x, hx, hfa', htot, hself, hall⟩ := hfa.tick (by omega) (by omega)
          obtain ⟨hkw, hxi0, hxi1⟩ := kw_of1 hfa.wf hx
          have hxi2 : x.iss ≤ 256 := by omega
          have HX := hide hx
          have HT := hide htot
          have HS := hide hself
          have HA := hide hall
          have HT0 := hide ht0
          clear hx htot hself hall ht0
          go_wp2_with fail
          refine (tick_n h.1 HX.out (by have := HT0.out; omega) x.k.1 x.k.2 (x.iss + 1) rfl rfl).mono ?_
          rintro e w3 ⟨rfl, hp3, he3⟩
          have h3 := h.step hp3 he3
          clear hp3 he3
          have h4 := h3.new (New.alloc1 w3 (.cells #[.int .i64 x.k.1, .int .i64 x.k.2, .int .i64 (x.iss + 1)] 32))
          have hb := blk_new w3 (.cells #[.int .i64 x.k.1, .int .i64 x.k.2, .int .i64 (x.iss + 1)] 32)
          go_wp2_with fail
          have q0 : ∀ y : Lat (fun _ => False) (w3.alloc (.cells #[.int .i64 x.k.1, .int .i64 x.k.2, .int .i64 (x.iss + 1)] 32)), y.W.cell? ⟨w3.heap.size, 0, none⟩ = some (.int .i64 x.k.1) := fun y => (blk_cell (New.keep y.ext hb) 0).trans rfl
          have q1 : ∀ y : Lat (fun _ => False) (w3.alloc (.cells #[.int .i64 x.k.1, .int .i64 x.k.2, .int .i64 (x.iss + 1)] 32)), y.W.cell? ⟨w3.heap.size, 1, none⟩ = some (.int .i64 x.k.2) := fun y => (blk_cell (New.keep y.ext hb) 1).trans rfl
          have q2 : ∀ y : Lat (fun _ => False) (w3.alloc (.cells #[.int .i64 x.k.1, .int .i64 x.k.2, .int .i64 (x.iss + 1)] 32)), y.W.cell? ⟨w3.heap.size, 2, none⟩ = some (.int .i64 (x.iss + 1)) := fun y => (blk_cell (New.keep y.ext hb) 2).trans rfl
          obtain ⟨w4, hw4⟩ : ∃ w4, w4 = w3.alloc (.cells #[.int .i64 x.k.1, .int .i64 x.k.2, .int .i64 (x.iss + 1)] 32) := ⟨_, rfl⟩
          rw [← hw4] at q0 q1 q2 h4 hb ⊢
          clear hw4
          refine mix_start (fun _ => False) w4 (by kernel_rfl) ?_
          refine mix_batch [0, 1, 2, 3, 4, 5, 6, 7] (by kernel_rfl) 3 _ _ _ (by kernel_rfl) (lat_mem (by (repeat (first | exact Ext.refl _ _ | assumption | apply Ext.alloc | apply Ext.drewN | apply Ext.drew | refine Ext.setCell ?_ (fun h => by first | rfl | exact absurd h (by dsimp only; omega)) _)))) ?_
          simp only [pickOps, List.getD_cons_zero, List.getD_cons_succ]
          repeat (go_big_quiet_step (fail))
          refine wpQuiet_nil ?_
          refine mix_loud (i := 8) (by kernel_rfl) rfl (fun K hK => ?_)
          go_simp
          refine (issued_n (h4.1.new (show New w4 _ by (repeat (first | exact Ext.refl _ _ | assumption | apply Ext.alloc | apply Ext.drewN | apply Ext.drew | refine Ext.setCell ?_ (fun h => by first | rfl | exact absurd h (by dsimp only; omega)) _)))) (x.k.1, x.k.2) hkw (x.iss + 1) HS.out.symm).mono ?_
          rintro e w5 ⟨rfl, hn5⟩
          have hn45 := (show New w4 w4.drew by (repeat (first | exact Ext.refl _ _ | assumption | apply Ext.alloc | apply Ext.drewN | apply Ext.drew | refine Ext.setCell ?_ (fun h => by first | rfl | exact absurd h (by dsimp only; omega)) _))).then hn5
          refine hK.out _ _ (lat_mem hn45) (mix_next hn45 (fun _ _ h => h) ?_)
          clear hK
          refine mix_batch [9, 10] (by kernel_rfl) 0 _ _ _ (by kernel_rfl) (lat_mem (by (repeat (first | exact Ext.refl _ _ | assumption | apply Ext.alloc | apply Ext.drewN | apply Ext.drew | refine Ext.setCell ?_ (fun h => by first | rfl | exact absurd h (by dsimp only; omega)) _)))) ?_
          simp only [pickOps, List.getD_cons_zero, List.getD_cons_succ]
          repeat (go_big_quiet_step (fail))
          refine wpQuiet_nil ?_
          refine wpAnyH_done (by kernel_rfl) (NoPanic.normal ?_) _
          clear q0 q1 q2
          have h5 := h4.new hn45
          have hb5 := hn45.keep hb
          go_wp2_with fail
          go_loopw [18] (fun s18 wr => ∃ (j : Nat), j ≤ i ∧ s18 = .int .i64 j ∧ FairAt1 w wr p s' ∧ wr.heap[w3.heap.size]? = some (.cells #[.int .i64 x.k.1, .int .i64 x.k.2, .int .i64 (x.iss + 1)] 32)) (fun a _ => i - (intOf a).toNat)
          case atStart => exact ⟨0, by omega, rfl, h5, hb5⟩
          case round =>
            clear h5 hb5
            obtain ⟨j, hj, rfl, h5, hb5⟩ := hrel
            by_cases hji : j < i
            · have e1 : decide ((j : Int) < i) = true := decide_eq_true (by omega)
              have e1n : decide (j < i) = true := decide_eq_true (by omega)
              obtain ⟨v, hv⟩ : ∃ v, v = (ofK s'.L ((j : Int), (5 : Int))).iss := ⟨_, rfl⟩
              have hv2 := HA.out j hji
              rw [← hv] at hv2
              have HV := hide hv
              clear hv
              have q2 : ∀ y : Lat (fun _ => False) wr, y.W.cell? ⟨w3.heap.size, 2, none⟩ = some (.int .i64 (x.iss + 1)) := fun y => (blk_cell (New.keep y.ext hb5) 2).trans rfl
              go_wp2_with fail
              refine mix_start (fun _ => False) wr (by kernel_rfl) ?_
              refine mix_batch [0, 1, 2, 3, 4] (by kernel_rfl) 3 _ _ _ (by kernel_rfl) (lat_mem (by (repeat (first | exact Ext.refl _ _ | assumption | apply Ext.alloc | apply Ext.drewN | apply Ext.drew | refine Ext.setCell ?_ (fun h => by first | rfl | exact absurd h (by dsimp only; omega)) _)))) ?_
              simp only [pickOps, List.getD_cons_zero, List.getD_cons_succ]
              repeat (go_big_quiet_step (fail))
              refine wpQuiet_nil ?_
              refine mix_loud (i := 5) (by kernel_rfl) rfl (fun K hK => ?_)
              go_simp
              refine (issued_n (h5.1.new (show New wr _ by (repeat (first | exact Ext.refl _ _ | assumption | apply Ext.alloc | apply Ext.drewN | apply Ext.drew | refine Ext.setCell ?_ (fun h => by first | rfl | exact absurd h (by dsimp only; omega)) _)))) ((j : Int), (5 : Int)) (fa_may (by omega)).wf v HV.out).mono ?_
              rintro e w6 ⟨rfl, hn6⟩
              have hn56 := (show New wr wr.drew by (repeat (first | exact Ext.refl _ _ | assumption | apply Ext.alloc | apply Ext.drewN | apply Ext.drew | refine Ext.setCell ?_ (fun h => by first | rfl | exact absurd h (by dsimp only; omega)) _))).then hn6
              refine hK.out _ _ (lat_mem hn56) (mix_next hn56 (fun _ _ h => h) ?_)
              clear hK
              rcases hv2 with rfl | rfl
              · have e3 : x.iss + 1 - (x.iss + 1) = 0 := by omega
                refine mix_batch [6, 7] (by kernel_rfl) 0 _ _ _ (by kernel_rfl) (lat_mem (by (repeat (first | exact Ext.refl _ _ | assumption | apply Ext.alloc | apply Ext.drewN | apply Ext.drew | refine Ext.setCell ?_ (fun h => by first | rfl | exact absurd h (by dsimp only; omega)) _)))) ?_
                simp only [pickOps, List.getD_cons_zero, List.getD_cons_succ]
                repeat (go_big_quiet_step (fail))
                refine wpQuiet_nil ?_
                refine wpAnyH_done (by kernel_rfl) (NoPanic.normal ?_) _
                clear q2
                go_wp2_with fail
                exact ⟨⟨j + 1, by omega, by go_num, h5.new hn56, hn56.keep hb5⟩, by simp [intOf]; omega⟩
              · have e3 : x.iss + 1 - x.iss = 1 := by omega
                refine mix_batch [6, 7] (by kernel_rfl) 0 _ _ _ (by kernel_rfl) (lat_mem (by (repeat (first | exact Ext.refl _ _ | assumption | apply Ext.alloc | apply Ext.drewN | apply Ext.drew | refine Ext.setCell ?_ (fun h => by first | rfl | exact absurd h (by dsimp only; omega)) _)))) ?_
                simp only [pickOps, List.getD_cons_zero, List.getD_cons_succ]
                repeat (go_big_quiet_step (fail))
                refine wpQuiet_nil ?_
                refine wpAnyH_done (by kernel_rfl) (NoPanic.normal ?_) _
                clear q2
                go_wp2_with fail
                exact ⟨⟨j + 1, by omega, by go_num, h5.new hn56, hn56.keep hb5⟩, by simp [intOf]; omega⟩
            · have e1 : decide ((j : Int) < i) = false := decide_eq_false (by omega)
              have e1n : decide (j < i) = false := decide_eq_false (by omega)
              go_wp2_with fail
              exact ⟨⟨t + 1, s', by omega, by go_num, h5, hfa', by have := HT.out; have := HT0.out; omega⟩, by simp [intOf]; omega⟩
        · have d1 : decide ((t : Int) < T) = false := decide_eq_false (by omega)
          have d1n : decide (t < T) = false := decide_eq_false (by omega)
          go_wp2_with fail
          refine (total_n h.1 t ht0.symm).mono ?_
          rintro e w3 ⟨rfl, rfl⟩
          have e1 : ((t : Int) == T) = true := by simp; omega
          have e1n : (t == T) = true := by simp; omega
          go_wp2_with fail
          go_ret
          exact ⟨rfl, h.2⟩
end Go.Proofs.Ytmonhhodbinagaa
