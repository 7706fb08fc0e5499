/- Walks: the document's words on one number. -/
import Derived.Test.YtconaojkonjheaaT11x
import Derived.Test.YtconaojkonjheaaT11l
namespace Go.Proofs.Ytconaojkonjheaa
open Go.RowKit Go.Maps
set_option maxRecDepth 100000

theorem size_i : (Try.prog.info? 3).map (fun i => i.size) = some 1 := by kernel_rfl
theorem vsi_take (l : List Int) (k : Nat) : (vsi l).take k = vsi (l.take k) := by simp [vsi]
theorem Rd.takei {w : World} {A : Option Addr} {n c : Nat} {l : List Int} (h : Rd w 1 A n c (vsi l)) (k : Nat) (hk : k ≤ n) : Rd w 1 A k c (vsi (l.take k)) := by
  have := h.take k hk
  rwa [Nat.mul_one, vsi_take] at this

set_option maxHeartbeats 800000 in
theorem rin_any (A : Option Addr) (n c : Nat) (l : List Int) (x : Int) (w : World) (h : Rd w 1 A n c (vsi l)) :
    Calls Try.prog 35 #[.slice A n c, .int .i64 x] w fun e w' => e = .returned (.bool (decide (x ∈ l))) ∧ w = w' := by
  have hlen := h.leni
  have hcap := h.cap
  have htop := h.top
  have HL := hide hlen
  clear hlen
  go_enter Try.func35, Try.ntmps35
  go_wp2_with fail
  go_loop [5] (fun s => ∃ k : Nat, k ≤ n ∧ s = .int .i64 (k : Nat) ∧ x ∉ l.take k) (fun s => n - (intOf s).toNat)
  case atStart => exact ⟨0, Nat.zero_le _, rfl, by simp⟩
  case round =>
    obtain ⟨k, hk, rfl, hall⟩ := hrel
    have HA := hide hall
    clear hall
    by_cases hkn : k < n
    · have d1 : decide ((k : Int) < n) = true := decide_eq_true (by omega)
      have d2 : decide (k < n) = true := decide_eq_true (by omega)
      obtain ⟨ad, rfl⟩ := h.some (by omega)
      obtain ⟨y, hy⟩ : ∃ y, l[k]? = some y := ⟨_, List.getElem?_eq_getElem (by have := HL.out; omega)⟩
      have hcx := h.celli hy
      have HY := hide hy
      clear hy
      by_cases hxy : y = x
      · subst hxy
        go_wp2_with fail
        go_ret
        exact ⟨by rw [decide_eq_true (List.mem_of_getElem? HY.out)]; rfl, rfl⟩
      · have hne : (y == x) = false := by simp [hxy]
        have HXY := hide hxy
        clear hxy
        go_wp2_with fail
        refine ⟨⟨k + 1, by omega, by go_num, fun hx => ?_⟩, by simp [intOf]; omega⟩
        rw [take_snoc l k y HY.out] at hx
        rcases List.mem_append.1 hx with hx | hx
        · exact HA.out hx
        · exact HXY.out (List.mem_singleton.1 hx).symm
    · have d1 : decide ((k : Int) < n) = false := decide_eq_false (by omega)
      have d2 : decide (k < n) = false := decide_eq_false (by omega)
      go_wp2_with fail
      go_ret
      have := HA.out
      rw [List.take_of_length_le (by have := HL.out; omega)] at this
      exact ⟨by rw [decide_eq_false this]; rfl, rfl⟩

theorem fabove_first {l : List Int} {x y : Int} {k : Nat} (hy : l[k]? = some y) (hxy : x < y) (hb : ∀ z ∈ l.take k, z ≤ x) : fabove l x = k := by
  rcases Nat.lt_trichotomy (fabove l x) k with h | h | h
  · obtain ⟨z, h1, h2⟩ := fabove_at l x (by have := (List.getElem?_eq_some_iff.1 hy).1; omega)
    have := hb z (List.mem_of_getElem? (by rw [List.getElem?_take, if_pos h]; exact h1))
    omega
  · exact h
  · have := fabove_below l x k y h hy; omega
theorem fabove_none {l : List Int} {x : Int} (hb : ∀ z ∈ l, z ≤ x) : ¬ fabove l x < l.length := fun h => by
  obtain ⟨z, h1, h2⟩ := fabove_at l x h
  have := hb z (List.mem_of_getElem? h1)
  omega

set_option maxHeartbeats 800000 in
theorem rextent_any (A : Option Addr) (n c : Nat) (l : List Int) (i : Nat) (x : Int) (w : World) (h : Rd w 1 A n c (vsi l)) (hx : l[i]? = some x) (hn4 : n ≤ 4096) :
    Calls Try.prog 34 #[.slice A n c, .int .i64 i] w fun e w' => e = .returned (.int .i64 (extF (l.take i) x)) ∧ New w w' := by
  have hlen := h.leni
  have hin := (List.getElem?_eq_some_iff.1 hx).1
  have hcap := h.cap
  have s1 := run_cut_h (P := Try.prog) 22 3 1 Try.underlying22 size_i A n c i i rfl (by omega) .i64
  obtain ⟨ad, rfl⟩ := h.some (by omega)
  have hcx := h.celli hx
  have hi1 : i < n := by omega
  have hi2 : (i : Int) < n := by omega
  have HL := hide hlen
  have HX := hide hx
  have hlt : (l.take i).length = i := by rw [List.length_take]; omega
  have HLT := hide hlt
  clear hlen hx hlt
  unfold extF
  rw [HLT.out]
  by_cases hin0 : x ∈ l.take i
  · rw [if_pos hin0]
    have hd := decide_eq_true hin0
    have HD := hide hd
    clear hd hin0
    go_enter Try.func34, Try.ntmps34
    go_wp2_with fail
    go_quiet ((go_at_call 35; exact quiet_same ((rin_any (some ad) i c (l.take i) x _ ((h.takei i (by omega)).new (new_draw w _))))))
    rw [HD.out]
    go_wp2_with fail
    go_ret
    exact ⟨rfl, new_draw w nq⟩
  · rw [if_neg hin0]
    obtain ⟨r, hr⟩ : ∃ r : Int, r = if fabove (l.take i) x < i then (i : Int) - fabove (l.take i) x else 0 := ⟨_, rfl⟩
    rw [← hr]
    have HR := hide hr
    have hd := decide_eq_false hin0
    have HD := hide hd
    clear hd hin0 hr
    have hr1 : ∀ k y, k < i → l[k]? = some y → ¬ x < y ∨ x < y := fun _ _ _ _ => Decidable.em _ |>.symm
    go_enter Try.func34, Try.ntmps34
    go_wp2_with fail
    go_quiet ((go_at_call 35; exact quiet_same ((rin_any (some ad) i c (l.take i) x _ ((h.takei i (by omega)).new (new_draw w _))))))
    rw [HD.out]
    clear hcx hr1
    go_wp2_with fail
    go_loopw [5] (fun s wr => New w wr ∧ ∃ k : Nat, k ≤ i ∧ s = .int .i64 (k : Nat) ∧ Hid (∀ z ∈ l.take k, z ≤ x)) (fun s _ => i - (intOf s).toNat)
    case atStart => exact ⟨new_draw w nq, 0, Nat.zero_le _, rfl, hide (by simp)⟩
    case round =>
      obtain ⟨hnw, k, hk, rfl, HA⟩ := hrel
      by_cases hki : k < i
      · have d1 : decide ((k : Int) < i) = true := decide_eq_true (by omega)
        have d2 : decide (k < i) = true := decide_eq_true (by omega)
        have hkn : k < n := by omega
        have hkn2 : (k : Int) < n := by omega
        obtain ⟨y, hy⟩ : ∃ y, l[k]? = some y := ⟨_, List.getElem?_eq_getElem (by have := HL.out; omega)⟩
        have hcx : ∀ u, (wr.drewN u).cell? (ad.add i) = some (.int .i64 x) := fun u => (h.new (hnw.then (new_draw wr u))).celli HX.out
        have hcy : ∀ u, (wr.drewN u).cell? (ad.add k) = some (.int .i64 y) := fun u => (h.new (hnw.then (new_draw wr u))).celli hy
        have HY := hide hy
        clear hy
        by_cases hxy : x < y
        · have d3 : decide (x < y) = true := decide_eq_true hxy
          have hfa : fabove (l.take i) x = k := fabove_first (by rw [List.getElem?_take, if_pos hki]; exact HY.out) hxy (by rw [List.take_take, Nat.min_eq_left (by omega)]; exact HA.out)
          have HFA := hide hfa
          clear hfa
          go_wp2_with fail
          go_quiet (fail)
          go_wp2_with fail
          go_ret
          exact ⟨by rw [HR.out, HFA.out, if_pos hki]; rfl, hnw.then (new_draw wr nq)⟩
        · have d3 : decide (x < y) = false := decide_eq_false hxy
          have HXY := hide hxy
          clear hxy
          go_wp2_with fail
          go_quiet (fail)
          go_wp2_with fail
          refine ⟨⟨hnw.then (new_draw wr nq), k + 1, by omega, by go_num, hide (fun z hz => ?_)⟩, by simp [intOf]; omega⟩
          rw [take_snoc l k y HY.out] at hz
          rcases List.mem_append.1 hz with hz | hz
          · exact HA.out z hz
          · cases List.mem_singleton.1 hz
            have := HXY.out
            omega
      · have d1 : decide ((k : Int) < i) = false := decide_eq_false (by omega)
        have d2 : decide (k < i) = false := decide_eq_false (by omega)
        obtain rfl : k = i := by omega
        have hfa := fabove_none HA.out
        rw [HLT.out] at hfa
        have HFA := hide hfa
        clear hfa
        go_wp2_with fail
        go_ret
        exact ⟨by rw [HR.out, if_neg HFA.out]; rfl, hnw⟩

set_option maxHeartbeats 800000 in
theorem rlate_any (A : Option Addr) (n c : Nat) (l : List Int) (i : Nat) (x : Int) (w : World) (h : Rd w 1 A n c (vsi l)) (hx : l[i]? = some x) (hn4 : n ≤ 4096) (hm : ∀ y ∈ l, mayN y) :
    Calls Try.prog 36 #[.slice A n c, .int .i64 i] w fun e w' => e = .returned (.int .i64 (lateF (l.take i) x)) ∧ New w w' := by
  have hlen := h.leni
  have hin := (List.getElem?_eq_some_iff.1 hx).1
  have hcap := h.cap
  have s1 := run_cut_h (P := Try.prog) 22 3 1 Try.underlying22 size_i A n c i i rfl (by omega) .i64
  obtain ⟨ad, rfl⟩ := h.some (by omega)
  have hcx := h.celli hx
  have hi1 : i < n := by omega
  have hi2 : (i : Int) < n := by omega
  have hxm := hm x (List.mem_of_getElem? hx)
  have hxm1 := hxm.1
  have hxm2 := hxm.2
  have HL := hide hlen
  have HX := hide hx
  clear hlen hx hxm
  unfold lateF
  by_cases hin0 : x ∈ l.take i
  · rw [if_pos hin0]
    have hd := decide_eq_true hin0
    have HD := hide hd
    clear hd hin0
    go_enter Try.func36, Try.ntmps36
    go_wp2_with fail
    go_quiet ((go_at_call 35; exact quiet_same ((rin_any (some ad) i c (l.take i) x _ ((h.takei i (by omega)).new (new_draw w _))))))
    rw [HD.out]
    go_wp2_with fail
    go_ret
    exact ⟨rfl, new_draw w nq⟩
  · rw [if_neg hin0]
    have hd := decide_eq_false hin0
    have HD := hide hd
    clear hd hin0
    go_enter Try.func36, Try.ntmps36
    go_wp2_with fail
    go_quiet ((go_at_call 35; exact quiet_same ((rin_any (some ad) i c (l.take i) x _ ((h.takei i (by omega)).new (new_draw w _))))))
    rw [HD.out]
    clear hcx
    go_wp2_with fail
    go_loopw [5, 6] (fun s5 s wr => New w wr ∧ ∃ k : Nat, k ≤ i ∧ s = .int .i64 (k : Nat) ∧ s5 = .int .i64 (lmax (l.take k) x)) (fun _ s _ => i - (intOf s).toNat)
    case atStart => exact ⟨new_draw w nq, 0, Nat.zero_le _, rfl, rfl⟩
    case round =>
      obtain ⟨hnw, k, hk, rfl, rfl⟩ := hrel
      obtain ⟨m, hmm⟩ : ∃ m, m = lmax (l.take k) x := ⟨_, rfl⟩
      rw [← hmm]
      have HMM := hide hmm
      clear hmm
      by_cases hki : k < i
      · have d1 : decide ((k : Int) < i) = true := decide_eq_true (by omega)
        have d2 : decide (k < i) = true := decide_eq_true (by omega)
        have hkn : k < n := by omega
        have hkn2 : (k : Int) < n := by omega
        obtain ⟨y, hy⟩ : ∃ y, l[k]? = some y := ⟨_, List.getElem?_eq_getElem (by have := HL.out; omega)⟩
        have hym := hm y (List.mem_of_getElem? hy)
        have hym1 := hym.1
        have hym2 := hym.2
        have hcx : ∀ u, (wr.drewN u).cell? (ad.add i) = some (.int .i64 x) := fun u => (h.new (hnw.then (new_draw wr u))).celli HX.out
        have hcy : ∀ u, (wr.drewN u).cell? (ad.add k) = some (.int .i64 y) := fun u => (h.new (hnw.then (new_draw wr u))).celli hy
        have hnext : lmax (l.take (k + 1)) x = mx m (y - x) := by
          rw [HMM.out]
          unfold lmax
          exact foldl_take (fun m y => mx m (y - x)) 0 l k y hy
        have HY := hide hnext
        have hmxm : (if m < y - x then y - x else m) = mx m (y - x) := rfl
        clear hy hnext hym
        go_wp2_with fail
        go_quiet (fail)
        go_wp2_with fail
        exact ⟨⟨hnw.then (new_draw wr nq), k + 1, by omega, by go_num, by rw [HY.out]⟩, by simp [intOf]; omega⟩
      · have d1 : decide ((k : Int) < i) = false := decide_eq_false (by omega)
        have d2 : decide (k < i) = false := decide_eq_false (by omega)
        obtain rfl : k = i := by omega
        go_wp2_with fail
        go_ret
        exact ⟨by rw [HMM.out]; rfl, hnw⟩

set_option maxHeartbeats 800000 in
theorem rnext_any (A : Option Addr) (n c : Nat) (l : List Int) (w : World) (h : Rd w 1 A n c (vsi l)) (hmx : mexOf l ≤ 1000000) :
    Calls Try.prog 25 #[.slice A n c] w fun e w' => e = .returned (.int .i64 (mexOf l)) ∧ w = w' := by
  obtain ⟨M0, hM⟩ : ∃ M0, M0 = mexOf l := ⟨_, rfl⟩
  have hs := mexOf_spec l
  rw [← hM] at hs hmx ⊢
  have HS := hide hs
  clear hs hM
  go_enter Try.func25, Try.ntmps25
  go_wp2_with fail
  go_loop [3] (fun s => ∃ k : Nat, k ≤ M0 ∧ s = .int .i64 (k : Nat)) (fun s => M0 - (intOf s).toNat)
  case atStart => exact ⟨0, Nat.zero_le _, rfl⟩
  case round =>
    obtain ⟨k, hk, rfl⟩ := hrel
    go_wp2_with fail
    refine (rin_any A n c l k _ h).mono ?_
    rintro e w1 ⟨rfl, rfl⟩
    by_cases hkM : k < M0
    · rw [decide_eq_true (HS.out.2 k hkM)]
      go_wp2_with fail
      exact ⟨⟨k + 1, by omega, by go_num⟩, by simp [intOf]; omega⟩
    · obtain rfl : k = M0 := by omega
      rw [decide_eq_false HS.out.1]
      go_wp2_with fail
      go_ret
      exact ⟨rfl, rfl⟩
end Go.Proofs.Ytconaojkonjheaa
