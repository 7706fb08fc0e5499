/- Walks: the document's held, and its check. -/
import Derived.Test.YtconaojkonjheaaT12
namespace Go.Proofs.Ytconaojkonjheaa
open Go.RowKit Go.Maps
set_option maxRecDepth 100000

def cnt (l : List Int) (m : Int) : Nat := ((seenOf l).filter (fun x => decide (m < x))).length
theorem cnt_snoc (l : List Int) (m y : Int) : cnt (l ++ [y]) m = if m < y ∧ y ∉ l then cnt l m + 1 else cnt l m := by
  unfold cnt
  rw [seenOf_snoc]
  by_cases h : y ∈ l
  · rw [if_pos ((mem_seenOf l y).2 h), if_neg (fun hh => hh.2 h)]
  · rw [if_neg (fun hh => h ((mem_seenOf l y).1 hh)), List.filter_append]
    by_cases hm : m < y
    · rw [if_pos ⟨hm, h⟩]; simp [hm]
    · rw [if_neg (fun hh => hm hh.1)]; simp [hm]
theorem mexOf_le (l : List Int) (hm : ∀ y ∈ l, mayN y) : mexOf l ≤ l.length := Nat.le_trans (heldF_eq l (fun x hx => (hm x hx).1)).2 (seenOf_len l)

set_option maxHeartbeats 1000000 in
theorem rheld_any (A : Option Addr) (n c : Nat) (l : List Int) (w : World) (h : Rd w 1 A n c (vsi l)) (hn4 : n ≤ 4096) (hm : ∀ y ∈ l, mayN y) :
    Calls Try.prog 37 #[.slice A n c] w fun e w' => e = .returned (.int .i64 (heldF l)) ∧ New w w' := by
  have hlen := h.leni
  have hcap := h.cap
  have hmx := mexOf_le l hm
  have hhe : heldF l = ((cnt l (mexOf l) : Nat) : Int) := rfl
  have HL := hide hlen
  have HH := hide hhe
  obtain ⟨M0, hM⟩ : ∃ M0, M0 = mexOf l := ⟨_, rfl⟩
  have HMM := hide hM
  rw [hlen] at hmx
  rw [hhe]
  rw [← hM] at hmx ⊢
  obtain ⟨r, hr⟩ : ∃ r, r = cnt l M0 := ⟨_, rfl⟩
  rw [← hr]
  have HR := hide hr
  clear hlen hhe hM hr
  go_enter Try.func37, Try.ntmps37
  go_wp2_with fail
  refine (rnext_any A n c l _ h (by have := HMM.out; omega)).mono ?_
  rintro e w1 ⟨rfl, rfl⟩
  rw [← HMM.out]
  go_wp2_with fail
  go_loopw [4, 5] (fun s4 s wr => New w wr ∧ ∃ k m : Nat, k ≤ n ∧ s = .int .i64 (k : Nat) ∧ s4 = .int .i64 (m : Nat) ∧ m ≤ k ∧ Hid (m = cnt (l.take k) M0)) (fun _ s _ => n - (intOf s).toNat)
  case atStart => exact ⟨Ext.refl _ _, 0, 0, Nat.zero_le _, rfl, rfl, Nat.le_refl _, hide (by simp [cnt, seenOf])⟩
  case round =>
    obtain ⟨hnw, k, m, hk, rfl, rfl, hmk, HC⟩ := hrel
    by_cases hkn : k < n
    · have d1 : decide ((k : Int) < n) = true := decide_eq_true (by omega)
      have d2 : decide (k < n) = true := decide_eq_true (by omega)
      have hkn2 : (k : Int) < n := by omega
      have s1 := run_cut_h (P := Try.prog) 22 3 1 Try.underlying22 size_i A n c k k rfl (by omega) .i64
      obtain ⟨ad, rfl⟩ := h.some (by omega)
      obtain ⟨y, hy⟩ : ∃ y, l[k]? = some y := ⟨_, List.getElem?_eq_getElem (by have := HL.out; omega)⟩
      have hcy : ∀ u, (wr.drewN u).cell? (ad.add k) = some (.int .i64 y) := fun u => (h.new (hnw.then (new_draw wr u))).celli hy
      have hnext := cnt_snoc (l.take k) M0 y
      rw [← take_snoc l k y hy] at hnext
      have HN := hide hnext
      clear hy hnext
      by_cases hgt : (M0 : Int) < y
      · have d3 : decide ((M0 : Int) < y) = true := decide_eq_true hgt
        by_cases hin : y ∈ l.take k
        · have HD := hide (decide_eq_true hin)
          have HN2 : Hid (cnt (l.take (k + 1)) M0 = cnt (l.take k) M0) := hide (by have := HN.out; rwa [if_neg (fun hh => hh.2 hin)] at this)
          clear hin hgt
          go_wp2_with fail
          go_quiet ((go_at_call 35; exact quiet_same ((rin_any (some ad) k c (l.take k) y _ ((h.takei k (by omega)).new (hnw.then (new_draw wr _)))))))
          rw [HD.out]
          go_wp2_with fail
          exact ⟨⟨hnw.then (new_draw wr nq), k + 1, m, by omega, by go_num, rfl, by omega, hide (by rw [HN2.out]; exact HC.out)⟩, by simp [intOf]; omega⟩
        · have HD := hide (decide_eq_false hin)
          have HN2 : Hid (cnt (l.take (k + 1)) M0 = cnt (l.take k) M0 + 1) := hide (by have := HN.out; rwa [if_pos ⟨hgt, hin⟩] at this)
          clear hin hgt
          go_wp2_with fail
          go_quiet ((go_at_call 35; exact quiet_same ((rin_any (some ad) k c (l.take k) y _ ((h.takei k (by omega)).new (hnw.then (new_draw wr _)))))))
          rw [HD.out]
          go_wp2_with fail
          exact ⟨⟨hnw.then (new_draw wr nq), k + 1, m + 1, by omega, by go_num, by go_num, by omega, hide (by rw [HN2.out, ← HC.out])⟩, by simp [intOf]; omega⟩
      · have d3 : decide ((M0 : Int) < y) = false := decide_eq_false hgt
        have HN2 : Hid (cnt (l.take (k + 1)) M0 = cnt (l.take k) M0) := hide (by have := HN.out; rwa [if_neg (fun hh => hgt hh.1)] at this)
        clear hgt
        go_wp2_with fail
        go_quiet (fail)
        go_wp2_with fail
        exact ⟨⟨hnw.then (new_draw wr nq), k + 1, m, by omega, by go_num, rfl, by omega, hide (by rw [HN2.out]; exact HC.out)⟩, by simp [intOf]; omega⟩
    · have d1 : decide ((k : Int) < n) = false := decide_eq_false (by omega)
      have d2 : decide (k < n) = false := decide_eq_false (by omega)
      have hmr : m = r := by rw [HR.out, HC.out, List.take_of_length_le (by have := HL.out; omega)]
      have HMR := hide hmr
      clear hmr
      go_wp2_with fail
      go_ret
      exact ⟨by rw [HMR.out]; rfl, hnw⟩

set_option maxHeartbeats 800000 in
theorem rcheck_any (A : Option Addr) (n c : Nat) (l : List Int) (w : World) (h : Rd w 1 A n c (vsi l)) :
    Calls Try.prog 24 #[.slice A n c] w fun e w' => e = .returned (.int .i64 (errL l)) ∧ w = w' := by
  have hlen := h.leni
  have hcap := h.cap
  have htop := h.top
  obtain ⟨r, hr⟩ : ∃ r, r = errL l := ⟨_, rfl⟩
  rw [← hr]
  have HR := hide hr
  have HL := hide hlen
  clear hr hlen
  by_cases h4 : 4096 < n
  · have d1 : decide ((4096 : Int) < n) = true := decide_eq_true (by omega)
    go_enter Try.func24, Try.ntmps24
    go_wp2_with fail
    go_ret
    have : errL l = 3 := by unfold errL; rw [if_pos (by have := HL.out; omega)]
    exact ⟨by rw [HR.out, this]; rfl, rfl⟩
  · have d1 : decide ((4096 : Int) < n) = false := decide_eq_false (by omega)
    go_enter Try.func24, Try.ntmps24
    go_wp2_with fail
    go_loop [3] (fun s => ∃ k : Nat, k ≤ n ∧ s = .int .i64 (k : Nat) ∧ Hid (∀ y ∈ l.take k, mayN y)) (fun s => n - (intOf s).toNat)
    case atStart => exact ⟨0, Nat.zero_le _, rfl, hide (by simp)⟩
    case round =>
      obtain ⟨k, hk, rfl, HA⟩ := hrel
      by_cases hkn : k < n
      · have d2 : decide ((k : Int) < n) = true := decide_eq_true (by omega)
        have d3 : decide (k < n) = true := decide_eq_true (by omega)
        obtain ⟨ad, rfl⟩ := h.some (by omega)
        obtain ⟨y, hy⟩ : ∃ y, l[k]? = some y := ⟨_, List.getElem?_eq_getElem (by have := HL.out; omega)⟩
        have hcy := h.celli hy
        have HY := hide hy
        clear hy
        have bad : ¬ mayN y → errL l = 5 := fun hb => by
          unfold errL
          rw [if_neg (by have := HL.out; omega), if_neg (fun hall => hb (hall y (List.mem_of_getElem? HY.out)))]
        by_cases h0 : y < 0
        · have d4 : decide (y < 0) = true := decide_eq_true h0
          have HB := hide (bad (fun hh => by have := hh.1; omega))
          clear bad
          go_wp2_with fail
          go_ret
          exact ⟨by rw [HR.out, HB.out]; rfl, rfl⟩
        · have d4 : decide (y < 0) = false := decide_eq_false h0
          by_cases h1 : 1152921504606846976 < y
          · have d5 : decide (1152921504606846976 < y) = true := decide_eq_true h1
            have HB := hide (bad (fun hh => by have := hh.2; omega))
            clear bad
            go_wp2_with fail
            go_ret
            exact ⟨by rw [HR.out, HB.out]; rfl, rfl⟩
          · have d5 : decide (1152921504606846976 < y) = false := decide_eq_false h1
            have HB : Hid (mayN y) := hide ⟨by omega, by omega⟩
            clear bad
            go_wp2_with fail
            refine ⟨⟨k + 1, by omega, by go_num, hide (fun z hz => ?_)⟩, by simp [intOf]; omega⟩
            rw [take_snoc l k y HY.out] at hz
            rcases List.mem_append.1 hz with hz | hz
            · exact HA.out z hz
            · cases List.mem_singleton.1 hz; exact HB.out
      · have d2 : decide ((k : Int) < n) = false := decide_eq_false (by omega)
        have d3 : decide (k < n) = false := decide_eq_false (by omega)
        go_wp2_with fail
        go_ret
        have hall := HA.out
        rw [List.take_of_length_le (by have := HL.out; omega)] at hall
        have : errL l = 0 := by unfold errL; rw [if_neg (by have := HL.out; omega), if_pos hall]
        exact ⟨by rw [HR.out, this]; rfl, rfl⟩
end Go.Proofs.Ytconaojkonjheaa
