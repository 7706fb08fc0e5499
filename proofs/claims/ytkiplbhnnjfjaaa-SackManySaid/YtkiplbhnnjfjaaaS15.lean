/- The law on rows of numbers. -/
import Derived.Test.YtkiplbhnnjfjaaaS14
namespace Go.Proofs.Ytkiplbhnnjfjaaa
set_option linter.unusedVariables false
set_option linter.unusedSimpArgs false
open Go.RowKit
set_option maxRecDepth 100000

theorem bnd_ok {l : List Rg} (ho : Ord (-1) l) (h : (bnd l).2 = 0) : (bnd l).1 = l ∧ chk l = 0 := by
  unfold bnd at *
  by_cases h2 : 256 < l.length
  · rw [if_pos h2] at h
    cases h
  · rw [if_neg h2]
    exact ⟨rfl, by unfold chk; rw [if_neg h2, if_pos ho]⟩
theorem bnd_bad {l : List Rg} (h : (bnd l).2 ≠ 0) : (bnd l).1 = [] := by
  unfold bnd at *
  by_cases h2 : 256 < l.length
  · rw [if_pos h2]
  · rw [if_neg h2] at h
    exact absurd rfl h
theorem ofP_ok {xs : List Int} (h : (ofP xs).2 = 0) : chk (ofP xs).1 = 0 ∧ ∀ n, Hs (ofP xs).1 n ↔ n ∈ xs := by
  unfold ofP at *
  by_cases h1 : ∀ x ∈ xs, 0 ≤ x ∧ x < tp
  · rw [if_pos h1] at *
    obtain ⟨a1, a2⟩ := joined_ok (num_one h1)
    obtain ⟨b1, b2⟩ := bnd_ok a1 h
    rw [b1]
    refine ⟨b2, fun n => ?_⟩
    rw [a2 n]
    constructor
    · rintro ⟨r, hr, h3⟩
      obtain ⟨x, hx, rfl⟩ := List.mem_map.1 hr
      obtain ⟨h3, h4⟩ := h3
      have h3 : x ≤ n := h3
      have h4 : n < x + 1 := h4
      have : n = x := by omega
      rw [this]
      exact hx
    · intro hn
      exact ⟨num n, List.mem_map_of_mem hn, by show n ≤ n; omega, by show n < n + 1; omega⟩
  · rw [if_neg h1] at h
    cases h
theorem ofP_bad {xs : List Int} (h : (ofP xs).2 ≠ 0) : (ofP xs).1 = [] := by
  unfold ofP at *
  split at h
  · rw [if_pos (by assumption)]
    exact bnd_bad h
  · rw [if_neg (by assumption)]
set_option maxHeartbeats 4000000 in
theorem of_walk (A : Option Addr) (n c : Nat) (xs : List Int) (x : Int) (w : World) (h : Rd w 1 A n c (xs.map (Value.int .i64))) :
    Calls Try.prog 4 #[.slice A n c, .int .i64 x] w fun e w' => e = .returned (.bool true) ∧ New w w' := by
  have hl := h.lenn
  have hcap := h.cap
  have htop := h.top
  have HL := hide hl
  clear hl
  go_enter Try.func4, Try.ntmps4
  go_upto_if 13 with (fail)
  go_cut [0] (fun v0 wc => w = wc ∧ ∃ (m d : Nat) (ys : List Int), v0 = .slice A m d ∧ Rd w 1 A m d (ys.map (Value.int .i64)) ∧ m ≤ 300)
  case first =>
    by_cases hb : 300 < n
    · have e1 : decide ((300 : Int) < n) = true := decide_eq_true (by omega)
      have e2 : decide (300 < n) = true := decide_eq_true hb
      have s1 := run_cut_h (P := Try.prog) 22 3 1 Try.underlying22 (by kernel_rfl) A n c 300 300 rfl (by omega) .i64
      have h3 := h.take 300 (by omega)
      rw [Nat.mul_one, ← List.map_take] at h3
      go_wp2_with fail
      go_meet
      exact ⟨rfl, 300, c, _, rfl, h3, by omega⟩
    · have e1 : decide ((300 : Int) < n) = false := decide_eq_false (by omega)
      have e2 : decide (300 < n) = false := decide_eq_false hb
      go_wp2_with fail
      go_meet
      exact ⟨rfl, n, c, xs, rfl, h, by omega⟩
  case rest =>
    clear h HL hcap htop
    obtain ⟨rfl, m, d, ys, rfl, h, hm⟩ := hcut
    have HL := hide h.lenn
    go_wp2_with fail
    refine (of_p A m d ys _ h (by omega)).mono ?_
    rintro e w1 ⟨A1, c1, rfl, hr1, hn1⟩
    go_wp2_with fail
    refine (rof_c A m d ys _ (h.new hn1) (by omega)).mono ?_
    rintro e w2 ⟨A2, c2, rfl, ho2, hn2⟩
    have hlen := ofP_256 ys
    have HOK := hide (@ofP_ok ys)
    have HBAD := hide (@ofP_bad ys)
    have hsame := of_same ys
    rw [← hsame] at ho2 ⊢
    clear hsame
    generalize ofP ys = p at *
    have N2 := hn1.then hn2
    replace hr1 := hr1.new hn2
    clear hn1 hn2
    go_wp2_with fail
    refine (back_c hr1 (by omega)).mono ?_
    rintro e w3 ⟨A3, c3, rfl, ho3, hn3⟩
    go_wp2_with fail
    refine (rsame_c A3 A2 _ c3 _ c2 p.1 p.1 _ ho3.rd (ho2.rd.new hn3) (by omega) true (by simp)).mono ?_
    rintro e w4 ⟨rfl, hn4⟩
    have e0 : (p.2 != p.2) = false := by simp
    go_wp2_with fail
    refine (awake_c _).mono ?_
    rintro e w5 ⟨rfl, hn5⟩
    have M5 := hn3.then (hn4.then hn5)
    replace hr1 := hr1.new M5
    have N5 := N2.then M5
    clear hn3 hn4 hn5 M5 N2 ho2 ho3 e0
    by_cases hz : p.2 = 0
    · obtain ⟨hck, hin⟩ := HOK.out hz
      have e1 : (p.2 != 0) = false := by simp [hz]
      have HIN := hide hin
      have HCK := hide hck
      clear hz hck hin HOK HBAD
      go_wp2_with fail
      clear e1
      have hdc := h.cap
      have hdt := h.top
      go_loopw [9, 10] (fun s9 s10 wr => New w5 wr ∧ ∃ k : Nat, k ≤ m ∧ s10 = .int .i64 k ∧ s9 = .bool (decide (x ∈ ys.take k))) (fun _ i _ => m - (intOf i).toNat)
      case atStart => exact ⟨Ext.refl _ _, 0, Nat.zero_le _, rfl, by simp⟩
      case round =>
        obtain ⟨hnw, k, hk, rfl, rfl⟩ := hrel
        by_cases hkn : k < m
        · have d1 : decide ((k : Int) < m) = true := decide_eq_true (by omega)
          have d2 : decide (k < m) = true := decide_eq_true (by omega)
          obtain ⟨ad, rfl⟩ := h.some (by omega)
          obtain ⟨y, hy⟩ : ∃ y, ys[k]? = some y := ⟨_, List.getElem?_eq_getElem (by have := HL.out; omega)⟩
          have hcy := (h.new (N5.then hnw)).celln hy
          have hym := hide (show Hs p.1 y from (HIN.out y).2 (List.mem_of_getElem? hy))
          have hnext := hide (show decide (x ∈ ys.take (k + 1)) = (decide (x ∈ ys.take k) || (y == x)) by
            rw [take_snoc ys k y hy]
            rw [Bool.eq_iff_iff]
            simp only [decide_eq_true_eq, List.mem_append, List.mem_singleton, Bool.or_eq_true, beq_iff_eq]
            constructor
            · rintro (h | h)
              · exact .inl h
              · exact .inr h.symm
            · rintro (h | h)
              · exact .inl h
              · exact .inr h.symm)
          clear hy
          generalize decide (x ∈ ys.take k) = b at *
          generalize hnb : decide (x ∈ ys.take (k + 1)) = b2 at hnext
          have HNB := hide hnb
          clear hnb
          cases b <;> cases e1 : (y == x) <;> (
            go_wp2_with fail
            refine (has_c A1 _ c1 p.1 y _ (hr1.new hnw) (by omega)).mono ?_
            rw [decide_eq_true hym.out]
            rintro e w6 ⟨rfl, hn6⟩
            have HB2 := hide (hnext.out.trans (by rw [e1]))
            go_wp2_with fail
            go_roundw
            case rel => exact ⟨hnw.then hn6, k + 1, by omega, by go_num, by rw [HNB.out, HB2.out]; rfl⟩
            case measure => simp [intOf]; omega)
        · have d1 : decide ((k : Int) < m) = false := decide_eq_false (by omega)
          have d2 : decide (k < m) = false := decide_eq_false (by omega)
          obtain rfl : k = m := by omega
          have hfin := hide (show decide (x ∈ ys.take k) = decide (Hs p.1 x) by
            rw [List.take_of_length_le (by have := HL.out; omega), decide_eq_decide]
            exact (HIN.out x).symm)
          generalize decide (x ∈ ys.take k) = b at *
          go_wp2_with fail
          refine (has_c A1 _ c1 p.1 x _ (hr1.new hnw) (by omega)).mono ?_
          rw [← hfin.out]
          rintro e w6 ⟨rfl, hn6⟩
          have e2 : (b == b) = true := by simp
          go_wp2_with fail
          refine (check_c ((hr1.new hnw).new hn6) (by omega)).mono ?_
          rw [HCK.out]
          rintro e w7 ⟨rfl, hn7⟩
          go_wp2_with fail
          go_ret
          exact ⟨rfl, N5.then (hnw.then (hn6.then hn7))⟩
    · have hnil := HBAD.out hz
      have e1 : (p.2 != 0) = true := by simpa using hz
      have hlz : p.1.length = 0 := by rw [hnil]; rfl
      have e2 : ((p.1.length : Int) == 0) = true := by rw [hlz]; rfl
      clear hz hnil HOK HBAD
      have HZ := hide hlz
      clear hlz
      go_wp2_with fail
      go_ret
      exact ⟨rfl, N5⟩
end Go.Proofs.Ytkiplbhnnjfjaaa
