/- Walks: the document's sums, numbers, bytes. -/
import Derived.Test.YtdgleplmmbkgfaaV14
import Derived.Test.YtdgleplmmbkgfaaV17
namespace Go.Proofs.Ytdgleplmmbkgfaa
open Go.RowKit
set_option maxRecDepth 100000

set_option maxHeartbeats 1000000 in
theorem ron_any (s : Int) (p : Int × Int) (hs : s = adsum p) (hok : adok p) (A : Option Addr) (n c : Nat) (l : List Int) (w : World) (hr : Rd w 1 A n c (bts l)) (hl : isB l) :
    Calls Try.prog 33 #[.int .u32 s, .slice A n c] w fun e w' => e = .returned (.int .u32 (adsum (adf p l))) ∧ w = w' := by
  have hlen : l.length = n := hr.lenn
  have hcap := hr.cap
  have htop := hr.top
  obtain ⟨p1, p2⟩ := p
  obtain ⟨h1, h2, h3, h4⟩ := hok
  dsimp only at h1 h2 h3 h4
  unfold adsum at hs
  dsimp only at hs
  have e1 : s % 65536 % 65521 = p1 := by omega
  have e2 : s / 65536 % 65521 = p2 := by omega
  have hs0 : 0 ≤ s := by omega
  have hs1 : s ≤ 4294967295 := by omega
  have E1 := hide e1
  have E2 := hide e2
  have HL := hide hlen
  have hok : adok (p1, p2) := ⟨h1, h2, h3, h4⟩
  clear hs e1 e2 hlen
  go_enter Try.func33, Try.ntmps33
  go_wp2_with fail
  rw [E1.out, E2.out]
  go_loop [5, 6, 7] (fun a b i => ∃ k : Nat, k ≤ n ∧ i = .int .i64 k ∧ a = .int .u32 (adf (p1, p2) (l.take k)).1 ∧ b = .int .u32 (adf (p1, p2) (l.take k)).2) (fun _ _ i => n - (intOf i).toNat)
  case atStart => exact ⟨0, by omega, rfl, rfl, rfl⟩
  case round =>
    obtain ⟨k, hk, rfl, rfl, rfl⟩ := hrel
    by_cases hlt : k < n
    · have d1 : decide ((k : Int) < n) = true := decide_eq_true (by omega)
      have d1n : decide (k < n) = true := decide_eq_true (by omega)
      obtain ⟨ad, rfl⟩ := hr.some (by omega)
      obtain ⟨x, hx⟩ : ∃ x, l[k]? = some x := ⟨_, List.getElem?_eq_getElem (by have := HL.out; omega)⟩
      have hcx := hr.celln hx
      obtain ⟨hx0, hx1⟩ := hl x (List.mem_of_getElem? hx)
      have hst := adf_take (p1, p2) l k x hx
      have hok1 := adf_ok hok (l.take k)
      obtain ⟨u, hu⟩ : ∃ u, u = adf (p1, p2) (l.take k) := ⟨_, rfl⟩
      rw [← hu] at hst hok1 ⊢
      obtain ⟨u1, u2⟩ := u
      obtain ⟨ha1, ha2, ha3, ha4⟩ := hok1
      dsimp only at ha1 ha2 ha3 ha4 ⊢
      obtain ⟨v1, hv1⟩ : ∃ v, v = (u1 + x) % 65521 := ⟨_, rfl⟩
      have hvb : 0 ≤ v1 ∧ v1 < 65521 := by omega
      obtain ⟨hv0, hv2⟩ := hvb
      have HST : Hid (adf (p1, p2) (l.take (k + 1)) = ((u1 + x) % 65521, (u2 + (u1 + x) % 65521) % 65521)) := hide (by rw [hst]; rfl)
      clear hst hu hv1 hx
      go_wp2_with fail
      go_round
      case rel => exact ⟨k + 1, by omega, by go_num, by rw [HST.out], by rw [HST.out]⟩
      case measure => simp [intOf]; omega
    · have d1 : decide ((k : Int) < n) = false := decide_eq_false (by omega)
      have d1n : decide (k < n) = false := decide_eq_false (by omega)
      have hkn : l.take k = l := List.take_of_length_le (by have := HL.out; omega)
      rw [hkn]
      have hok1 := adf_ok hok l
      obtain ⟨u, hu⟩ : ∃ u, u = adf (p1, p2) l := ⟨_, rfl⟩
      rw [← hu] at hok1 ⊢
      obtain ⟨u1, u2⟩ := u
      have HU := hide hu
      obtain ⟨ha1, ha2, ha3, ha4⟩ := hok1
      dsimp only at ha1 ha2 ha3 ha4 ⊢
      clear hkn hu
      go_wp2_with fail
      go_ret
      exact ⟨by rw [← HU.out]; unfold adsum; dsimp only; rw [Int.mul_comm u2]; rfl, rfl⟩
theorem rof_any (A : Option Addr) (n c : Nat) (l : List Int) (w : World) (hr : Rd w 1 A n c (bts l)) (hl : isB l) :
    Calls Try.prog 34 #[.slice A n c] w fun e w' => e = .returned (.int .u32 (adsum (adf (1, 0) l))) ∧ w = w' := by
  go_enter Try.func34, Try.ntmps34
  go_wp2_with fail
  refine (ron_any 1 (1, 0) (by decide) (by unfold adok; decide) A n c l _ hr hl).mono ?_
  rintro e w1 ⟨rfl, rfl⟩
  go_wp2_with fail
  go_ret
  exact ⟨rfl, rfl⟩
theorem getN_u {l : List Int} (hB : isB l) (h : l.length ≤ 8) : 0 ≤ getN l ∧ getN l < 18446744073709551616 := by
  have := nmAt_u hB 0 l.length h
  unfold nmAt at this
  rwa [List.drop_zero, List.take_length] at this
set_option maxHeartbeats 400000 in
theorem num_any (A : Option Addr) (n c : Nat) (l : List Int) (w : World) (hr : Rd w 1 A n c (bts l)) (hl : isB l) (h1 : 1 ≤ n) (h8 : n ≤ 8) (v : Int) (hv : toI (getN l) = v) :
    Calls Try.prog 35 #[.slice A n c] w fun e w' => e = .returned (.int .i64 v) ∧ New w w' := by
  have hlen : l.length = n := hr.lenn
  have hu := getN_u hl (by omega)
  obtain ⟨g, hg⟩ : ∃ g, g = getN l := ⟨_, rfl⟩
  unfold toI at hv
  rw [← hg] at hv hu
  obtain ⟨hu0, hu1⟩ := hu
  have hget := rget_yes A n c l n w hr hl (Nat.le_refl _) h1 h8
  rw [List.take_of_length_le (by omega), ← hg] at hget
  have HGT := hide hget
  have HV := hide hv
  clear hg hv hlen hget
  go_enter Try.func35, Try.ntmps35
  go_wp2_with fail
  refine HGT.out.mono ?_
  rintro e w2 ⟨rfl, nd, rfl⟩
  go_wp2_with fail
  go_ret
  exact ⟨by rw [← HV.out, IntWalk.i64_left]; rfl, new_draw _ _⟩
theorem rput_lit (A : Option Addr) (m c : Nat) (xs : List Value) (sz : Int) (size : Nat) (n : Int) (w : World) (e : sz = size) (hr : Rd w 1 A m c xs) (hn : m ≤ 140737488355000) (h1 : 1 ≤ size) (h8 : size ≤ 8) :
    Calls Try.prog 32 #[.slice A m c, .int .i64 sz, .int .u64 n] w fun e w' => ∃ A' c', e = .returned (.slice A' (m + size) c') ∧ Own w' w.heap.size 5 1 A' (m + size) c' (xs ++ bts (putL size n size)) ∧ New w w' := by
  subst e
  exact rput_yes A m c xs size n w hr hn h1 h8
end Go.Proofs.Ytdgleplmmbkgfaa
