/- Plain: bytes of a packet, one of which is another one. -/
import Derived.Test.YtdgleplmmbkgfaaV19
namespace Go.Proofs.Ytdgleplmmbkgfaa
open Go.RowKit
set_option maxRecDepth 100000

theorem adf_fst (p : Int × Int) (l : List Int) (h : 0 ≤ p.1 ∧ p.1 < 65521) : (adf p l).1 = (p.1 + l.sum) % 65521 := by
  induction l generalizing p with
  | nil => simp [adf]; omega
  | cons x r ih =>
    show (adf (adst p x) r).1 = _
    rw [ih _ ⟨(adst_ok p x).1, (adst_ok p x).2.1⟩, List.sum_cons]
    unfold adst
    dsimp only
    omega
theorem ad2_mod (l k : List Int) : ad2 l k % 65536 = (1 + l.sum + k.sum) % 65521 := by
  have h1 := adf_ok ad_one l
  have h2 := adf_ok h1 k
  have e1 := adf_fst (1, 0) l (by decide)
  have e2 := adf_fst (adf (1, 0) l) k ⟨h1.1, h1.2.1⟩
  obtain ⟨a1, a2, a3, a4⟩ := h2
  unfold ad2 adsum
  dsimp only at e1
  omega
theorem sum_set (l : List Int) (i : Nat) (x y : Int) (h : l[i]? = some x) : (l.set i y).sum = l.sum - x + y := by
  induction l generalizing i with
  | nil => simp at h
  | cons a r ih =>
    cases i with
    | zero =>
      simp at h
      subst h
      simp only [List.set_cons_zero, List.sum_cons]
      omega
    | succ i =>
      simp at h
      simp only [List.set_cons_succ, List.sum_cons, ih i h]
      omega
theorem getN_inj {l k : List Int} (hl : isB l) (hk : isB k) (hn : l.length = k.length) (h : getN l = getN k) : l = k := by
  have key : ∀ n (l k : List Int), l.length = n → k.length = n → isB l → isB k → getN l = getN k → l = k := by
    intro n
    induction n with
    | zero => intro l k h1 h2 _ _ _; rw [List.eq_nil_of_length_eq_zero h1, List.eq_nil_of_length_eq_zero h2]
    | succ n ih =>
      intro l k h1 h2 hl hk h
      have hl0 : l ≠ [] := fun e => by rw [e] at h1; cases h1
      have hk0 : k ≠ [] := fun e => by rw [e] at h2; cases h2
      have e1 := List.dropLast_concat_getLast hl0
      have e2 := List.dropLast_concat_getLast hk0
      have b1 := hl (l.getLast hl0) (List.getLast_mem hl0)
      have b2 := hk (k.getLast hk0) (List.getLast_mem hk0)
      rw [← e1, ← e2, getN_snoc, getN_snoc] at h
      have h3 : getN l.dropLast = getN k.dropLast := by omega
      have h4 : l.getLast hl0 = k.getLast hk0 := by omega
      rw [← e1, ← e2, ih l.dropLast k.dropLast (by rw [List.length_dropLast]; omega) (by rw [List.length_dropLast]; omega) (fun x hx => hl x ((List.dropLast_sublist l).subset hx)) (fun x hx => hk x ((List.dropLast_sublist k).subset hx)) h3, h4]
  exact key l.length l k rfl hn.symm hl hk h
theorem dcE_sum {l : List Int} (h : dcE l = 0) : 36 ≤ l.length ∧ nmAt l 32 4 = ad2 (l.take 32) (l.drop 36) := by
  unfold dcE at h
  by_cases h1 : l.length < 36
  · rw [if_pos h1] at h; omega
  · rw [if_neg h1] at h
    refine ⟨by omega, ?_⟩
    split at h
    · omega
    · split at h
      · omega
      · next h3 => exact Decidable.not_not.1 h3
theorem isB_set {l : List Int} (h : isB l) (i : Nat) (y : Int) (hy : 0 ≤ y ∧ y < 256) : isB (l.set i y) := fun x hx => by
  rcases List.mem_or_eq_of_mem_set hx with hx | rfl
  · exact h x hx
  · exact hy
theorem turned_no {l : List Int} (hB : isB l) (h : dcE l = 0) (i : Nat) (x y : Int) (hx : l[i]? = some x) (hy : 0 ≤ y ∧ y < 256) (hxy : y ≠ x) : dcE (l.set i y) ≠ 0 := by
  intro h'
  obtain ⟨hlen, hs⟩ := dcE_sum h
  obtain ⟨_, hs'⟩ := dcE_sum h'
  have hxb := hB x (List.mem_of_getElem? hx)
  have hil := (List.getElem?_eq_some_iff.1 hx).1
  have hB' := isB_set hB i y hy
  have m := ad2_mod (l.take 32) (l.drop 36)
  have m' := ad2_mod ((l.set i y).take 32) ((l.set i y).drop 36)
  by_cases h1 : i < 32
  · have e1 : (l.set i y).take 32 = (l.take 32).set i y := List.take_set
    have e2 : (l.set i y).drop 36 = l.drop 36 := List.drop_set_of_lt (by omega)
    have e3 : nmAt (l.set i y) 32 4 = nmAt l 32 4 := by unfold nmAt; rw [List.drop_set_of_lt (by omega)]
    rw [e1, e2, sum_set (l.take 32) i x y (by rw [List.getElem?_take, if_pos h1]; exact hx)] at m'
    rw [e3, e1, e2] at hs'
    rw [← hs] at m
    rw [← hs'] at m'
    omega
  · by_cases h2 : i < 36
    · have e1 : (l.set i y).take 32 = l.take 32 := List.take_set_of_le (by omega)
      have e2 : (l.set i y).drop 36 = l.drop 36 := List.drop_set_of_lt (by omega)
      rw [e1, e2, ← hs] at hs'
      unfold nmAt at hs'
      have := getN_inj (fun z hz => hB' z (List.mem_of_mem_drop (List.mem_of_mem_take hz))) (fun z hz => hB z (List.mem_of_mem_drop (List.mem_of_mem_take hz))) (by simp) hs'
      have g := congrArg (fun k : List Int => k[i - 32]?) this
      rw [List.getElem?_take, List.getElem?_take, if_pos (by omega), List.getElem?_drop, List.getElem?_drop, show 32 + (i - 32) = i by omega, hx, List.getElem?_set_self hil] at g
      try rw [if_pos (by omega)] at g
      exact hxy (Option.some.inj g)
    · have e1 : (l.set i y).take 32 = l.take 32 := List.take_set_of_le (by omega)
      have e2 : (l.set i y).drop 36 = (l.drop 36).set (i - 36) y := by rw [List.drop_set, if_neg (by omega)]
      have e3 : nmAt (l.set i y) 32 4 = nmAt l 32 4 := by
        unfold nmAt
        rw [List.drop_set, if_neg (by omega), List.take_set_of_le (by omega)]
      rw [e1, e2, sum_set (l.drop 36) (i - 36) x y (by rw [List.getElem?_drop, show 36 + (i - 36) = i by omega]; exact hx)] at m'
      rw [e3, e1, e2] at hs'
      rw [← hs] at m
      rw [← hs'] at m'
      omega
theorem xor_b {x b : Int} (h1 : 0 ≤ x) (h2 : x < 256) (h3 : 0 ≤ b) (h4 : b < 256) : 0 ≤ bits .xor .u8 x b ∧ bits .xor .u8 x b < 256 ∧ (bits .xor .u8 x b = x ↔ b = 0) := by
  rw [u8_xor x b h1 h2 h3 h4]
  obtain ⟨x, rfl⟩ := Int.eq_ofNat_of_zero_le h1
  obtain ⟨b, rfl⟩ := Int.eq_ofNat_of_zero_le h3
  simp only [Int.toNat_natCast]
  have hlt : x ^^^ b < 2 ^ 8 := Nat.xor_lt_two_pow (by omega) (by omega)
  refine ⟨by omega, by omega, ⟨fun h => ?_, fun h => ?_⟩⟩
  · have h' : x ^^^ b = x := by omega
    have := congrArg (fun z => x ^^^ z) h'
    rw [← Nat.xor_assoc, Nat.xor_self, Nat.zero_xor] at this
    omega
  · have h' : b = 0 := by omega
    rw [h', Nat.xor_zero]
end Go.Proofs.Ytdgleplmmbkgfaa
