/- Plain: what is encoded is decoded. -/
import Derived.Test.YtdgleplmmbkgfaaV12
namespace Go.Proofs.Ytdgleplmmbkgfaa
open Go.RowKit
set_option maxRecDepth 100000

theorem getN_putL (size : Nat) (n : Nat) : getN (putL size n size) = ((n % 256 ^ size : Nat) : Int) := by
  have h : ∀ k, k ≤ size → getN (putL size n k) = ((n / 256 ^ (size - k) % 256 ^ k : Nat) : Int) := by
    intro k
    induction k with
    | zero => intro _; simp [putL, getN, Nat.mod_one]
    | succ k ih =>
      intro hk
      rw [putL_succ, getN_snoc, ih (by omega)]
      have e1 : (2 : Int) ^ (8 * (size - 1 - k)) = ((256 ^ (size - (k + 1)) : Nat) : Int) := by
        rw [show size - 1 - k = size - (k + 1) by omega, Int.natCast_pow, Int.pow_mul]; rfl
      have e2 : 256 ^ (size - k) = 256 ^ (size - (k + 1)) * 256 := by rw [← Nat.pow_succ]; congr 1; omega
      rw [e1, e2, ← Nat.div_div_eq_div_mul, ← Int.natCast_ediv]
      generalize n / 256 ^ (size - (k + 1)) = q
      have hm := Nat.mod_mul (x := q) (a := 256) (b := 256 ^ k)
      rw [Nat.mul_comm, ← Nat.pow_succ] at hm
      rw [hm]
      omega
  have := h size (Nat.le_refl _)
  simpa using this

theorem getN_put (s : Nat) (n : Int) (h0 : 0 ≤ n) (h : n < (256 ^ s : Nat)) : getN (putL s n s) = n := by
  obtain ⟨k, rfl⟩ := Int.eq_ofNat_of_zero_le h0
  have h' : k < 256 ^ s := by omega
  rw [getN_putL, Nat.mod_eq_of_lt h']
theorem nmAt_mid (a m z : List Int) (l : List Int) (k s : Nat) (hl : l = a ++ (m ++ z)) (ha : a.length = k) (hm : m.length = s) : nmAt l k s = getN m := by
  subst hl; subst ha; subst hm
  unfold nmAt
  rw [List.drop_left, List.take_left]
theorem getN_one (x : Int) : getN [x] = x := by simp [getN]
theorem dc_en (P : Pk) (hok : okB P = true) : dcE (enL P) = 0 ∧ dcP (enL P) = P := by
  have hb := ok_bnd hok
  obtain ⟨h1, h2, h3, h4, h5, h6, h7, h8, h9⟩ := hb
  have hlen : (enL P).length = 36 + P.b.length := by unfold enL; rw [List.length_append, List.length_append, hdL_len, putL_length]
  have e36 : (enL P).drop 36 = P.b := by
    unfold enL
    rw [show 36 = (hdL P ++ putL 4 (ad2 (hdL P) P.b) 4).length by rw [List.length_append, hdL_len, putL_length], List.drop_left]
  have e32 : (enL P).take 32 = hdL P := by
    unfold enL
    rw [List.append_assoc, show 32 = (hdL P).length from (hdL_len P).symm, List.take_left]
  obtain ⟨ha0, ha1⟩ := ad2_b (hdL P) P.b
  have key : ∃ L4 L8 M8 L2 S4 : List Int, L4 = putL 4 P.cn 4 ∧ L8 = putL 8 P.sq 8 ∧ M8 = putL 8 P.pl 8 ∧ L2 = putL 2 P.b.length 2 ∧ S4 = putL 4 (ad2 (hdL P) P.b) 4 := ⟨_, _, _, _, _, rfl, rfl, rfl, rfl, rfl⟩
  obtain ⟨L4, L8, M8, L2, S4, k1, k2, k3, k4, k5⟩ := key
  have hen : enL P = [78, 90, 1, P.kd, P.fl, P.pa, P.sr, P.ds] ++ (L4 ++ (L8 ++ (M8 ++ (L2 ++ (putL 2 0 2 ++ (S4 ++ P.b)))))) := by
    rw [k1, k2, k3, k4, k5]
    unfold enL hdL
    simp only [List.append_assoc]
  have n1 : L4.length = 4 := by rw [k1]; exact putL_length _ _ _
  have n2 : L8.length = 8 := by rw [k2]; exact putL_length _ _ _
  have n3 : M8.length = 8 := by rw [k3]; exact putL_length _ _ _
  have n4 : L2.length = 2 := by rw [k4]; exact putL_length _ _ _
  have n5 : S4.length = 4 := by rw [k5]; exact putL_length _ _ _
  have n6 : (putL 2 0 2).length = 2 := putL_length _ _ _
  have f0 : nmAt (enL P) 0 1 = 78 := (nmAt_mid [] [78] ([90, 1, P.kd, P.fl, P.pa, P.sr, P.ds] ++ (L4 ++ (L8 ++ (M8 ++ (L2 ++ (putL 2 0 2 ++ (S4 ++ P.b))))))) _ _ _ (hen.trans rfl) rfl rfl).trans (getN_one _)
  have f1 : nmAt (enL P) 1 1 = 90 := (nmAt_mid [78] [90] ([1, P.kd, P.fl, P.pa, P.sr, P.ds] ++ (L4 ++ (L8 ++ (M8 ++ (L2 ++ (putL 2 0 2 ++ (S4 ++ P.b))))))) _ _ _ (hen.trans rfl) rfl rfl).trans (getN_one _)
  have f2 : nmAt (enL P) 2 1 = 1 := (nmAt_mid [78, 90] [1] ([P.kd, P.fl, P.pa, P.sr, P.ds] ++ (L4 ++ (L8 ++ (M8 ++ (L2 ++ (putL 2 0 2 ++ (S4 ++ P.b))))))) _ _ _ (hen.trans rfl) rfl rfl).trans (getN_one _)
  have f3 : nmAt (enL P) 3 1 = P.kd := (nmAt_mid [78, 90, 1] [P.kd] ([P.fl, P.pa, P.sr, P.ds] ++ (L4 ++ (L8 ++ (M8 ++ (L2 ++ (putL 2 0 2 ++ (S4 ++ P.b))))))) _ _ _ (hen.trans rfl) rfl rfl).trans (getN_one _)
  have f4 : nmAt (enL P) 4 1 = P.fl := (nmAt_mid [78, 90, 1, P.kd] [P.fl] ([P.pa, P.sr, P.ds] ++ (L4 ++ (L8 ++ (M8 ++ (L2 ++ (putL 2 0 2 ++ (S4 ++ P.b))))))) _ _ _ (hen.trans rfl) rfl rfl).trans (getN_one _)
  have f5 : nmAt (enL P) 5 1 = P.pa := (nmAt_mid [78, 90, 1, P.kd, P.fl] [P.pa] ([P.sr, P.ds] ++ (L4 ++ (L8 ++ (M8 ++ (L2 ++ (putL 2 0 2 ++ (S4 ++ P.b))))))) _ _ _ (hen.trans rfl) rfl rfl).trans (getN_one _)
  have f6 : nmAt (enL P) 6 1 = P.sr := (nmAt_mid [78, 90, 1, P.kd, P.fl, P.pa] [P.sr] ([P.ds] ++ (L4 ++ (L8 ++ (M8 ++ (L2 ++ (putL 2 0 2 ++ (S4 ++ P.b))))))) _ _ _ (hen.trans rfl) rfl rfl).trans (getN_one _)
  have f7 : nmAt (enL P) 7 1 = P.ds := (nmAt_mid [78, 90, 1, P.kd, P.fl, P.pa, P.sr] [P.ds] ([] ++ (L4 ++ (L8 ++ (M8 ++ (L2 ++ (putL 2 0 2 ++ (S4 ++ P.b))))))) _ _ _ (hen.trans rfl) rfl rfl).trans (getN_one _)
  have f8 : nmAt (enL P) 8 4 = P.cn := (nmAt_mid ([78, 90, 1, P.kd, P.fl, P.pa, P.sr, P.ds]) L4 (L8 ++ (M8 ++ (L2 ++ (putL 2 0 2 ++ (S4 ++ P.b))))) _ _ _ (by rw [hen]; try simp only [List.append_assoc]) (by simp only [List.length_append, n1, n2, n3, n4, n5, n6, List.length_cons, List.length_nil]) n1).trans (by rw [k1]; exact getN_put 4 _ (by omega) (by simp only [Nat.reducePow]; omega))
  have f12 : nmAt (enL P) 12 8 = P.sq := (nmAt_mid ([78, 90, 1, P.kd, P.fl, P.pa, P.sr, P.ds] ++ L4) L8 (M8 ++ (L2 ++ (putL 2 0 2 ++ (S4 ++ P.b)))) _ _ _ (by rw [hen]; try simp only [List.append_assoc]) (by simp only [List.length_append, n1, n2, n3, n4, n5, n6, List.length_cons, List.length_nil]) n2).trans (by rw [k2]; exact getN_put 8 _ (by omega) (by simp only [Nat.reducePow]; omega))
  have f20 : nmAt (enL P) 20 8 = P.pl := (nmAt_mid ([78, 90, 1, P.kd, P.fl, P.pa, P.sr, P.ds] ++ L4 ++ L8) M8 (L2 ++ (putL 2 0 2 ++ (S4 ++ P.b))) _ _ _ (by rw [hen]; try simp only [List.append_assoc]) (by simp only [List.length_append, n1, n2, n3, n4, n5, n6, List.length_cons, List.length_nil]) n3).trans (by rw [k3]; exact getN_put 8 _ (by omega) (by simp only [Nat.reducePow]; omega))
  have f28 : nmAt (enL P) 28 2 = P.b.length := (nmAt_mid ([78, 90, 1, P.kd, P.fl, P.pa, P.sr, P.ds] ++ L4 ++ L8 ++ M8) L2 (putL 2 0 2 ++ (S4 ++ P.b)) _ _ _ (by rw [hen]; try simp only [List.append_assoc]) (by simp only [List.length_append, n1, n2, n3, n4, n5, n6, List.length_cons, List.length_nil]) n4).trans (by rw [k4]; exact getN_put 2 _ (by omega) (by simp only [Nat.reducePow]; omega))
  have f32 : nmAt (enL P) 32 4 = ad2 (hdL P) P.b := (nmAt_mid ([78, 90, 1, P.kd, P.fl, P.pa, P.sr, P.ds] ++ L4 ++ L8 ++ M8 ++ L2 ++ putL 2 0 2) S4 (P.b) _ _ _ (by rw [hen]; try simp only [List.append_assoc]) (by simp only [List.length_append, n1, n2, n3, n4, n5, n6, List.length_cons, List.length_nil]) n5).trans (by rw [k5]; exact getN_put 4 _ (by omega) (by simp only [Nat.reducePow]; omega))
  have hd : dcP (enL P) = P := by
    unfold dcP
    rw [f3, f4, f5, f6, f7, f8, f12, f20, e36]
    rw [show toI P.sq = P.sq from IntWalk.i64_in _ (by omega), show toI P.pl = P.pl from IntWalk.i64_in _ (by omega)]
  refine ⟨?_, hd⟩
  unfold dcE
  rw [if_neg (by omega), if_neg (by rw [f0, f1, f2, f28, hlen]; omega), e32, e36, if_neg (fun h => h f32), hd, if_pos ⟨hok, rfl⟩]
end Go.Proofs.Ytdgleplmmbkgfaa
