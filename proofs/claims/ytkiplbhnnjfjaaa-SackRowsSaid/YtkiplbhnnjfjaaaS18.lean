/- The numbers of a row, of both; the first ranges of a row. -/
import Derived.Test.YtkiplbhnnjfjaaaS14
import Derived.Test.YtkiplbhnnjfjaaaH1
namespace Go.Proofs.Ytkiplbhnnjfjaaa
set_option linter.unusedVariables false
set_option linter.unusedSimpArgs false
open Go.RowKit Go.Proofs.YtkiplbhnnjfjaaaW.PrintWords Go.Proofs.YtkiplbhnnjfjaaaW.PrintLast Go.Proofs.YtkiplbhnnjfjaaaW.PrintMore Go.Proofs.Ytkiplbhnnjfjaaa.PP
set_option maxRecDepth 100000

/-- The numbers a .. b. -/
def rng (a b : Int) : List Int := (List.range (b - a).toNat).map fun i : Nat => a + i
theorem rng_nil {a b : Int} (h : b ≤ a) : rng a b = [] := by
  unfold rng
  rw [show (b - a).toNat = 0 by omega]
  rfl
theorem rng_cons {a b : Int} (h : a < b) : rng a b = a :: rng (a + 1) b := by
  unfold rng
  obtain ⟨d, hd⟩ : ∃ d, (b - a).toNat = d + 1 := ⟨(b - a).toNat - 1, by omega⟩
  rw [hd, show (b - (a + 1)).toNat = d by omega, List.range_succ_eq_map, List.map_cons, List.map_map]
  congr 1
  · simp
  · apply List.map_congr_left
    intro i _
    show a + ((i + 1 : Nat) : Int) = a + 1 + (i : Int)
    omega
theorem rng_len (a b : Int) : (rng a b).length = (b - a).toNat := by simp [rng]
def nums (l : List Rg) : List Int := l.flatMap fun r => rng r.1 r.2
/-- How many numbers a row has. -/
def tot (l : List Rg) : Nat := (nums l).length
theorem tot_cons (r : Rg) (l : List Rg) : tot (r :: l) = (r.2 - r.1).toNat + tot l := by
  unfold tot nums
  rw [List.flatMap_cons, List.length_append, rng_len]
theorem cnt_tot : ∀ (l : List Rg) (n : Int), (∀ r ∈ l, One r) → 0 ≤ n → n ≤ tp → l.foldl cnt1 n = min tp (n + tot l)
  | [], n, _, h0, h1 => by
    show n = min tp (n + ((0 : Nat) : Int))
    omega
  | r :: t, n, h, h0, h1 => by
    have hr := h r (by simp)
    have hb := cnt1_bd (r := r) h0 h1
    rw [List.foldl_cons, cnt_tot t _ (fun x hx => h x (by simp [hx])) hb.1 hb.2, tot_cons]
    unfold cnt1
    rw [if_pos hr]
    have := hr.2.1
    omega
def numV (most : Int) (l : List Rg) : List Int × Int := if chk l = 0 then (if cnt l > most then ([], 3) else (nums l, 0)) else ([], chk l)
theorem num_l1 (l : List (S30)) (len i fr to_ : Int) (R : List Int × Int) (K0 : Nat) : ∀ (d k : Nat) (a : Int) (o : List Int), (to_ - a).toNat = d → K0 + d < k → o.length + d ≤ 1000000000 → 0 ≤ a → to_ ≤ tp →
    (∀ k', K0 ≤ k' → sack_Numbers.l0 k' (o ++ rng a to_) l len (wrap64 (i + 1)) = some R) → sack_Numbers.l1 k o a l len i fr to_ = some R := by
  intro d
  induction d with
  | zero =>
    intro k a o hd hk ho h0 h1 hR
    obtain ⟨k, rfl⟩ : ∃ m, k = m + 1 := ⟨k - 1, by omega⟩
    simp only [sack_Numbers.l1]
    rw [if_neg (by omega)]
    rw [rng_nil (by omega), List.append_nil] at hR
    exact hR k (by omega)
  | succ d ih =>
    intro k a o hd hk ho h0 h1 hR
    obtain ⟨k, rfl⟩ : ∃ m, k = m + 1 := ⟨k - 1, by omega⟩
    simp only [sack_Numbers.l1]
    rw [if_pos (by omega), if_pos (by omega), show wrap64 (a + 1) = a + 1 by unfold wrap64; unfold tp at h1; omega]
    refine ih k (a + 1) (o ++ [a]) (by omega) (by omega) (by simp; omega) (by omega) h1 (fun k' hk' => ?_)
    have := hR k' hk'
    rwa [rng_cons (by omega), List.append_cons] at this
theorem num_l0 (l : List Rg) (hl : l.length ≤ 1000) (h1 : ∀ r ∈ l, One r) : ∀ (d i k : Nat) (o : List Int), l.length - i = d → i ≤ l.length → 2 * d + tot (l.drop i) < k → o.length + tot (l.drop i) ≤ 1000000000 → sack_Numbers.l0 k o (l.map mkP) (l.length : Int) (i : Int) = some (o ++ nums (l.drop i), 0) := by
  intro d
  induction d with
  | zero =>
    intro i k o hd hi hk ho
    obtain ⟨k, rfl⟩ : ∃ m, k = m + 1 := ⟨k - 1, by omega⟩
    simp only [sack_Numbers.l0]
    rw [if_neg (by omega), List.drop_of_length_le (by omega)]
    simp [nums]
  | succ d ih =>
    intro i k o hd hi hk ho
    obtain ⟨k, rfl⟩ : ∃ m, k = m + 1 := ⟨k - 1, by omega⟩
    obtain ⟨x, hx⟩ := at_ (l := l) (i := i) (by omega)
    have hox := h1 x (List.mem_of_getElem? hx)
    rw [drop_at hx, tot_cons] at hk ho
    simp only [sack_Numbers.l0]
    rw [if_pos (by omega), if_pos (by omega), if_pos (by rw [List.length_map]; omega), rdP hx, drop_at hx]
    refine num_l1 _ _ _ x.1 x.2 _ (2 * d + tot (l.drop (i + 1)) + 1) (x.2 - x.1).toNat k x.1 o rfl (by omega) (by omega) hox.1 hox.2.2 (fun k' hk' => ?_)
    rw [wr1 (n := l.length) (by omega) (by omega), ih (i + 1) k' (o ++ rng x.1 x.2) (by omega) (by omega) (by omega) (by rw [List.length_append, rng_len]; omega), List.append_assoc]
    rfl
theorem numbers_v (l : List Rg) (most : Int) (hl : l.length ≤ 1000000) (hm : most ≤ 5000) (k : Nat) (hk : 1100000 < k) : sack_Numbers.f k most (l.map mkP) = some (numV most l) := by
  unfold sack_Numbers.f numV
  rw [check_v l (by omega) k (by omega), Option.bind_some]
  by_cases h : chk l = 0
  · have hcnt : sack_Count.f k (l.map mkP) = some (cnt l) := by
      unfold sack_Count.f
      rw [List.length_map]
      exact count_v l (by omega) l.length 0 k 0 (by omega) (by omega) (by omega) (by omega) (by unfold tp; omega)
    obtain ⟨h256, hord⟩ := chk_zero h
    rw [if_pos h, if_pos h, hcnt, Option.bind_some]
    by_cases hc : cnt l > most
    · rw [if_pos hc, if_pos hc]
    · rw [if_neg hc, if_neg hc, List.length_map]
      have ht : tot l ≤ 5000 := by
        have := cnt_tot l 0 hord.one (by omega) (by unfold tp; omega)
        unfold cnt at hc
        unfold tp at this
        omega
      exact num_l0 l (by omega) hord.one l.length 0 k [] (by omega) (by omega) (by rw [List.drop_zero]; omega) (by rw [List.drop_zero]; simp; omega)
  · rw [if_neg h, if_neg h]
theorem rnum_l1 (l : List Rg) (hl : l.length ≤ 1000) (i : Nat) (x : Rg) (hx : l[i]? = some x) (R : List Int × Int) (K0 : Nat) : ∀ (d k : Nat) (a : Int) (o : List Int), (x.2 - a).toNat = d → K0 + d < k → o.length + d ≤ 1000000000 → 0 ≤ a → x.2 ≤ tp →
    (∀ k', K0 ≤ k' → nozzleref34_Numbers.l0 k' (l.map mkR) (o ++ rng a x.2) ((i + 1 : Nat) : Int) = some R) → nozzleref34_Numbers.l1 k (l.map mkR) o (i : Int) a = some R := by
  have hi := (List.getElem?_eq_some_iff.1 hx).1
  intro d
  induction d with
  | zero =>
    intro k a o hd hk ho h0 h1 hR
    obtain ⟨k, rfl⟩ : ∃ m, k = m + 1 := ⟨k - 1, by omega⟩
    simp only [nozzleref34_Numbers.l1]
    rw [if_pos (by omega), if_pos (by rw [List.length_map]; omega), rdR hx]
    show (if a < x.2 then _ else _) = _
    rw [if_neg (by omega), wr1 (n := l.length) hi (by omega)]
    rw [rng_nil (by omega), List.append_nil] at hR
    exact hR k (by omega)
  | succ d ih =>
    intro k a o hd hk ho h0 h1 hR
    obtain ⟨k, rfl⟩ : ∃ m, k = m + 1 := ⟨k - 1, by omega⟩
    simp only [nozzleref34_Numbers.l1]
    rw [if_pos (by omega), if_pos (by rw [List.length_map]; omega), rdR hx]
    show (if a < x.2 then _ else _) = _
    rw [if_pos (by omega), if_pos (by omega), show wrap64 (a + 1) = a + 1 by unfold wrap64; unfold tp at h1; omega]
    refine ih k (a + 1) (o ++ [a]) (by omega) (by omega) (by simp; omega) (by omega) h1 (fun k' hk' => ?_)
    have := hR k' hk'
    rwa [rng_cons (by omega), List.append_cons] at this
theorem rnum_l0 (l : List Rg) (hl : l.length ≤ 1000) (h1 : ∀ r ∈ l, One r) : ∀ (d i k : Nat) (o : List Int), l.length - i = d → i ≤ l.length → 2 * d + tot (l.drop i) < k → o.length + tot (l.drop i) ≤ 1000000000 → nozzleref34_Numbers.l0 k (l.map mkR) o (i : Int) = some (o ++ nums (l.drop i), 0) := by
  intro d
  induction d with
  | zero =>
    intro i k o hd hi hk ho
    obtain ⟨k, rfl⟩ : ∃ m, k = m + 1 := ⟨k - 1, by omega⟩
    simp only [nozzleref34_Numbers.l0]
    rw [if_neg (by rw [List.length_map]; omega), List.drop_of_length_le (by omega)]
    simp [nums]
  | succ d ih =>
    intro i k o hd hi hk ho
    obtain ⟨k, rfl⟩ : ∃ m, k = m + 1 := ⟨k - 1, by omega⟩
    obtain ⟨x, hx⟩ := at_ (l := l) (i := i) (by omega)
    have hox := h1 x (List.mem_of_getElem? hx)
    rw [drop_at hx, tot_cons] at hk ho
    simp only [nozzleref34_Numbers.l0]
    rw [if_pos (by rw [List.length_map]; omega), if_pos (by omega), rdR hx, drop_at hx]
    refine rnum_l1 l hl i x hx _ (2 * d + tot (l.drop (i + 1)) + 1) (x.2 - x.1).toNat k x.1 o rfl (by omega) (by omega) hox.1 hox.2.2 (fun k' hk' => ?_)
    rw [ih (i + 1) k' (o ++ rng x.1 x.2) (by omega) (by omega) (by omega) (by rw [List.length_append, rng_len]; omega), List.append_assoc]
    rfl
theorem rnumbers_v (l : List Rg) (most : Int) (hl : l.length ≤ 1000000) (hm : most ≤ 5000) (k : Nat) (hk : 1100000 < k) : nozzleref34_Numbers.f k most (l.map mkR) = some (numV most l) := by
  unfold nozzleref34_Numbers.f numV
  rw [rcheck_v l (by omega) k (by omega), Option.bind_some]
  by_cases h : chk l = 0
  · have hcnt : nozzleref34_Count.f k (l.map mkR) = some (cnt l) := rcount_v l (by omega) l.length 0 k 0 (by omega) (by omega) (by omega) (by omega) (by unfold tp; omega)
    obtain ⟨h256, hord⟩ := chk_zero h
    rw [if_pos h, if_pos h, hcnt, Option.bind_some]
    by_cases hc : cnt l > most
    · rw [if_pos hc, if_pos hc]
    · rw [if_neg hc, if_neg hc]
      have ht : tot l ≤ 5000 := by
        have := cnt_tot l 0 hord.one (by omega) (by unfold tp; omega)
        unfold cnt at hc
        unfold tp at this
        omega
      exact rnum_l0 l (by omega) hord.one l.length 0 k [] (by omega) (by omega) (by rw [List.drop_zero]; omega) (by rw [List.drop_zero]; simp; omega)
  · rw [if_neg h, if_neg h]
/-- What a call hands back that makes a row of numbers, or refuses. -/
def ResN (r : List Int × Int) (w : World) (e : Ending) (w' : World) : Prop := ∃ A' c', e = .returned (.tuple #[.slice A' r.1.length c', .int .i64 r.2]) ∧ Rd w' 1 A' r.1.length c' (r.1.map (Value.int .i64)) ∧ New w w'
theorem numV_len (most : Int) (l : List Rg) (hm : most ≤ 5000) : (numV most l).1.length ≤ 5000 := by
  unfold numV
  split
  · next h =>
    split
    · simp
    · next hc =>
      have := cnt_tot l 0 (chk_zero h).2.one (by omega) (by unfold tp; omega)
      unfold cnt at hc
      unfold tp at this
      show tot l ≤ 5000
      omega
  · simp
theorem numbers_c (most : Int) (A : Option Addr) (n c : Nat) (l : List Rg) (w : World) (h : Rd w 2 A n c (kcs l)) (hn : n ≤ 1000000) (hm : most ≤ 5000) :
    Calls Try.prog 18 #[.int .i64 most, .slice A n c] w (ResN (numV most l) w) := by
  obtain ⟨h1, h2, h3⟩ := rowP h
  have hl := h.lenk
  have := sack_Numbers.calls 1100001 most A c _ (numV most l).1 (numV most l).2 w h1 h2 (numbers_v l most (by omega) hm _ (by omega))
  rw [h3] at this
  refine this.mono fun _ _ ⟨v, he, hr, hb⟩ => ?_
  obtain ⟨A', c', rfl, ho⟩ := ownN hr
  exact ⟨A', c', he, ho.rd, New.of_below hb⟩
theorem rnumbers_c (most : Int) (A : Option Addr) (n c : Nat) (l : List Rg) (w : World) (h : Rd w 2 A n c (kcs l)) (hn : n ≤ 1000000) (hm : most ≤ 5000) :
    Calls Try.prog 20 #[.int .i64 most, .slice A n c] w (ResN (numV most l) w) := by
  obtain ⟨h1, h2, h3⟩ := rowR h
  have hl := h.lenk
  have := nozzleref34_Numbers.calls 1100001 most A c _ (numV most l).1 (numV most l).2 w h1 h2 (rnumbers_v l most (by omega) hm _ (by omega))
  rw [h3] at this
  refine this.mono fun _ _ ⟨v, he, hr, hb⟩ => ?_
  obtain ⟨A', c', rfl, ho⟩ := ownN hr
  exact ⟨A', c', he, ho.rd, New.of_below hb⟩
/-- How many are the first. -/
def fst_ (n : Nat) (m : Int) : Nat := (max 0 (min (n : Int) m)).toNat
set_option maxHeartbeats 400000 in
theorem first_c (A : Option Addr) (n c : Nat) (l : List Rg) (m : Int) (w : World) (h : Rd w 2 A n c (kcs l)) (hn : n ≤ 1000000) :
    Calls Try.prog 26 #[.slice A n c, .int .i64 m] w fun e w' => ∃ A' c', e = .returned (.slice A' (fst_ n m) c') ∧ Rd w' 2 A' (fst_ n m) c' (kcs (l.take (fst_ n m))) ∧ New w w' := by
  have hcap := h.cap
  have hk : fst_ n m ≤ n := by unfold fst_; omega
  have s1 := run_cut_h (P := Try.prog) 23 30 2 Try.underlying23 size_p A n c (max 0 (min (n : Int) m)) (fst_ n m) (by unfold fst_; omega) (by omega) .i64
  have h2 := h.takek (fst_ n m) hk
  generalize fst_ n m = k at *
  generalize hz : max 0 (min (n : Int) m) = z at s1
  have HZ := hide hz
  go_enter Try.func26, Try.ntmps26
  go_wp2_with fail
  refine (clone_c A k c _ _ h2 (by omega)).mono ?_
  rintro e w1 ⟨A1, c1, rfl, ho1, hn1⟩
  go_wp2_with fail
  go_ret
  exact ⟨A1, c1, rfl, ho1.rd, hn1⟩
end Go.Proofs.Ytkiplbhnnjfjaaa
