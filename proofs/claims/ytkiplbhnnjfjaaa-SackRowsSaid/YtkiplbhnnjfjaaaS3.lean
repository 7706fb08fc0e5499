/- What the printed functions come to: ranges put in, taken away, turned. -/
import Derived.Test.YtkiplbhnnjfjaaaS2
namespace Go.Proofs.Ytkiplbhnnjfjaaa
set_option linter.unusedVariables false
set_option linter.unusedSimpArgs false
open Go.RowKit Go.Proofs.YtkiplbhnnjfjaaaW.PrintWords Go.Proofs.YtkiplbhnnjfjaaaW.PrintLast Go.Proofs.YtkiplbhnnjfjaaaW.PrintMore Go.Proofs.Ytkiplbhnnjfjaaa.PP
set_option maxRecDepth 100000

theorem back_v (l : List Rg) (hl : l.length ≤ 1000000) : ∀ (d i k : Nat) (o : List Rg), l.length - i = d → i ≤ l.length → d < k → o.length ≤ i → nozzlelaw34_back.l0 k (l.map mkP) (o.map mkR) (i : Int) = some ((o ++ l.drop i).map mkR) := by
  intro d
  induction d with
  | zero =>
    intro i k o hd hi hk ho
    obtain ⟨k, rfl⟩ : ∃ m, k = m + 1 := ⟨k - 1, by omega⟩
    simp only [nozzlelaw34_back.l0]
    rw [if_neg (by rw [List.length_map]; omega), List.drop_of_length_le (by omega), List.append_nil]
  | succ d ih =>
    intro i k o hd hi hk ho
    obtain ⟨k, rfl⟩ : ∃ m, k = m + 1 := ⟨k - 1, by omega⟩
    obtain ⟨x, hx⟩ := at_ (l := l) (i := i) (by omega)
    simp only [nozzlelaw34_back.l0]
    rw [if_pos (by rw [List.length_map]; omega), if_pos (by omega), if_pos (by rw [List.length_map]; omega), rdP hx, wr1 (n := l.length) (by omega) (by omega), drop_at hx]
    show nozzlelaw34_back.l0 k _ (o.map mkR ++ [mkR x]) _ = _
    rw [show o.map mkR ++ [mkR x] = (o ++ [x]).map mkR by simp, ih (i + 1) k (o ++ [x]) (by omega) (by omega) (by omega) (by simp; omega)]
    simp
theorem of_v (l : List Rg) (hl : l.length ≤ 1000000) : ∀ (d i k : Nat) (o : List Rg), l.length - i = d → i ≤ l.length → d < k → o.length ≤ i → nozzlelaw34_of.l0 k (l.map mkR) (o.map mkP) (i : Int) = some ((o ++ l.drop i).map mkP) := by
  intro d
  induction d with
  | zero =>
    intro i k o hd hi hk ho
    obtain ⟨k, rfl⟩ : ∃ m, k = m + 1 := ⟨k - 1, by omega⟩
    simp only [nozzlelaw34_of.l0]
    rw [if_neg (by rw [List.length_map]; omega), List.drop_of_length_le (by omega), List.append_nil]
  | succ d ih =>
    intro i k o hd hi hk ho
    obtain ⟨k, rfl⟩ : ∃ m, k = m + 1 := ⟨k - 1, by omega⟩
    obtain ⟨x, hx⟩ := at_ (l := l) (i := i) (by omega)
    simp only [nozzlelaw34_of.l0]
    rw [if_pos (by rw [List.length_map]; omega), if_pos (by omega), if_pos (by rw [List.length_map]; omega), rdR hx, wr1 (n := l.length) (by omega) (by omega), drop_at hx]
    show nozzlelaw34_of.l0 k _ (o.map mkP ++ [mkP x]) _ = _
    rw [show o.map mkP ++ [mkP x] = (o ++ [x]).map mkP by simp, ih (i + 1) k (o ++ [x]) (by omega) (by omega) (by omega) (by simp; omega)]
    simp
theorem absorb_l (l : List Rg) (hl : l.length ≤ 1000000) : ∀ (d i k : Nat) (o : List Rg) (r : Rg), l.length - i = d → i ≤ l.length → d < k → o.length ≤ 1000000 → nozzleref34_with.l1 k (l.map mkR) (o.map mkR) (i : Int) r.1 r.2 = some ((o ++ absorb (l.drop i) r).map mkR) := by
  intro d
  induction d with
  | zero =>
    intro i k o r hd hi hk ho
    obtain ⟨k, rfl⟩ : ∃ m, k = m + 1 := ⟨k - 1, by omega⟩
    simp only [nozzleref34_with.l1]
    rw [if_neg (by rw [List.length_map]; omega), if_pos (by rw [List.length_map]; omega), Int.toNat_natCast, List.drop_of_length_le (l := l.map mkR) (by rw [List.length_map]; omega), List.drop_of_length_le (l := l) (by omega), Option.bind_some, if_pos (by omega), if_pos (by rw [List.length_map]; omega), Option.bind_some, if_pos (by simp; omega)]
    simp [absorb, mkR]
  | succ d ih =>
    intro i k o r hd hi hk ho
    obtain ⟨k, rfl⟩ : ∃ m, k = m + 1 := ⟨k - 1, by omega⟩
    obtain ⟨x, hx⟩ := at_ (l := l) (i := i) (by omega)
    have hi2 : i < l.length := by omega
    simp only [nozzleref34_with.l1]
    rw [if_pos (by rw [List.length_map]; omega), if_pos (by omega), rdR hx, drop_at hx]
    show (if x.1 ≤ r.2 then nozzleref34_with.l1 k _ _ _ (mn x.1 r.1) (mx x.2 r.2) else _) = _
    unfold absorb
    by_cases h : x.1 ≤ r.2
    · rw [if_pos h, if_pos h, wr1 (n := l.length) (by omega) (by omega), mn_eq, mx_eq]
      exact ih (i + 1) k o (min x.1 r.1, max x.2 r.2) (by omega) (by omega) (by omega) ho
    · rw [if_neg h, if_neg h, if_pos (by rw [List.length_map]; omega), Option.bind_some, if_pos (by rw [List.length_map]; omega), Option.bind_some, Int.toNat_natCast, ← List.map_drop, drop_at hx, if_pos (by simp; omega)]
      simp [mkR]
theorem put1_l (l : List Rg) (hl : l.length ≤ 1000000) (r : Rg) : ∀ (d i k : Nat) (o : List Rg), l.length - i = d → i ≤ l.length → 2 * d + 3 < k → o.length ≤ i → nozzleref34_with.l0 k (l.map mkR) (o.map mkR) (i : Int) r.1 r.2 = some ((o ++ put1 (l.drop i) r).map mkR) := by
  intro d
  induction d with
  | zero =>
    intro i k o hd hi hk ho
    obtain ⟨k, rfl⟩ : ∃ m, k = m + 2 := ⟨k - 2, by omega⟩
    simp only [nozzleref34_with.l0]
    rw [if_neg (by rw [List.length_map]; omega)]
    simp only [nozzleref34_with.j1]
    rw [absorb_l l hl 0 i k o r (by omega) hi (by omega) (by omega), List.drop_of_length_le (by omega)]
    rfl
  | succ d ih =>
    intro i k o hd hi hk ho
    obtain ⟨k, rfl⟩ : ∃ m, k = m + 2 := ⟨k - 2, by omega⟩
    obtain ⟨x, hx⟩ := at_ (l := l) (i := i) (by omega)
    have hi2 : i < l.length := by omega
    simp only [nozzleref34_with.l0]
    rw [if_pos (by rw [List.length_map]; omega), if_pos (by omega), rdR hx, drop_at hx]
    show (if x.2 < r.1 then _ else _) = _
    unfold put1
    by_cases h : x.2 < r.1
    · rw [if_pos h, if_pos h, if_pos (by rw [List.length_map]; omega), wr1 (n := l.length) (by omega) (by omega)]
      show nozzleref34_with.l0 (k + 1) _ (o.map mkR ++ [mkR x]) _ _ _ = _
      rw [show o.map mkR ++ [mkR x] = (o ++ [x]).map mkR by simp, ih (i + 1) (k + 1) (o ++ [x]) (by omega) (by omega) (by omega) (by simp; omega)]
      simp
    · rw [if_neg h, if_neg h]
      simp only [nozzleref34_with.j1]
      rw [absorb_l l hl (d + 1) i k o r (by omega) hi (by omega) (by omega), drop_at hx]
theorem with_v (l : List Rg) (hl : l.length ≤ 1000000) (r : Rg) (k : Nat) (hk : 2 * l.length + 3 < k) : nozzleref34_with.f k (l.map mkR) r.1 r.2 = some ((put1 l r).map mkR) :=
  put1_l l hl r l.length 0 k [] (by omega) (by omega) (by omega) (by simp)
theorem absorb_len : ∀ (l : List Rg) (r : Rg), (absorb l r).length ≤ l.length + 1
  | [], r => by simp [absorb]
  | a :: t, r => by
    unfold absorb
    split
    · have := absorb_len t (min a.1 r.1, max a.2 r.2)
      simp only [List.length_cons]
      omega
    · simp
theorem put1_len : ∀ (l : List Rg) (r : Rg), (put1 l r).length ≤ l.length + 1
  | [], r => by simp [put1]
  | a :: t, r => by
    unfold put1
    split
    · have := put1_len t r
      simp only [List.length_cons]
      omega
    · exact absorb_len (a :: t) r
def bnd (l : List Rg) : List Rg × Int := if 256 < l.length then ([], 3) else (l, 0)
theorem bound_v (l : List Rg) : nozzleref34_bound.f (l.map mkR) = some ((bnd l).1.map mkR, (bnd l).2) := by
  unfold nozzleref34_bound.f bnd
  rw [List.length_map]
  by_cases h : 256 < l.length
  · rw [if_pos (by omega), if_pos h]
    rfl
  · rw [if_neg (by omega), if_neg h]
def num (x : Int) : Rg := (x, x + 1)
def ofR (xs : List Int) : List Rg × Int := if ∀ x ∈ xs, 0 ≤ x ∧ x < tp then bnd ((xs.map num).foldl put1 []) else ([], 5)
theorem rof_l1 (xs : List Int) (hl : xs.length ≤ 1000) (h1 : ∀ x ∈ xs, 0 ≤ x ∧ x < tp) : ∀ (d i k : Nat) (o : List Rg), xs.length - i = d → i ≤ xs.length → d + 2010 < k → o.length ≤ i → nozzleref34_Of.l1 k xs (o.map mkR) (i : Int) = some ((bnd (((xs.drop i).map num).foldl put1 o)).1.map mkR, (bnd (((xs.drop i).map num).foldl put1 o)).2) := by
  intro d
  induction d with
  | zero =>
    intro i k o hd hi hk ho
    obtain ⟨k, rfl⟩ : ∃ m, k = m + 1 := ⟨k - 1, by omega⟩
    simp only [nozzleref34_Of.l1]
    rw [if_neg (by omega), List.drop_of_length_le (by omega), bound_v, Option.bind_some]
    rfl
  | succ d ih =>
    intro i k o hd hi hk ho
    obtain ⟨k, rfl⟩ : ∃ m, k = m + 1 := ⟨k - 1, by omega⟩
    obtain ⟨x, hx⟩ := at_ (l := xs) (i := i) (by omega)
    have hb := h1 x (List.mem_of_getElem? hx)
    have hw : wrap64 (x + 1) = x + 1 := by unfold wrap64; unfold tp at hb; omega
    simp only [nozzleref34_Of.l1]
    rw [if_pos (by omega), if_pos (by omega), rdN hx, hw, with_v o (by omega) (x, x + 1) k (by omega), Option.bind_some, wr1 (n := xs.length) (by omega) (by omega), ih (i + 1) k (put1 o (x, x + 1)) (by omega) (by omega) (by omega) (by have := put1_len o (x, x + 1); omega), drop_at hx]
    rfl
theorem rof_l0 (xs : List Int) (hl : xs.length ≤ 1000) : ∀ (d i k : Nat), xs.length - i = d → i ≤ xs.length → d + 4000 < k → (∀ j, j < i → ∀ x, xs[j]? = some x → 0 ≤ x ∧ x < tp) → nozzleref34_Of.l0 k xs (i : Int) = some ((ofR xs).1.map mkR, (ofR xs).2) := by
  intro d
  induction d with
  | zero =>
    intro i k hd hi hk hb
    obtain ⟨k, rfl⟩ : ∃ m, k = m + 1 := ⟨k - 1, by omega⟩
    have h1 : ∀ x ∈ xs, 0 ≤ x ∧ x < tp := fun x hx => by
      obtain ⟨j, hj, e⟩ := List.getElem_of_mem hx
      exact hb j (by omega) x (by rw [List.getElem?_eq_getElem hj, e])
    simp only [nozzleref34_Of.l0]
    rw [if_neg (by omega)]
    have := rof_l1 xs hl h1 xs.length 0 k [] (by omega) (by omega) (by omega) (by simp)
    unfold ofR
    rw [if_pos h1]
    exact this
  | succ d ih =>
    intro i k hd hi hk hb
    obtain ⟨k, rfl⟩ : ∃ m, k = m + 1 := ⟨k - 1, by omega⟩
    obtain ⟨x, hx⟩ := at_ (l := xs) (i := i) (by omega)
    have hm := List.mem_of_getElem? hx
    simp only [nozzleref34_Of.l0]
    rw [if_pos (by omega), if_pos (by omega), rdN hx]
    by_cases h0 : x < 0
    · rw [if_pos h0]
      unfold ofR
      rw [if_neg (fun h => by have := h x hm; omega)]
      rfl
    · rw [if_neg h0]
      by_cases h1 : x ≥ 1152921504606846976
      · rw [if_pos h1]
        unfold ofR
        rw [if_neg (fun h => by have := h x hm; unfold tp at this; omega)]
        rfl
      · rw [if_neg h1, wr1 (n := xs.length) (by omega) (by omega)]
        refine ih (i + 1) k (by omega) (by omega) (by omega) (fun j hj y hy => ?_)
        rcases Nat.lt_or_ge j i with h | h
        · exact hb j h y hy
        · obtain rfl : j = i := by omega
          rw [hx] at hy
          cases hy
          unfold tp
          omega
theorem rof_v (xs : List Int) (hl : xs.length ≤ 1000) : nozzleref34_Of.f 10000 xs = some ((ofR xs).1.map mkR, (ofR xs).2) :=
  rof_l0 xs hl xs.length 0 10000 (by omega) (by omega) (by omega) (fun j hj => by omega)
end Go.Proofs.Ytkiplbhnnjfjaaa
