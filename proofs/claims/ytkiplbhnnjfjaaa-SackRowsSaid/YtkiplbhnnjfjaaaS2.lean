/- What the printed functions come to: of rows of ranges. -/
import Derived.Test.YtkiplbhnnjfjaaaS1
import Derived.Test.YtkiplbhnnjfjaaaG4
namespace Go.Proofs.Ytkiplbhnnjfjaaa
set_option linter.unusedVariables false
set_option linter.unusedSimpArgs false
open Go.RowKit Go.Proofs.YtkiplbhnnjfjaaaW.PrintWords Go.Proofs.YtkiplbhnnjfjaaaW.PrintLast Go.Proofs.YtkiplbhnnjfjaaaW.PrintMore Go.Proofs.Ytkiplbhnnjfjaaa.PP
set_option maxRecDepth 100000

theorem right_v (a b : Int) : sack_Range_right.f a b = some (decide (One (a, b))) := by
  unfold sack_Range_right.f
  by_cases h1 : a ≥ 0
  · rw [if_pos h1]
    by_cases h2 : a < b
    · rw [if_pos h2]
      congr 1
      rw [decide_eq_decide]
      exact ⟨fun h => ⟨h1, h2, h⟩, fun h => h.2.2⟩
    · rw [if_neg h2]
      congr 1
      exact (decide_eq_false (fun h => h2 h.2.1)).symm
  · rw [if_neg h1]
    congr 1
    exact (decide_eq_false (fun h => h1 h.1)).symm
theorem one_v (a b : Int) : nozzleref34_one.f a b = some (decide (One (a, b))) := by
  have := right_v a b
  unfold sack_Range_right.f at this
  unfold nozzleref34_one.f
  exact this
/-- What a count is, one range on. -/
def cnt1 (n : Int) (r : Rg) : Int := if One r then min tp (n + (r.2 - r.1)) else n
def cnt (l : List Rg) : Int := l.foldl cnt1 0
theorem cnt1_bd {n : Int} {r : Rg} (h0 : 0 ≤ n) (h1 : n ≤ tp) : 0 ≤ cnt1 n r ∧ cnt1 n r ≤ tp := by
  unfold cnt1
  split
  · next h => have := h.2.1; omega
  · exact ⟨h0, h1⟩
theorem mn_eq (a b : Int) : mn a b = min a b := by unfold mn; omega
theorem mx_eq (a b : Int) : mx a b = max a b := by unfold mx; omega
theorem count_v (l : List Rg) (hl : l.length ≤ 4611686018427387904) : ∀ (d i k : Nat) (n : Int), l.length - i = d → i ≤ l.length → d < k → 0 ≤ n → n ≤ tp → sack_Count.l0 k n (l.map mkP) (l.length : Int) (i : Int) = some ((l.drop i).foldl cnt1 n) := by
  intro d
  induction d with
  | zero =>
    intro i k n hd hi hk h0 h1
    obtain ⟨k, rfl⟩ : ∃ m, k = m + 1 := ⟨k - 1, by omega⟩
    simp only [sack_Count.l0]
    rw [if_neg (by omega), List.drop_of_length_le (by omega)]
    rfl
  | succ d ih =>
    intro i k n hd hi hk h0 h1
    obtain ⟨k, rfl⟩ : ∃ m, k = m + 1 := ⟨k - 1, by omega⟩
    obtain ⟨x, hx⟩ : ∃ x, l[i]? = some x := ⟨_, List.getElem?_eq_getElem (by omega)⟩
    have hdr : l.drop i = x :: l.drop (i + 1) := by
      rw [List.drop_eq_getElem_cons (by omega)]
      congr 1
      exact Option.some.inj ((List.getElem?_eq_getElem (by omega)).symm.trans hx)
    simp only [sack_Count.l0]
    rw [if_pos (by omega), if_pos (by omega), if_pos (by rw [List.length_map]; omega), rdP hx]
    show (sack_Range_right.f x.1 x.2).bind _ = _
    rw [right_v, hdr, List.foldl_cons, Option.bind_some, wr1 (n := l.length) (by omega) hl]
    have hb := cnt1_bd (r := x) h0 h1
    by_cases h : One (x.1, x.2)
    · rw [if_pos (decide_eq_true h), ← ih (i + 1) k (cnt1 n x) (by omega) (by omega) (by omega) hb.1 hb.2]
      congr 1
      unfold cnt1
      rw [if_pos (show One x from h), mn_eq]
      obtain ⟨g1, g2, g3⟩ := h
      show min 1152921504606846976 (wrap64 (wrap64 (n + x.2) - x.1)) = _
      unfold tp at *
      unfold wrap64
      dsimp only at *
      omega
    · rw [if_neg (by rw [decide_eq_true_eq]; exact h), ← ih (i + 1) k (cnt1 n x) (by omega) (by omega) (by omega) hb.1 hb.2]
      congr 1
      unfold cnt1
      rw [if_neg (show ¬ One x from h)]
theorem drop_at {α : Type} {l : List α} {i : Nat} {x : α} (h : l[i]? = some x) : l.drop i = x :: l.drop (i + 1) := by
  obtain ⟨hi, he⟩ := List.getElem?_eq_some_iff.1 h
  rw [List.drop_eq_getElem_cons hi, he]
theorem at_ {α : Type} {l : List α} {i : Nat} (h : i < l.length) : ∃ x, l[i]? = some x := ⟨_, List.getElem?_eq_getElem h⟩
def chk (l : List Rg) : Int := if 256 < l.length then 3 else if Ord (-1) l then 0 else 5
theorem check_l (l : List Rg) (hl : l.length ≤ 4611686018427387904) : ∀ (d i k : Nat) (e : Int), l.length - i = d → i ≤ l.length → d < k → sack_Check.l0 k e (l.map mkP) (l.length : Int) (i : Int) = some (if Ord e (l.drop i) then 0 else 5) := by
  intro d
  induction d with
  | zero =>
    intro i k e hd hi hk
    obtain ⟨k, rfl⟩ : ∃ m, k = m + 1 := ⟨k - 1, by omega⟩
    simp only [sack_Check.l0]
    rw [if_neg (by omega), List.drop_of_length_le (by omega)]
    rfl
  | succ d ih =>
    intro i k e hd hi hk
    obtain ⟨k, rfl⟩ : ∃ m, k = m + 1 := ⟨k - 1, by omega⟩
    obtain ⟨x, hx⟩ := at_ (l := l) (i := i) (by omega)
    simp only [sack_Check.l0]
    rw [if_pos (by omega), if_pos (by omega), if_pos (by rw [List.length_map]; omega), rdP hx]
    show (sack_Range_right.f x.1 x.2).bind _ = _
    rw [right_v, drop_at hx, Option.bind_some, wr1 (n := l.length) (by omega) hl]
    by_cases h : One (x.1, x.2)
    · rw [if_pos (decide_eq_true h)]
      show (if x.1 ≤ e then some 5 else sack_Check.l0 k x.2 _ _ _) = _
      by_cases h2 : x.1 ≤ e
      · rw [if_pos h2, if_neg (fun hh => by have := hh.1; omega)]
      · rw [if_neg h2, ih (i + 1) k x.2 (by omega) (by omega) (by omega)]
        congr 1
        by_cases h3 : Ord x.2 (l.drop (i + 1))
        · rw [if_pos h3, if_pos ⟨by omega, h, h3⟩]
        · rw [if_neg h3, if_neg (fun hh => h3 hh.2.2)]
    · rw [if_neg (by rw [decide_eq_true_eq]; exact h), if_neg (fun hh => h hh.2.1)]
theorem check_v (l : List Rg) (hl : l.length ≤ 4611686018427387904) (k : Nat) (hk : l.length < k) : sack_Check.f k (l.map mkP) = some (chk l) := by
  unfold sack_Check.f chk
  rw [List.length_map]
  by_cases h : 256 < l.length
  · rw [if_pos (by omega), if_pos h]
  · rw [if_neg (by omega), if_neg h]
    exact check_l l hl l.length 0 k (-1) (by omega) (by omega) (by omega)
/-- The first of several rows that may not be. -/
def chks : List (List Rg) → Int
  | [] => 0
  | a :: t => if chk a = 0 then chks t else chk a
theorem rcheck_l (l : List Rg) (hl : l.length ≤ 4611686018427387904) : ∀ (d i k : Nat) (e : Int), l.length - i = d → i ≤ l.length → d < k → (i = 0 → e = -1) → (0 < i → (l[i - 1]?).map (fun x => x.2) = some e) → nozzleref34_Check.l0 k (l.map mkR) (i : Int) = some (if Ord e (l.drop i) then 0 else 5) := by
  intro d
  induction d with
  | zero =>
    intro i k e hd hi hk _ _
    obtain ⟨k, rfl⟩ : ∃ m, k = m + 1 := ⟨k - 1, by omega⟩
    simp only [nozzleref34_Check.l0]
    rw [if_neg (by rw [List.length_map]; omega), List.drop_of_length_le (by omega)]
    rfl
  | succ d ih =>
    intro i k e hd hi hk h0 hp
    obtain ⟨k, rfl⟩ : ∃ m, k = m + 1 := ⟨k - 1, by omega⟩
    obtain ⟨x, hx⟩ := at_ (l := l) (i := i) (by omega)
    have hn := ih (i + 1) k x.2 (by omega) (by omega) (by omega) (fun h => by omega) (fun _ => by rw [Nat.add_sub_cancel, hx]; rfl)
    simp only [nozzleref34_Check.l0]
    rw [if_pos (by rw [List.length_map]; omega), if_pos (by omega), rdR hx]
    show (nozzleref34_one.f x.1 x.2).bind _ = _
    rw [one_v, drop_at hx, Option.bind_some, wr1 (n := l.length) (by omega) hl]
    by_cases h : One (x.1, x.2)
    · rw [if_pos (decide_eq_true h)]
      rcases Nat.eq_zero_or_pos i with hz | hz
      · rw [if_neg (by omega), hn]
        congr 1
        have he := h0 hz
        by_cases h3 : Ord x.2 (l.drop (i + 1))
        · rw [if_pos h3, if_pos ⟨by have := h.1; dsimp only at this; omega, h, h3⟩]
        · rw [if_neg h3, if_neg (fun hh => h3 hh.2.2)]
      · obtain ⟨y, hy, hye⟩ := Option.map_eq_some_iff.1 (hp hz)
        have hw : wrap64 ((i : Int) - 1) = ((i - 1 : Nat) : Int) := by unfold wrap64; omega
        rw [if_pos (by omega), hw, if_pos (by omega), if_pos (by rw [List.length_map]; omega), rdR hy]
        show (if x.1 ≤ y.2 then some 5 else _) = _
        rw [hye]
        by_cases h2 : x.1 ≤ e
        · rw [if_pos h2, if_neg (fun hh => by have := hh.1; omega)]
        · rw [if_neg h2, hn]
          congr 1
          by_cases h3 : Ord x.2 (l.drop (i + 1))
          · rw [if_pos h3, if_pos ⟨by omega, h, h3⟩]
          · rw [if_neg h3, if_neg (fun hh => h3 hh.2.2)]
    · rw [if_neg (by rw [decide_eq_true_eq]; exact h), if_neg (fun hh => h hh.2.1)]
theorem rcheck_v (l : List Rg) (hl : l.length ≤ 4611686018427387904) (k : Nat) (hk : l.length < k) : nozzleref34_Check.f k (l.map mkR) = some (chk l) := by
  unfold nozzleref34_Check.f chk
  rw [List.length_map]
  by_cases h : 256 < l.length
  · rw [if_pos (by omega), if_pos h]
  · rw [if_neg (by omega), if_neg h]
    exact rcheck_l l hl l.length 0 k (-1) (by omega) (by omega) (by omega) (fun _ => rfl) (fun h => by omega)
theorem rcount_v (l : List Rg) (hl : l.length ≤ 4611686018427387904) : ∀ (d i k : Nat) (n : Int), l.length - i = d → i ≤ l.length → d < k → 0 ≤ n → n ≤ tp → nozzleref34_Count.l0 k (l.map mkR) n (i : Int) = some ((l.drop i).foldl cnt1 n) := by
  intro d
  induction d with
  | zero =>
    intro i k n hd hi hk h0 h1
    obtain ⟨k, rfl⟩ : ∃ m, k = m + 1 := ⟨k - 1, by omega⟩
    simp only [nozzleref34_Count.l0]
    rw [if_neg (by rw [List.length_map]; omega), List.drop_of_length_le (by omega)]
    rfl
  | succ d ih =>
    intro i k n hd hi hk h0 h1
    obtain ⟨k, rfl⟩ : ∃ m, k = m + 1 := ⟨k - 1, by omega⟩
    obtain ⟨x, hx⟩ := at_ (l := l) (i := i) (by omega)
    simp only [nozzleref34_Count.l0]
    rw [if_pos (by rw [List.length_map]; omega), if_pos (by omega), rdR hx]
    show (nozzleref34_one.f x.1 x.2).bind _ = _
    rw [one_v, drop_at hx, List.foldl_cons, Option.bind_some, wr1 (n := l.length) (by omega) hl]
    have hb := cnt1_bd (r := x) h0 h1
    by_cases h : One (x.1, x.2)
    · rw [if_pos (decide_eq_true h), ← ih (i + 1) k (cnt1 n x) (by omega) (by omega) (by omega) hb.1 hb.2]
      congr 1
      unfold cnt1
      rw [if_pos (show One x from h), mn_eq]
      obtain ⟨g1, g2, g3⟩ := h
      show min 1152921504606846976 (wrap64 (n + wrap64 (x.2 - x.1))) = _
      unfold tp at *
      unfold wrap64
      dsimp only at *
      omega
    · rw [if_neg (by rw [decide_eq_true_eq]; exact h), ← ih (i + 1) k (cnt1 n x) (by omega) (by omega) (by omega) hb.1 hb.2]
      congr 1
      unfold cnt1
      rw [if_neg (show ¬ One x from h)]
theorem rhas_v (l : List Rg) (n : Int) (hl : l.length ≤ 4611686018427387904) : ∀ (d i k : Nat), l.length - i = d → i ≤ l.length → d < k → nozzleref34_Has.l0 k (l.map mkR) n (i : Int) = some (decide (Hs (l.drop i) n)) := by
  intro d
  induction d with
  | zero =>
    intro i k hd hi hk
    obtain ⟨k, rfl⟩ : ∃ m, k = m + 1 := ⟨k - 1, by omega⟩
    simp only [nozzleref34_Has.l0]
    rw [if_neg (by rw [List.length_map]; omega), List.drop_of_length_le (by omega)]
    rfl
  | succ d ih =>
    intro i k hd hi hk
    obtain ⟨k, rfl⟩ : ∃ m, k = m + 1 := ⟨k - 1, by omega⟩
    obtain ⟨x, hx⟩ := at_ (l := l) (i := i) (by omega)
    simp only [nozzleref34_Has.l0]
    rw [if_pos (by rw [List.length_map]; omega), if_pos (by omega), rdR hx, drop_at hx, wr1 (n := l.length) (by omega) hl, ih (i + 1) k (by omega) (by omega) (by omega)]
    show (if n ≥ x.1 then (if n < x.2 then _ else _) else _) = _
    by_cases h1 : n ≥ x.1
    · rw [if_pos h1]
      by_cases h2 : n < x.2
      · rw [if_pos h2]
        congr 1
        exact (decide_eq_true ((hs_cons _ _ _).2 (.inl ⟨h1, h2⟩))).symm
      · rw [if_neg h2]
        congr 1
        rw [decide_eq_decide, hs_cons]
        exact ⟨.inr, fun h => h.resolve_left (fun h => h2 h.2)⟩
    · rw [if_neg h1]
      congr 1
      rw [decide_eq_decide, hs_cons]
      exact ⟨.inr, fun h => h.resolve_left (fun h => h1 h.1)⟩
end Go.Proofs.Ytkiplbhnnjfjaaa
