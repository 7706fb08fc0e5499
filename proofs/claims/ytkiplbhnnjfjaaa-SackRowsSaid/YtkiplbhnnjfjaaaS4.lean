/- What the printed functions come to: one row taken from another; the numbers of a row. -/
import Derived.Test.YtkiplbhnnjfjaaaS3
namespace Go.Proofs.Ytkiplbhnnjfjaaa
set_option linter.unusedVariables false
set_option linter.unusedSimpArgs false
open Go.RowKit Go.Proofs.YtkiplbhnnjfjaaaW.PrintWords Go.Proofs.YtkiplbhnnjfjaaaW.PrintLast Go.Proofs.YtkiplbhnnjfjaaaW.PrintMore Go.Proofs.Ytkiplbhnnjfjaaa.PP
set_option maxRecDepth 100000

/-- What is left of at .. to, b taken away. -/
def mns (to_ : Int) : Int → List Rg → List Rg
  | at_, [] => if at_ < to_ then [(at_, to_)] else []
  | at_, x :: t => if x.2 ≤ at_ ∨ to_ ≤ x.1 then mns to_ at_ t else (if at_ < x.1 then [(at_, x.1)] else []) ++ mns to_ x.2 t
def mnus (a b : List Rg) : List Rg := a.flatMap fun r => mns r.2 r.1 b
theorem mns_len (to_ : Int) : ∀ (at_ : Int) (b : List Rg), (mns to_ at_ b).length ≤ b.length + 1
  | at_, [] => by unfold mns; split <;> simp
  | at_, x :: t => by
    unfold mns
    split
    · have := mns_len to_ at_ t; simp only [List.length_cons]; omega
    · have := mns_len to_ x.2 t
      rw [List.length_append]
      split <;> simp only [List.length_cons, List.length_nil] <;> omega
theorem mns_ok : ∀ {b : List Rg} {e at_ to_ : Int}, Ord e b → 0 ≤ at_ → to_ ≤ tp → (∀ r ∈ mns to_ at_ b, One r) ∧ ∀ n, Hs (mns to_ at_ b) n ↔ (at_ ≤ n ∧ n < to_) ∧ ¬ Hs b n
  | [], e, at_, to_, _, h0, h1 => by
    unfold mns
    by_cases h : at_ < to_
    · rw [if_pos h]
      refine ⟨fun r hr => ?_, fun n => ?_⟩
      · rw [List.mem_singleton.1 hr]
        exact ⟨h0, h, h1⟩
      · rw [hs_cons]
        simp [Hs.nil]
    · rw [if_neg h]
      refine ⟨(fun r hr => by cases hr), fun n => ?_⟩
      simp only [Hs.nil, false_iff]
      omega
  | x :: t, e, at_, to_, ho, h0, h1 => by
    obtain ⟨g1, ⟨g2, g3, g4⟩, g5⟩ := ho
    unfold mns
    by_cases h : x.2 ≤ at_ ∨ to_ ≤ x.1
    · rw [if_pos h]
      obtain ⟨q1, q2⟩ := mns_ok (b := t) (e := x.2) (at_ := at_) (to_ := to_) g5 h0 h1
      refine ⟨q1, fun n => ?_⟩
      rw [q2 n, hs_cons, not_or]
      constructor
      · rintro ⟨k1, k2⟩; exact ⟨k1, by omega, k2⟩
      · rintro ⟨k1, _, k2⟩; exact ⟨k1, k2⟩
    · rw [if_neg h]
      obtain ⟨q1, q2⟩ := mns_ok (b := t) (e := x.2) (at_ := x.2) (to_ := to_) g5 (by omega) h1
      constructor
      · intro r hr
        rcases List.mem_append.1 hr with hr | hr
        · split at hr
          · next hh =>
            rw [List.mem_singleton.1 hr]
            exact ⟨h0, hh, by show x.1 ≤ tp; omega⟩
          · cases hr
        · exact q1 r hr
      · intro n
        rw [hs_append, q2 n, hs_cons, not_or]
        have hd : Hs (if at_ < x.1 then [(at_, x.1)] else []) n ↔ at_ ≤ n ∧ n < x.1 := by
          split
          · rw [hs_cons]; simp [Hs.nil]
          · simp only [Hs.nil, false_iff]; omega
        rw [hd]
        constructor
        · rintro (k | ⟨k1, k2⟩)
          · exact ⟨by omega, by omega, fun hh => by have := g5.lt hh; omega⟩
          · exact ⟨by omega, by omega, k2⟩
        · rintro ⟨k1, k2, k3⟩
          by_cases hn : n < x.1
          · exact .inl ⟨k1.1, hn⟩
          · exact .inr ⟨⟨by omega, k1.2⟩, k3⟩
theorem mnus_ok : ∀ {a b : List Rg} {e : Int}, (∀ r ∈ a, One r) → Ord e b → (∀ r ∈ mnus a b, One r) ∧ ∀ n, Hs (mnus a b) n ↔ Hs a n ∧ ¬ Hs b n
  | [], b, e, _, _ => ⟨(fun r hr => by cases hr), fun n => by simp [mnus, Hs.nil]⟩
  | r :: t, b, e, h, hb => by
    obtain ⟨q1, q2⟩ := mnus_ok (a := t) (fun x hx => h x (by simp [hx])) hb
    obtain ⟨g1, g2, g3⟩ := h r (by simp)
    obtain ⟨k1, k2⟩ := mns_ok (to_ := r.2) (at_ := r.1) hb g1 g3
    have hc : mnus (r :: t) b = mns r.2 r.1 b ++ mnus t b := rfl
    rw [hc]
    refine ⟨fun x hx => (List.mem_append.1 hx).elim (k1 x) (q1 x), fun n => ?_⟩
    rw [hs_append, k2 n, q2 n, hs_cons]
    constructor
    · rintro (⟨h1, h2⟩ | ⟨h1, h2⟩)
      · exact ⟨.inl h1, h2⟩
      · exact ⟨.inr h1, h2⟩
    · rintro ⟨h1 | h1, h2⟩
      · exact .inl ⟨h1, h2⟩
      · exact .inr ⟨h1, h2⟩
theorem minus_l1 (b : List Rg) (hb : b.length ≤ 1000) (al : List (S30)) (alen i to_ fr : Int) (R : List (S30)) (K0 : Nat) : ∀ (d j k : Nat) (at_ : Int) (o : List Rg), b.length - j = d → j ≤ b.length → K0 + 2 * d < k → o.length + d ≤ 1000000000 →
    (∀ k', K0 ≤ k' → sack_minus.l0 k' (b.map mkP) ((o ++ mns to_ at_ (b.drop j)).map mkP) al alen (wrap64 (i + 1)) = some R) → sack_minus.l1 k (b.map mkP) (o.map mkP) at_ al alen i (b.map mkP) (b.length : Int) (j : Int) fr to_ = some R := by
  intro d
  induction d with
  | zero =>
    intro j k at_ o hd hj hk ho hR
    obtain ⟨k, rfl⟩ : ∃ m, k = m + 1 := ⟨k - 1, by omega⟩
    rw [List.drop_of_length_le (by omega)] at hR
    simp only [sack_minus.l1]
    rw [if_neg (by omega)]
    unfold mns at hR
    by_cases h : at_ < to_
    · rw [if_pos h, if_pos (by rw [List.length_map]; omega)]
      rw [if_pos h] at hR
      have := hR k (by omega)
      rw [show (o ++ [(at_, to_)]).map mkP = o.map mkP ++ [mkP (at_, to_)] by simp] at this
      exact this
    · rw [if_neg h]
      rw [if_neg h, List.append_nil] at hR
      exact hR k (by omega)
  | succ d ih =>
    intro j k at_ o hd hj hk ho hR
    obtain ⟨k, rfl⟩ : ∃ m, k = m + 2 := ⟨k - 2, by omega⟩
    obtain ⟨x, hx⟩ : ∃ x, b[j]? = some x := ⟨_, List.getElem?_eq_getElem (by omega)⟩
    rw [drop_at hx] at hR
    unfold mns at hR
    simp only [sack_minus.l1]
    rw [if_pos (by omega), if_pos (by omega), if_pos (by rw [List.length_map]; omega), rdP hx]
    show (if x.2 ≤ at_ then sack_minus.j2 (k + 1) _ _ _ _ _ _ _ _ _ true _ _ x.1 x.2 else sack_minus.j2 (k + 1) _ _ _ _ _ _ _ _ _ (decide (x.1 ≥ to_)) _ _ x.1 x.2) = _
    have hgo : ∀ q : Bool, q = decide (x.2 ≤ at_ ∨ to_ ≤ x.1) → sack_minus.j2 (k + 1) (b.map mkP) (o.map mkP) at_ al alen i (b.map mkP) (b.length : Int) (j : Int) q fr to_ x.1 x.2 = some R := by
      intro q hq
      simp only [sack_minus.j2]
      rw [wr1 (n := b.length) (by omega) (by omega)]
      by_cases h : x.2 ≤ at_ ∨ to_ ≤ x.1
      · rw [if_pos (by rw [hq]; exact decide_eq_true h)]
        rw [if_pos h] at hR
        exact ih (j + 1) k at_ o (by omega) (by omega) (by omega) (by omega) hR
      · rw [if_neg (by rw [hq, decide_eq_true_eq]; exact h)]
        rw [if_neg h] at hR
        by_cases h2 : x.1 > at_
        · rw [if_pos h2, if_pos (by rw [List.length_map]; omega)]
          rw [if_pos (show at_ < x.1 from h2)] at hR
          show sack_minus.l1 k _ (o.map mkP ++ [mkP (at_, x.1)]) _ _ _ _ _ _ _ _ _ = _
          rw [show o.map mkP ++ [mkP (at_, x.1)] = (o ++ [(at_, x.1)]).map mkP by simp]
          refine ih (j + 1) k x.2 (o ++ [(at_, x.1)]) (by omega) (by omega) (by omega) (by simp; omega) (fun k' hk' => ?_)
          have := hR k' hk'
          rwa [← List.append_assoc] at this
        · rw [if_neg h2]
          rw [if_neg (show ¬ at_ < x.1 from h2), List.nil_append] at hR
          exact ih (j + 1) k x.2 o (by omega) (by omega) (by omega) (by omega) hR
    by_cases h3 : x.2 ≤ at_
    · rw [if_pos h3]
      exact hgo true (decide_eq_true (.inl h3)).symm
    · rw [if_neg h3]
      refine hgo _ ?_
      rw [decide_eq_decide]
      exact ⟨fun h => .inr h, fun h => h.resolve_left h3⟩
theorem minus_l0 (a b : List Rg) (ha : a.length ≤ 1000) (hb : b.length ≤ 1000) : ∀ (d i k : Nat) (o : List Rg), a.length - i = d → i ≤ a.length → d * (2 * b.length + 3) < k → o.length + d * (b.length + 1) ≤ 1000000000 → sack_minus.l0 k (b.map mkP) (o.map mkP) (a.map mkP) (a.length : Int) (i : Int) = some ((o ++ mnus (a.drop i) b).map mkP) := by
  intro d
  induction d with
  | zero =>
    intro i k o hd hi hk ho
    obtain ⟨k, rfl⟩ : ∃ m, k = m + 1 := ⟨k - 1, by omega⟩
    simp only [sack_minus.l0]
    rw [if_neg (by omega), List.drop_of_length_le (by omega)]
    simp [mnus]
  | succ d ih =>
    intro i k o hd hi hk ho
    rw [Nat.succ_mul] at hk ho
    obtain ⟨k, rfl⟩ : ∃ m, k = m + 1 := ⟨k - 1, by omega⟩
    obtain ⟨x, hx⟩ := at_ (l := a) (i := i) (by omega)
    simp only [sack_minus.l0]
    rw [if_pos (by omega), if_pos (by omega), if_pos (by rw [List.length_map]; omega), rdP hx, List.length_map, drop_at hx]
    have hlen := mns_len x.2 x.1 b
    refine minus_l1 b hb _ _ _ x.2 x.1 _ (d * (2 * b.length + 3) + 1) b.length 0 k x.1 o (by omega) (by omega) (by omega) (by omega) (fun k' hk' => ?_)
    rw [wr1 (n := a.length) (by omega) (by omega), List.drop_zero, ih (i + 1) k' (o ++ mns x.2 x.1 b) (by omega) (by omega) (by omega) (by rw [List.length_append]; omega)]
    congr 2
    rw [List.append_assoc]
    rfl
theorem minus_v (a b : List Rg) (ha : a.length ≤ 1000) (hb : b.length ≤ 1000) (k : Nat) (hk : 1000 * 2003 < k) : sack_minus.f k (a.map mkP) (b.map mkP) = some ((mnus a b).map mkP) := by
  unfold sack_minus.f
  rw [List.length_map]
  have h1 : a.length * (2 * b.length + 3) ≤ 1000 * 2003 := Nat.mul_le_mul ha (by omega)
  have h2 : a.length * (b.length + 1) ≤ 1000 * 1001 := Nat.mul_le_mul ha (by omega)
  exact minus_l0 a b ha hb a.length 0 k [] (by omega) (by omega) (by omega) (by simp; omega)
theorem sameInts_l (xs ys : List Int) (hl : xs.length ≤ 1000000) (hy : xs.length = ys.length) : ∀ (d i k : Nat), xs.length - i = d → i ≤ xs.length → d < k → nozzleref04_SameInts.l0 k xs ys (i : Int) = some (decide (xs.drop i = ys.drop i)) := by
  intro d
  induction d with
  | zero =>
    intro i k hd hi hk
    obtain ⟨k, rfl⟩ : ∃ m, k = m + 1 := ⟨k - 1, by omega⟩
    simp only [nozzleref04_SameInts.l0]
    rw [if_neg (by omega), List.drop_of_length_le (by omega), List.drop_of_length_le (by omega)]
    rfl
  | succ d ih =>
    intro i k hd hi hk
    obtain ⟨k, rfl⟩ : ∃ m, k = m + 1 := ⟨k - 1, by omega⟩
    obtain ⟨x, hx⟩ := at_ (l := xs) (i := i) (by omega)
    obtain ⟨y, hy'⟩ := at_ (l := ys) (i := i) (by omega)
    simp only [nozzleref04_SameInts.l0]
    rw [if_pos (by omega), if_pos (by omega), if_pos (by omega), rdN hx, rdN hy', drop_at hx, drop_at hy']
    by_cases h : x = y
    · subst h
      rw [if_pos rfl, wr1 (n := xs.length) (by omega) (by omega), ih (i + 1) k (by omega) (by omega) (by omega)]
      congr 1
      rw [decide_eq_decide]
      simp
    · rw [if_neg h]
      congr 1
      exact (decide_eq_false (fun hh => h (List.cons.inj hh).1)).symm
theorem sameInts_v (xs ys : List Int) (hl : xs.length ≤ 1000000) (k : Nat) (hk : xs.length < k) : nozzleref04_SameInts.f k xs ys = some (decide (xs = ys)) := by
  unfold nozzleref04_SameInts.f
  by_cases h : xs.length = ys.length
  · rw [if_pos (by omega)]
    exact sameInts_l xs ys hl h xs.length 0 k (by omega) (by omega) hk
  · rw [if_neg (by omega)]
    congr 1
    exact (decide_eq_false (fun e => h (by rw [e]))).symm
end Go.Proofs.Ytkiplbhnnjfjaaa
