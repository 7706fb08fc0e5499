/- Rows of ranges of numbers, plain: what a row has; a row in order is told by what it has; ranges united, cut, sorted and joined. Nothing of the program is claimed here. -/
namespace Go.Proofs.Ytkiplbhnnjfjaaa
set_option linter.unusedVariables false
set_option linter.unusedSimpArgs false

abbrev Rg := Int × Int
def tp : Int := 1152921504606846976
/-- A range that may be. -/
def One (r : Rg) : Prop := 0 ≤ r.1 ∧ r.1 < r.2 ∧ r.2 ≤ tp
instance (r : Rg) : Decidable (One r) := by unfold One; infer_instance
/-- In order behind e: each begins behind the end of the one ahead. -/
def Ord : Int → List Rg → Prop
  | _, [] => True
  | e, r :: t => e < r.1 ∧ One r ∧ Ord r.2 t
def ordB : Int → List Rg → Bool
  | _, [] => true
  | e, r :: t => decide (e < r.1) && decide (One r) && ordB r.2 t
theorem ordB_iff : ∀ (e : Int) (l : List Rg), ordB e l = true ↔ Ord e l
  | _, [] => by simp [ordB, Ord]
  | e, r :: t => by simp [ordB, Ord, ordB_iff r.2 t, and_assoc]
instance (e : Int) (l : List Rg) : Decidable (Ord e l) := decidable_of_iff _ (ordB_iff e l)
def Hs (l : List Rg) (n : Int) : Prop := ∃ r ∈ l, r.1 ≤ n ∧ n < r.2
instance (l : List Rg) (n : Int) : Decidable (Hs l n) := by unfold Hs; infer_instance
theorem Hs.nil (n : Int) : ¬ Hs [] n := fun ⟨_, h, _⟩ => by cases h
theorem hs_cons (r : Rg) (l : List Rg) (n : Int) : Hs (r :: l) n ↔ (r.1 ≤ n ∧ n < r.2) ∨ Hs l n := by
  simp [Hs]
theorem hs_append (a b : List Rg) (n : Int) : Hs (a ++ b) n ↔ Hs a n ∨ Hs b n := by
  simp only [Hs, List.mem_append]
  constructor
  · rintro ⟨r, h | h, h'⟩
    · exact .inl ⟨r, h, h'⟩
    · exact .inr ⟨r, h, h'⟩
  · rintro (⟨r, h, h'⟩ | ⟨r, h, h'⟩)
    · exact ⟨r, .inl h, h'⟩
    · exact ⟨r, .inr h, h'⟩
theorem hs_perm {a b : List Rg} (h : a.Perm b) (n : Int) : Hs a n ↔ Hs b n := by
  simp only [Hs, h.mem_iff]
theorem Ord.mono {e e' : Int} {l : List Rg} (h : Ord e l) (he : e' ≤ e) : Ord e' l := by
  cases l with
  | nil => trivial
  | cons r t => exact ⟨by have := h.1; omega, h.2⟩
theorem Ord.lt : ∀ {l : List Rg} {e : Int}, Ord e l → ∀ {n : Int}, Hs l n → e < n
  | [], _, _, n, h => absurd h (Hs.nil n)
  | r :: t, e, ho, n, h => by
    rcases (hs_cons r t n).1 h with h | h
    · have := ho.1; omega
    · have := ho.2.2.lt h; have := ho.1; have := ho.2.1.2.1; omega
theorem Ord.one : ∀ {l : List Rg} {e : Int}, Ord e l → ∀ r ∈ l, One r
  | [], _, _, _, h => by cases h
  | a :: t, e, ho, r, h => by
    rcases List.mem_cons.1 h with rfl | h
    · exact ho.2.1
    · exact ho.2.2.one r h
/-- A row in order is told by what it has. -/
theorem ord_unique : ∀ {l l' : List Rg} {e e' : Int}, Ord e l → Ord e' l' → (∀ n, Hs l n ↔ Hs l' n) → l = l'
  | [], [], _, _, _, _, _ => rfl
  | [], r :: t, _, _, _, h', hh => absurd ((hh r.1).2 ((hs_cons r t r.1).2 (.inl ⟨Int.le_refl _, h'.2.1.2.1⟩))) (Hs.nil _)
  | r :: t, [], _, _, h, _, hh => absurd ((hh r.1).1 ((hs_cons r t r.1).2 (.inl ⟨Int.le_refl _, h.2.1.2.1⟩))) (Hs.nil _)
  | r :: t, r' :: t', e, e', h, h', hh => by
    obtain ⟨h1, ⟨hr0, hr1, hr2⟩, h3⟩ := h
    obtain ⟨h1', ⟨hr0', hr1', hr2'⟩, h3'⟩ := h'
    have a1 := (hs_cons r' t' r.1).1 ((hh r.1).1 ((hs_cons r t r.1).2 (.inl ⟨Int.le_refl _, hr1⟩)))
    have a2 := (hs_cons r t r'.1).1 ((hh r'.1).2 ((hs_cons r' t' r'.1).2 (.inl ⟨Int.le_refl _, hr1'⟩)))
    have e1 : r.1 = r'.1 := by
      rcases a1 with a1 | a1
      · rcases a2 with a2 | a2
        · omega
        · have := h3.lt a2; omega
      · have := h3'.lt a1
        rcases a2 with a2 | a2
        · omega
        · have := h3.lt a2; omega
    have e2 : r.2 = r'.2 := by
      rcases Int.lt_trichotomy r.2 r'.2 with hlt | heq | hlt
      · have b := (hs_cons r t r.2).1 ((hh r.2).2 ((hs_cons r' t' r.2).2 (.inl ⟨by omega, hlt⟩)))
        rcases b with b | b
        · omega
        · have := h3.lt b; omega
      · exact heq
      · have b := (hs_cons r' t' r'.2).1 ((hh r'.2).1 ((hs_cons r t r'.2).2 (.inl ⟨by omega, hlt⟩)))
        rcases b with b | b
        · omega
        · have := h3'.lt b; omega
    have er : r = r' := Prod.ext e1 e2
    subst er
    congr 1
    refine ord_unique h3 h3' (fun n => ?_)
    have hn := hh n
    rw [hs_cons, hs_cons] at hn
    constructor
    · intro hx
      have := h3.lt hx
      rcases hn.1 (.inr hx) with h | h
      · omega
      · exact h
    · intro hx
      have := h3'.lt hx
      rcases hn.2 (.inr hx) with h | h
      · omega
      · exact h

/-! ### joining a sorted row -/
/-- One more range, the last one's begin not behind its own. -/
def join (out : List Rg) (r : Rg) : List Rg :=
  match out.getLast? with
  | none => [r]
  | some c => if r.1 ≤ c.2 then out.dropLast ++ [(c.1, max c.2 r.2)] else out ++ [r]
theorem join_nil (r : Rg) : join [] r = [r] := rfl
theorem join_snoc (a : List Rg) (c r : Rg) : join (a ++ [c]) r = if r.1 ≤ c.2 then a ++ [(c.1, max c.2 r.2)] else a ++ [c] ++ [r] := by
  unfold join
  simp
theorem Ord.snoc : ∀ {a : List Rg} {e : Int} {c r : Rg}, Ord e (a ++ [c]) → c.2 < r.1 → One r → Ord e (a ++ [c] ++ [r])
  | [], e, c, r, h, h1, h2 => ⟨h.1, h.2.1, h1, h2, trivial⟩
  | x :: t, e, c, r, h, h1, h2 => ⟨h.1, h.2.1, Ord.snoc (a := t) h.2.2 h1 h2⟩
theorem Ord.last : ∀ {a : List Rg} {e : Int} {c : Rg} {y : Int}, Ord e (a ++ [c]) → c.2 ≤ y → y ≤ tp → Ord e (a ++ [(c.1, y)])
  | [], e, c, y, h, h1, h2 => by
    obtain ⟨g1, ⟨g2, g3, g4⟩, _⟩ := h
    exact ⟨g1, ⟨g2, (by show c.1 < y; omega), h2⟩, trivial⟩
  | x :: t, e, c, y, h, h1, h2 => ⟨h.1, h.2.1, Ord.last (a := t) h.2.2 h1 h2⟩
def srt (l : List Rg) : Prop := l.Pairwise (fun a b => a.1 ≤ b.1)
theorem joined : ∀ (s : List Rg), (∀ r ∈ s, One r) → srt s → Ord (-1) (s.foldl join []) ∧ (∀ n, Hs (s.foldl join []) n ↔ Hs s n) := by
  have main : ∀ (s : List Rg) (a : List Rg) (c : Rg), (∀ r ∈ s, One r) → srt s → Ord (-1) (a ++ [c]) → (∀ r ∈ s, c.1 ≤ r.1) → Ord (-1) (s.foldl join (a ++ [c])) ∧ (∀ n, Hs (s.foldl join (a ++ [c])) n ↔ Hs (a ++ [c]) n ∨ Hs s n) := by
    intro s
    induction s with
    | nil => intro a c _ _ h _; exact ⟨h, fun n => by simp [Hs.nil]⟩
    | cons r t ih =>
      intro a c h1 hs ho hc
      obtain ⟨hrt, hst⟩ := List.pairwise_cons.1 hs
      have hr := h1 r (by simp)
      have hcr := hc r (by simp)
      rw [List.foldl_cons, join_snoc]
      have h1t : ∀ x ∈ t, One x := fun x hx => h1 x (by simp [hx])
      by_cases hle : r.1 ≤ c.2
      · rw [if_pos hle]
        have hcm : One c := ho.one c (by simp)
        have ho' : Ord (-1) (a ++ [(c.1, max c.2 r.2)]) := ho.last (by omega) (by have := hr.2.2; have := hcm.2.2; omega)
        obtain ⟨k1, k2⟩ := ih a (c.1, max c.2 r.2) h1t hst ho' (fun x hx => by show c.1 ≤ x.1; have := hrt x hx; omega)
        refine ⟨k1, fun n => ?_⟩
        rw [k2 n, hs_append, hs_append, hs_cons, hs_cons, hs_cons]
        simp only [Hs.nil, or_false]
        have hb := hcm.2.1
        have hbr := hr.2.1
        constructor
        · rintro ((h | h) | h)
          · exact .inl (.inl h)
          · by_cases h3 : n < c.2
            · exact .inl (.inr ⟨h.1, h3⟩)
            · exact .inr (.inl ⟨by omega, by omega⟩)
          · exact .inr (.inr h)
        · rintro ((h | h) | (h | h))
          · exact .inl (.inl h)
          · exact .inl (.inr ⟨h.1, by omega⟩)
          · exact .inl (.inr ⟨by omega, by omega⟩)
          · exact .inr h
      · rw [if_neg hle]
        obtain ⟨k1, k2⟩ := ih (a ++ [c]) r h1t hst (ho.snoc (by omega) hr) hrt
        refine ⟨k1, fun n => ?_⟩
        rw [k2 n, hs_append (a ++ [c]), hs_cons, hs_cons]
        simp only [Hs.nil, or_false, or_assoc]
  intro s h1 hs
  cases s with
  | nil => exact ⟨trivial, fun n => Iff.rfl⟩
  | cons r t =>
    obtain ⟨hrt, hst⟩ := List.pairwise_cons.1 hs
    have hr := h1 r (by simp)
    have := main t [] r (fun x hx => h1 x (by simp [hx])) hst ⟨by have := hr.1; omega, hr, trivial⟩ hrt
    refine ⟨this.1, fun n => ?_⟩
    rw [hs_cons]
    have h2 := this.2 n
    rw [List.nil_append, hs_cons] at h2
    simp only [Hs.nil, or_false] at h2
    exact h2

/-! ### one range more -/
def absorb : List Rg → Rg → List Rg
  | [], r => [r]
  | a :: t, r => if a.1 ≤ r.2 then absorb t (min a.1 r.1, max a.2 r.2) else r :: a :: t
def put1 : List Rg → Rg → List Rg
  | [], r => [r]
  | a :: t, r => if a.2 < r.1 then a :: put1 t r else absorb (a :: t) r
theorem absorb_ok : ∀ {l : List Rg} {e : Int} {r : Rg}, Ord e l → One r → r.1 ≤ e + 1 → -1 ≤ e → ∀ {e0 : Int}, e0 < r.1 → Ord e0 (absorb l r) ∧ ∀ n, Hs (absorb l r) n ↔ Hs l n ∨ (r.1 ≤ n ∧ n < r.2)
  | [], e, r, h, hr, h1, h2, e0, h0 => ⟨⟨h0, hr, trivial⟩, fun n => by unfold absorb; rw [hs_cons]; simp [Hs.nil]⟩
  | a :: t, e, r, h, hr, h1, h2, e0, h0 => by
    obtain ⟨g1, ⟨g2, g3, g4⟩, g5⟩ := h
    obtain ⟨k2, k3, k4⟩ := hr
    unfold absorb
    by_cases hle : a.1 ≤ r.2
    · rw [if_pos hle]
      have hm : min a.1 r.1 = r.1 := by omega
      rw [hm]
      have hr' : One (r.1, max a.2 r.2) := ⟨k2, (by show r.1 < max a.2 r.2; omega), (by show max a.2 r.2 ≤ tp; omega)⟩
      obtain ⟨q1, q2⟩ := absorb_ok (l := t) (e := a.2) (r := (r.1, max a.2 r.2)) g5 hr' (by show r.1 ≤ a.2 + 1; omega) (by omega) (e0 := e0) h0
      refine ⟨q1, fun n => ?_⟩
      rw [q2 n, hs_cons]
      show _ ∨ (r.1 ≤ n ∧ n < max a.2 r.2) ↔ _
      constructor
      · rintro (h | h)
        · exact .inl (.inr h)
        · by_cases h3 : n < r.2
          · exact .inr ⟨h.1, h3⟩
          · exact .inl (.inl ⟨by omega, by omega⟩)
      · rintro ((h | h) | h)
        · exact .inr ⟨by omega, by omega⟩
        · exact .inl h
        · exact .inr ⟨h.1, by omega⟩
    · rw [if_neg hle]
      refine ⟨⟨h0, ⟨k2, k3, k4⟩, by omega, ⟨g2, g3, g4⟩, g5⟩, fun n => ?_⟩
      rw [hs_cons]
      exact or_comm
theorem absorb_hd {l : List Rg} {r : Rg} {a : Rg} {e : Int} (h : Ord e (a :: l)) (hr : One r) (hle : ¬ a.2 < r.1) {e0 : Int} (h0 : e0 < r.1) (h1 : e0 < a.1) : Ord e0 (absorb (a :: l) r) ∧ ∀ n, Hs (absorb (a :: l) r) n ↔ Hs (a :: l) n ∨ (r.1 ≤ n ∧ n < r.2) := by
  obtain ⟨g1, ⟨g2, g3, g4⟩, g5⟩ := h
  obtain ⟨k2, k3, k4⟩ := hr
  unfold absorb
  by_cases hc : a.1 ≤ r.2
  · rw [if_pos hc]
    have hr' : One (min a.1 r.1, max a.2 r.2) := ⟨(by show 0 ≤ min a.1 r.1; omega), (by show min a.1 r.1 < max a.2 r.2; omega), (by show max a.2 r.2 ≤ tp; omega)⟩
    obtain ⟨q1, q2⟩ := absorb_ok (l := l) (e := a.2) (r := (min a.1 r.1, max a.2 r.2)) g5 hr' (by show min a.1 r.1 ≤ a.2 + 1; omega) (by omega) (e0 := e0) (by show e0 < min a.1 r.1; omega)
    refine ⟨q1, fun n => ?_⟩
    rw [q2 n, hs_cons]
    show _ ∨ (min a.1 r.1 ≤ n ∧ n < max a.2 r.2) ↔ _
    constructor
    · rintro (h | h)
      · exact .inl (.inr h)
      · by_cases h3 : r.1 ≤ n ∧ n < r.2
        · exact .inr h3
        · exact .inl (.inl ⟨by omega, by omega⟩)
    · rintro ((h | h) | h)
      · exact .inr ⟨by omega, by omega⟩
      · exact .inl h
      · exact .inr ⟨by omega, by omega⟩
  · rw [if_neg hc]
    refine ⟨⟨h0, ⟨k2, k3, k4⟩, by omega, ⟨g2, g3, g4⟩, g5⟩, fun n => ?_⟩
    rw [hs_cons]
    exact or_comm
theorem put1_ok : ∀ {l : List Rg} {e : Int} {r : Rg}, Ord e l → One r → e < r.1 → Ord e (put1 l r) ∧ ∀ n, Hs (put1 l r) n ↔ Hs l n ∨ (r.1 ≤ n ∧ n < r.2)
  | [], e, r, h, hr, h0 => ⟨⟨h0, hr, trivial⟩, fun n => by unfold put1; rw [hs_cons]; simp [Hs.nil]⟩
  | a :: t, e, r, h, hr, h0 => by
    unfold put1
    by_cases hlt : a.2 < r.1
    · rw [if_pos hlt]
      obtain ⟨q1, q2⟩ := put1_ok (l := t) h.2.2 hr hlt
      exact ⟨⟨h.1, h.2.1, q1⟩, fun n => by rw [hs_cons, q2 n, hs_cons, or_assoc]⟩
    · rw [if_neg hlt]
      exact absorb_hd h hr hlt h0 h.1
theorem puts_ok : ∀ (s : List Rg) {l : List Rg}, Ord (-1) l → (∀ r ∈ s, One r) → Ord (-1) (s.foldl put1 l) ∧ ∀ n, Hs (s.foldl put1 l) n ↔ Hs l n ∨ Hs s n
  | [], l, h, _ => ⟨h, fun n => by simp [Hs.nil]⟩
  | r :: t, l, h, h1 => by
    have hr := h1 r (by simp)
    obtain ⟨q1, q2⟩ := put1_ok h hr (by have := hr.1; omega)
    obtain ⟨k1, k2⟩ := puts_ok t q1 (fun x hx => h1 x (by simp [hx]))
    exact ⟨k1, fun n => by rw [List.foldl_cons, k2 n, q2 n, hs_cons, or_assoc]⟩

/-! ### a range taken away -/
def cut1 (a r : Rg) : List Rg := (if a.1 < min a.2 r.1 then [(a.1, min a.2 r.1)] else []) ++ (if max a.1 r.2 < a.2 then [(max a.1 r.2, a.2)] else [])
def cuts (l : List Rg) (r : Rg) : List Rg := l.flatMap (cut1 · r)
theorem ord_append : ∀ {a b : List Rg} {e m : Int}, Ord e a → (∀ n, e < n → n ≤ m → True) → (∀ r ∈ a, r.2 ≤ m) → Ord m b → e ≤ m → Ord e (a ++ b)
  | [], b, e, m, _, _, _, hb, hm => hb.mono hm
  | r :: t, b, e, m, h, _, h2, hb, hm => ⟨h.1, h.2.1, ord_append (a := t) h.2.2 (fun _ _ _ => trivial) (fun x hx => h2 x (by simp [hx])) hb (h2 r (by simp))⟩
theorem cuts_ok : ∀ {l : List Rg} {e : Int} {r : Rg}, Ord e l → One r → Ord e (cuts l r) ∧ ∀ n, Hs (cuts l r) n ↔ Hs l n ∧ ¬ (r.1 ≤ n ∧ n < r.2)
  | [], e, r, _, _ => ⟨trivial, fun n => by simp [cuts, Hs.nil]⟩
  | a :: t, e, r, h, hr => by
    obtain ⟨g1, ⟨g2, g3, g4⟩, g5⟩ := h
    obtain ⟨k2, k3, k4⟩ := hr
    obtain ⟨q1, q2⟩ := cuts_ok (l := t) g5 ⟨k2, k3, k4⟩
    have hc : cuts (a :: t) r = cut1 a r ++ cuts t r := rfl
    rw [hc]
    constructor
    · unfold cut1
      by_cases c1 : a.1 < min a.2 r.1
      · rw [if_pos c1]
        by_cases c2 : max a.1 r.2 < a.2
        · rw [if_pos c2]
          exact ⟨g1, ⟨g2, c1, (by show min a.2 r.1 ≤ tp; omega)⟩, (by show min a.2 r.1 < max a.1 r.2; omega), ⟨(by show 0 ≤ max a.1 r.2; omega), c2, g4⟩, q1⟩
        · rw [if_neg c2]
          exact ⟨g1, ⟨g2, c1, (by show min a.2 r.1 ≤ tp; omega)⟩, q1.mono (by show min a.2 r.1 ≤ a.2; omega)⟩
      · rw [if_neg c1]
        by_cases c2 : max a.1 r.2 < a.2
        · rw [if_pos c2]
          exact ⟨(by show e < max a.1 r.2; omega), ⟨(by show 0 ≤ max a.1 r.2; omega), c2, g4⟩, q1⟩
        · rw [if_neg c2]
          exact q1.mono (by omega)
    · intro n
      rw [hs_append, q2 n, hs_cons]
      have hd : Hs (cut1 a r) n ↔ (a.1 ≤ n ∧ n < a.2) ∧ ¬ (r.1 ≤ n ∧ n < r.2) := by
        unfold cut1
        rw [hs_append]
        by_cases c1 : a.1 < min a.2 r.1
        · rw [if_pos c1, hs_cons]
          simp only [Hs.nil, or_false]
          by_cases c2 : max a.1 r.2 < a.2
          · rw [if_pos c2, hs_cons]
            simp only [Hs.nil, or_false]
            omega
          · rw [if_neg c2]
            simp only [Hs.nil, or_false]
            omega
        · rw [if_neg c1]
          simp only [Hs.nil, false_or]
          by_cases c2 : max a.1 r.2 < a.2
          · rw [if_pos c2, hs_cons]
            simp only [Hs.nil, or_false]
            omega
          · rw [if_neg c2]
            simp only [Hs.nil, false_iff]
            omega
      rw [hd]
      constructor
      · rintro (h | h)
        · exact ⟨.inl h.1, h.2⟩
        · exact ⟨.inr h.1, h.2⟩
      · rintro ⟨h | h, h2⟩
        · exact .inl ⟨h, h2⟩
        · exact .inr ⟨h, h2⟩
theorem cutAll_ok : ∀ (s : List Rg) {l : List Rg}, Ord (-1) l → (∀ r ∈ s, One r) → Ord (-1) (s.foldl cuts l) ∧ ∀ n, Hs (s.foldl cuts l) n ↔ Hs l n ∧ ¬ Hs s n
  | [], l, h, _ => ⟨h, fun n => by simp [Hs.nil]⟩
  | r :: t, l, h, h1 => by
    obtain ⟨q1, q2⟩ := cuts_ok h (h1 r (by simp))
    obtain ⟨k1, k2⟩ := cutAll_ok t q1 (fun x hx => h1 x (by simp [hx]))
    exact ⟨k1, fun n => by rw [List.foldl_cons, k2 n, q2 n, hs_cons, not_or, and_assoc]⟩
end Go.Proofs.Ytkiplbhnnjfjaaa
