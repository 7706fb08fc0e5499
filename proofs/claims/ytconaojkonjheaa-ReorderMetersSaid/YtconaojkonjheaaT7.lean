/- Plain: what is told of numbers that came, and what a meter keeps of them. -/
import Derived.Test.YtconaojkonjheaaT6
namespace Go.Proofs.Ytconaojkonjheaa
open Go.RowKit

/-- Each once, as they first came. -/
def seenOf (l : List Int) : List Int := l.foldl (fun s x => if x ∈ s then s else s ++ [x]) []
theorem seenOf_snoc (l : List Int) (x : Int) : seenOf (l ++ [x]) = if x ∈ seenOf l then seenOf l else seenOf l ++ [x] := by
  unfold seenOf
  rw [List.foldl_append]
  rfl
theorem mem_seenOf (l : List Int) : ∀ x, x ∈ seenOf l ↔ x ∈ l := by
  induction l using snoc_ind with
  | h0 => simp [seenOf]
  | h1 l y ih =>
    intro x
    rw [seenOf_snoc]
    split
    · rename_i h
      rw [ih x, List.mem_append, List.mem_singleton]
      constructor
      · exact .inl
      · rintro (h' | rfl)
        · exact h'
        · exact (ih _).1 h
    · rw [List.mem_append, List.mem_append, ih x]
theorem nodup_seenOf (l : List Int) : (seenOf l).Nodup := by
  induction l using snoc_ind with
  | h0 => simp [seenOf]
  | h1 l y ih =>
    rw [seenOf_snoc]
    split
    · exact ih
    · rename_i h
      exact List.nodup_append.2 ⟨ih, by simp, fun a ha b hb e => by cases List.mem_singleton.1 hb; exact h (e ▸ ha)⟩
theorem seenOf_len (l : List Int) : (seenOf l).length ≤ l.length := by
  induction l using snoc_ind with
  | h0 => simp [seenOf]
  | h1 l y ih =>
    rw [seenOf_snoc]
    split <;> simp <;> omega

/-- The least number that is not there. -/
def IsMex (l : List Int) (m : Nat) : Prop := (m : Int) ∉ l ∧ ∀ k : Nat, k < m → (k : Int) ∈ l
theorem exists_mex (l : List Int) : ∃ m, IsMex l m := by
  have hB : ∃ B : Nat, ∀ x ∈ l, x < (B : Int) := by
    induction l with
    | nil => exact ⟨0, by simp⟩
    | cons y r ih =>
      obtain ⟨B, hB⟩ := ih
      refine ⟨B + y.natAbs + 1, fun x hx => ?_⟩
      rcases List.mem_cons.1 hx with rfl | hx
      · omega
      · have := hB x hx; omega
  obtain ⟨B, hB⟩ := hB
  obtain ⟨m, h1, h2⟩ := exists_least (p := fun m : Nat => (m : Int) ∉ l) ⟨B, fun h => by have := hB _ h; omega⟩
  exact ⟨m, h1, fun k hk => Decidable.byContradiction fun h => by have := h2 k h; omega⟩
theorem IsMex.uniq {l : List Int} {m k : Nat} (h : IsMex l m) (h' : IsMex l k) : m = k := by
  rcases Nat.lt_trichotomy m k with h1 | h1 | h1
  · exact absurd (h'.2 m h1) h.1
  · exact h1
  · exact absurd (h.2 k h1) h'.1
noncomputable def mexOf (l : List Int) : Nat := Classical.choose (exists_mex l)
theorem mexOf_spec (l : List Int) : IsMex l (mexOf l) := Classical.choose_spec (exists_mex l)
theorem mexOf_congr {l k : List Int} (h : ∀ x, x ∈ l ↔ x ∈ k) : mexOf l = mexOf k :=
  (mexOf_spec l).uniq ⟨fun hx => (mexOf_spec k).1 ((h _).1 hx |> fun h => h), fun i hi => (h _).2 ((mexOf_spec k).2 i hi)⟩
theorem mexOf_snoc_le (l : List Int) (x : Int) : mexOf l ≤ mexOf (l ++ [x]) := by
  rcases Nat.lt_or_ge (mexOf (l ++ [x])) (mexOf l) with h | h
  · exact absurd (List.mem_append_left _ ((mexOf_spec l).2 _ h)) (mexOf_spec (l ++ [x])).1
  · exact h

theorem filter_two {α : Type} (p : α → Bool) (l : List α) : (l.filter p).length + (l.filter (fun x => !p x)).length = l.length := by
  induction l with
  | nil => rfl
  | cons y r ih => cases h : p y <;> simp [h] <;> omega
theorem filter_below (s : List Int) (hn : s.Nodup) (h0 : ∀ x ∈ s, 0 ≤ x) (m : Nat) (hm : ∀ k : Nat, k < m → (k : Int) ∈ s) : (s.filter (fun x => decide (x < (m : Int)))).length = m := by
  have hp : (s.filter (fun x => decide (x < (m : Int)))).Perm ((List.range m).map Int.ofNat) := by
    refine (List.perm_ext_iff_of_nodup (hn.filter _) ?_).2 (fun a => ?_)
    · exact List.pairwise_map.2 (List.nodup_range.imp (fun h e => h (Int.ofNat.inj e)))
    · rw [List.mem_filter, List.mem_map]
      constructor
      · rintro ⟨h1, h2⟩
        have h3 := h0 a h1
        have h2 := of_decide_eq_true h2
        exact ⟨a.toNat, List.mem_range.2 (by omega), by show ((a.toNat : Nat) : Int) = a; omega⟩
      · rintro ⟨k, hk, rfl⟩
        have := List.mem_range.1 hk
        exact ⟨hm k this, decide_eq_true (by show (k : Int) < m; omega)⟩
  have := hp.length_eq
  simpa using this

/-- How many of them are above the least number that is not there. -/
noncomputable def heldF (l : List Int) : Int := ((seenOf l).filter (fun x => decide ((mexOf l : Int) < x))).length
theorem heldF_eq (l : List Int) (h0 : ∀ x ∈ l, 0 ≤ x) : heldF l = ((seenOf l).length : Int) - mexOf l ∧ mexOf l ≤ (seenOf l).length := by
  have hm := mexOf_spec l
  have h1 := filter_below (seenOf l) (nodup_seenOf l) (fun x hx => h0 x ((mem_seenOf l x).1 hx)) (mexOf l) (fun k hk => (mem_seenOf l _).2 (hm.2 k hk))
  have h2 := filter_two (fun x => decide (x < (mexOf l : Int))) (seenOf l)
  have h3 : (seenOf l).filter (fun x => !decide (x < (mexOf l : Int))) = (seenOf l).filter (fun x => decide ((mexOf l : Int) < x)) := by
    refine List.filter_congr (fun x hx => ?_)
    have hne : x ≠ mexOf l := fun e => hm.1 (e ▸ (mem_seenOf l x).1 hx)
    by_cases h : x < (mexOf l : Int)
    · rw [decide_eq_true h, decide_eq_false (by omega)]; rfl
    · rw [decide_eq_false h, decide_eq_true (by omega)]; rfl
  rw [h3, h1] at h2
  unfold heldF
  omega
theorem heldF_nonneg (l : List Int) : 0 ≤ heldF l := by unfold heldF; omega
theorem heldF_dup (l : List Int) (x : Int) (h : x ∈ l) : heldF (l ++ [x]) = heldF l := by
  have h1 : seenOf (l ++ [x]) = seenOf l := by rw [seenOf_snoc, if_pos ((mem_seenOf l x).2 h)]
  have h2 : mexOf (l ++ [x]) = mexOf l := mexOf_congr (fun y => by rw [List.mem_append, List.mem_singleton]; exact ⟨fun h' => h'.elim id (fun e => e ▸ h), .inl⟩)
  unfold heldF
  rw [h1, h2]

/-- The first place of a number that is above x. -/
def fabove : List Int → Int → Nat
  | [], _ => 0
  | y :: r, x => if x < y then 0 else fabove r x + 1
theorem fabove_le : ∀ (l : List Int) (x : Int), fabove l x ≤ l.length
  | [], _ => Nat.le_refl _
  | y :: r, x => by
    unfold fabove
    split
    · omega
    · have := fabove_le r x; simp; omega
theorem fabove_below : ∀ (l : List Int) (x : Int) (j : Nat) (y : Int), j < fabove l x → l[j]? = some y → y ≤ x
  | [], _, _, _, h, _ => absurd h (Nat.not_lt_zero _)
  | z :: r, x, j, y, h, hy => by
    unfold fabove at h
    split at h
    · omega
    · cases j with
      | zero => simp at hy; omega
      | succ j => exact fabove_below r x j y (by omega) (by simpa using hy)
theorem fabove_at : ∀ (l : List Int) (x : Int), fabove l x < l.length → ∃ y, l[fabove l x]? = some y ∧ x < y
  | [], _, h => absurd h (Nat.not_lt_zero _)
  | z :: r, x, h => by
    unfold fabove at h ⊢
    split
    · rename_i hz; exact ⟨z, rfl, hz⟩
    · rename_i hz
      rw [if_neg hz] at h
      obtain ⟨y, h1, h2⟩ := fabove_at r x (by simpa using h)
      exact ⟨y, by simpa using h1, h2⟩
def extF (l : List Int) (x : Int) : Int := if x ∈ l then 0 else if fabove l x < l.length then (l.length : Int) - fabove l x else 0
def lmax (l : List Int) (x : Int) : Int := l.foldl (fun m y => mx m (y - x)) 0
def lateF (l : List Int) (x : Int) : Int := if x ∈ l then 0 else lmax l x
theorem foldl_mx (l : List Int) (x : Int) : ∀ m : Int, (∀ y ∈ l, y - x ≤ l.foldl (fun m y => mx m (y - x)) m) ∧ m ≤ l.foldl (fun m y => mx m (y - x)) m ∧ (l.foldl (fun m y => mx m (y - x)) m = m ∨ ∃ y ∈ l, l.foldl (fun m y => mx m (y - x)) m = y - x) := by
  induction l with
  | nil => intro m; simp
  | cons z r ih =>
    intro m
    obtain ⟨h1, h2, h3⟩ := ih (mx m (z - x))
    have hm : m ≤ mx m (z - x) ∧ z - x ≤ mx m (z - x) := by unfold mx; split <;> omega
    refine ⟨fun y hy => ?_, ?_, ?_⟩
    · rcases List.mem_cons.1 hy with rfl | hy
      · exact Int.le_trans hm.2 h2
      · exact h1 y hy
    · exact Int.le_trans hm.1 h2
    · simp only [List.foldl_cons]
      rcases h3 with h3 | ⟨y, hy, h3⟩
      · rw [h3]
        unfold mx
        split
        · exact .inr ⟨z, by simp, rfl⟩
        · exact .inl rfl
      · exact .inr ⟨y, by simp [hy], h3⟩
theorem lmax_above {l : List Int} {x z : Int} (hz : z ∈ l) (hall : ∀ y ∈ l, y ≤ z) (hx : x < z) : lmax l x = z - x := by
  obtain ⟨h1, h2, h3⟩ := foldl_mx l x 0
  have h4 := h1 z hz
  unfold lmax
  rcases h3 with h3 | ⟨y, hy, h3⟩
  · omega
  · have := hall y hy; omega
theorem lmax_zero {l : List Int} {x : Int} (hall : ∀ y ∈ l, y ≤ x) : lmax l x = 0 := by
  obtain ⟨h1, h2, h3⟩ := foldl_mx l x 0
  unfold lmax
  rcases h3 with h3 | ⟨y, hy, h3⟩
  · exact h3
  · have := hall y hy; omega

/-- What a meter keeps of the highs. -/
structure HS (l : List Int) (hs : List (Int × Int)) : Prop where
  ris : Ris hs
  at_ : ∀ v ∈ hs, ∃ a : Nat, v.2 = a ∧ l[a]? = some v.1 ∧ ∀ (j : Nat) (y : Int), j < a → l[j]? = some y → y < v.1
  all : ∀ (j : Nat) (y : Int), l[j]? = some y → ∃ v ∈ hs, v.2 ≤ j ∧ y ≤ v.1
theorem HS.nil : HS [] [] := ⟨fun i j x y _ h => by simp at h, by simp, fun j y h => by simp at h⟩
theorem HS.mem {l : List Int} {hs : List (Int × Int)} (h : HS l hs) {v : Int × Int} (hv : v ∈ hs) : v.1 ∈ l ∧ 0 ≤ v.2 ∧ v.2 < l.length := by
  obtain ⟨a, h1, h2, _⟩ := h.at_ v hv
  have := (List.getElem?_eq_some_iff.1 h2).1
  exact ⟨List.mem_of_getElem? h2, by omega, by omega⟩
theorem HS.some {l : List Int} {hs : List (Int × Int)} (h : HS l hs) {x : Int} {k : Nat} (hk : Fst hs x k) (hkl : k < hs.length) {y : Int × Int} (hy : hs[k]? = Option.some y) : y.2 = fabove l x ∧ fabove l x < l.length := by
  have hmem := List.mem_of_getElem? hy
  have hxy := hk.2.2 k y (Nat.le_refl _) hy
  obtain ⟨a, ha, hla, hbelow⟩ := h.at_ y hmem
  have hal := (List.getElem?_eq_some_iff.1 hla).1
  have hj0 : fabove l x ≤ a := by
    rcases Nat.lt_or_ge a (fabove l x) with h1 | h1
    · have := fabove_below l x a y.1 h1 hla; omega
    · exact h1
  have hlt : fabove l x < l.length := by omega
  obtain ⟨z, hz, hxz⟩ := fabove_at l x hlt
  refine ⟨?_, hlt⟩
  rcases Nat.lt_or_ge (fabove l x) a with h1 | h1
  · -- a high at or ahead of the first place
    have hyz := hbelow _ z h1 hz
    obtain ⟨v, hv, hv2, hzv⟩ := h.all _ z hz
    obtain ⟨c, hc, hlc, hcb⟩ := h.at_ v hv
    obtain ⟨i, hi, hiv⟩ := List.getElem_of_mem hv
    have hiv' : hs[i]? = Option.some v := by rw [List.getElem?_eq_getElem hi, hiv]
    -- v is above x, so its place is not below k
    have hki : k ≤ i := by
      rcases Nat.lt_or_ge i k with h2 | h2
      · have := hk.2.1 i v h2 hiv'; omega
      · exact h2
    have hyv : y.1 ≤ v.1 := by
      rcases Nat.lt_or_ge k i with h2 | h2
      · have := h.ris k i y v h2 hy hiv'; omega
      · obtain rfl : k = i := by omega
        rw [hy] at hiv'
        cases hiv'
        exact Int.le_refl _
    -- but v stands ahead of a
    have hca : c < a := by omega
    have := hbelow c v.1 hca hlc
    omega
  · omega
theorem HS.last {l : List Int} {hs : List (Int × Int)} (h : HS l hs) {z : Int × Int} (hz : hs[hs.length - 1]? = Option.some z) : z.1 ∈ l ∧ ∀ y ∈ l, y ≤ z.1 := by
  have hzm := List.mem_of_getElem? hz
  refine ⟨(h.mem hzm).1, fun y hy => ?_⟩
  obtain ⟨j, hj, hjy⟩ := List.getElem_of_mem hy
  obtain ⟨v, hv, _, hyv⟩ := h.all j y (by rw [List.getElem?_eq_getElem hj, hjy])
  obtain ⟨i, hi, hiv⟩ := List.getElem_of_mem hv
  have hiv' : hs[i]? = Option.some v := by rw [List.getElem?_eq_getElem hi, hiv]
  rcases Nat.lt_or_ge i (hs.length - 1) with h2 | h2
  · have := h.ris i _ v z h2 hiv' hz; omega
  · obtain rfl : i = hs.length - 1 := by omega
    rw [hz] at hiv'
    cases hiv'
    exact hyv
theorem HS.none {l : List Int} {hs : List (Int × Int)} (h : HS l hs) {x : Int} {k : Nat} (hk : Fst hs x k) (hkl : hs.length ≤ k) : ∀ y ∈ l, y ≤ x := by
  intro y hy
  obtain ⟨j, hj, hjy⟩ := List.getElem_of_mem hy
  obtain ⟨v, hv, _, hyv⟩ := h.all j y (by rw [List.getElem?_eq_getElem hj, hjy])
  obtain ⟨i, hi, hiv⟩ := List.getElem_of_mem hv
  have := hk.2.1 i v (by omega) (by rw [List.getElem?_eq_getElem hi, hiv])
  omega
theorem HS.snoc_old {l : List Int} {hs : List (Int × Int)} (h : HS l hs) {x : Int} (hx : ∃ v ∈ hs, x ≤ v.1) : HS (l ++ [x]) hs := by
  refine ⟨h.ris, fun v hv => ?_, fun j y hy => ?_⟩
  · obtain ⟨a, h1, h2, h3⟩ := h.at_ v hv
    have ha := (List.getElem?_eq_some_iff.1 h2).1
    exact ⟨a, h1, by rw [List.getElem?_append_left ha]; exact h2, fun j y hj hy => h3 j y hj (by rwa [List.getElem?_append_left (by omega)] at hy)⟩
  · have hj := (List.getElem?_eq_some_iff.1 hy).1
    simp at hj
    rcases Nat.lt_or_ge j l.length with h1 | h1
    · exact h.all j y (by rwa [List.getElem?_append_left h1] at hy)
    · obtain rfl : j = l.length := by omega
      rw [List.getElem?_append_right (Nat.le_refl _), Nat.sub_self] at hy
      cases hy
      obtain ⟨v, hv, hxv⟩ := hx
      exact ⟨v, hv, by have := (h.mem hv).2.2; omega, hxv⟩
theorem HS.snoc_new {l : List Int} {hs : List (Int × Int)} (h : HS l hs) {x : Int} (hx : ∀ y ∈ l, y < x) : HS (l ++ [x]) (hs ++ [(x, (l.length : Int))]) := by
  refine ⟨h.ris.snoc (fun v hv => hx _ (h.mem hv).1), fun v hv => ?_, fun j y hy => ?_⟩
  · rcases List.mem_append.1 hv with hv | hv
    · obtain ⟨a, h1, h2, h3⟩ := h.at_ v hv
      have ha := (List.getElem?_eq_some_iff.1 h2).1
      exact ⟨a, h1, by rw [List.getElem?_append_left ha]; exact h2, fun j y hj hy => h3 j y hj (by rwa [List.getElem?_append_left (by omega)] at hy)⟩
    · cases List.mem_singleton.1 hv
      exact ⟨l.length, rfl, by simp, fun j y hj hy => hx y (List.mem_of_getElem? (by rwa [List.getElem?_append_left hj] at hy))⟩
  · have hj := (List.getElem?_eq_some_iff.1 hy).1
    simp at hj
    rcases Nat.lt_or_ge j l.length with h1 | h1
    · obtain ⟨v, hv, h2, h3⟩ := h.all j y (by rwa [List.getElem?_append_left h1] at hy)
      exact ⟨v, by simp [hv], h2, h3⟩
    · obtain rfl : j = l.length := by omega
      rw [List.getElem?_append_right (Nat.le_refl _), Nat.sub_self] at hy
      cases hy
      exact ⟨(x, (l.length : Int)), by simp, by simp, Int.le_refl _⟩
end Go.Proofs.Ytconaojkonjheaa
