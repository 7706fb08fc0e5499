/- An argument that is a slice, opened: its elements, read by a word for one element. Nothing of the program is claimed here. -/
import Derived.Test.YtkiplbhnnjfjaaaB
namespace Go.Proofs.Ytkiplbhnnjfjaaa
set_option linter.unusedVariables false
set_option linter.unusedSimpArgs false
open Go.RowKit Go.ChangeShapes Go.WideShapes

theorem flat_len {α : Type} {E : α → List Value} {sz : Nat} (hE : ∀ a, (E a).length = sz) (l : List α) : (l.flatMap E).length = l.length * sz := by
  induction l with
  | nil => simp
  | cons a l ih => rw [List.flatMap_cons, List.length_append, hE, ih, List.length_cons, Nat.succ_mul, Nat.add_comm]
theorem flat_get {α : Type} {E : α → List Value} {sz : Nat} (hE : ∀ a, (E a).length = sz) : ∀ (l : List α) (i j : Nat) (a : α), l[i]? = some a → j < sz → (l.flatMap E)[i * sz + j]? = (E a)[j]?
  | [], _, _, _, h, _ => by simp at h
  | b :: l, 0, j, a, h, hj => by
    simp at h
    subst h
    rw [List.flatMap_cons, Nat.zero_mul, Nat.zero_add, List.getElem?_append_left (by rw [hE]; exact hj)]
  | b :: l, i + 1, j, a, h, hj => by
    rw [List.flatMap_cons, List.getElem?_append_right (by rw [hE, Nat.succ_mul]; omega), hE, Nat.succ_mul, show i * sz + sz + j - sz = i * sz + j by omega]
    exact flat_get hE l i j a (by simpa using h) hj
theorem flat_put {α : Type} {E : α → List Value} {sz : Nat} (hE : ∀ a, (E a).length = sz) (l : List α) (j : Nat) (u : Value) (h : (l.flatMap E)[j]? = some u) : ∃ a, l[j / sz]? = some a ∧ (E a)[j % sz]? = some u ∧ j % sz < sz := by
  have hj := (List.getElem?_eq_some_iff.1 h).1
  rw [flat_len hE] at hj
  have hz : 0 < sz := by
    rcases Nat.eq_zero_or_pos sz with e | e
    · rw [e, Nat.mul_zero] at hj; omega
    · exact e
  have hi : j / sz < l.length := Nat.div_lt_of_lt_mul (by rw [Nat.mul_comm]; exact hj)
  have hm := Nat.mod_lt j hz
  refine ⟨l[j / sz], List.getElem?_eq_getElem hi, ?_, hm⟩
  rw [← flat_get hE l (j / sz) (j % sz) _ (List.getElem?_eq_getElem hi) hm, Nat.mul_comm, Nat.div_add_mod]
  exact h

section
variable {H : Type} {enc : TypeId × Value → H} {P : Program} {W : World}
/-- Each of a reading's weights is within reach. -/
def Light (P : Program) (t : TypeId) (d : DataW H) : Prop := ∀ n ∈ d.weights P t, n ≤ reachBytes
theorem Light.all {e : TypeId} : ∀ {ds : List (DataW H)}, (∀ n ∈ DataW.weightsAll P e ds, n ≤ reachBytes) → ∀ d ∈ ds, Light P e d
  | [], _, _, h => by cases h
  | d :: ds, hs, d', h => by
    rw [DataW.weightsAll] at hs
    rcases List.mem_cons.1 h with rfl | h
    · exact fun n hn => hs n (List.mem_append_left _ hn)
    · exact Light.all (fun n hn => hs n (List.mem_append_right _ hn)) d' h
theorem Light.at_ {ts : List TypeId} {ds : List (DataW H)} (h : (DataW.weightsEach P ts ds).all (· ≤ reachBytes) = true) {j : Nat} {t : TypeId} {d : DataW H} (ht : ts[j]? = some t) (hd : ds[j]? = some d) : Light P t d :=
  fun n hn => by simpa using List.all_eq_true.1 h n (DataW.weights_mem_each ht hd n hn)
theorem open_rows {α : Type} {E : α → List Value} {wf : α → Prop} {t0 e : TypeId} {sz B : Nat} {a : Option Addr} {len cap : Nat} {d : DataW H} {ps : List MemPlace}
    (hu : P.underlying t0 = some (.slice e)) (hc : P.cellsOf e = sz) (hB : P.bytesOf e = B) (hE : ∀ a, (E a).length = sz) (h1 : ∀ a, wf a → ∀ u ∈ E a, u.oneCell' = true)
    (one : ∀ n cs y, DataW.trod enc P W 0 (fun _ => true) true n e cs = some y → Light P e y.1 → ∃ a, cs = E a ∧ wf a)
    (hs : Light P t0 d) (h : DataW.Trod enc P W 0 (fun _ => true) true t0 (.slice a len cap) d ps) :
    ∃ l : List α, l.length = len ∧ Rd W sz a len cap (l.flatMap E) ∧ (∀ x ∈ l, wf x) ∧ cap * B ≤ 140737488351232 := by
  obtain ⟨fuel, hf⟩ := h
  rcases DataW.trod_slice hu hf with ⟨hcs, _⟩ | ⟨ad, len', cap', elems, rest, n, _, hcs, hx, hb, hl, hm, hlen, hel, hsp, hns⟩
  · simp [Value.cells] at hcs
    obtain ⟨rfl, rfl, rfl⟩ := hcs
    exact ⟨[], rfl, Rd.nil W sz, (fun _ h => by cases h), by omega⟩
  · simp [Value.cells] at hcs
    obtain ⟨rfl, rfl, rfl⟩ := hcs
    obtain ⟨hd, _⟩ := Prod.mk.inj hx
    subst hd
    have hw : (elems.length + rest.length) * B ≤ reachBytes := by
      have := hs ((elems.length + rest.length) * P.bytesOf e) (by simp [DataW.weights, hu])
      rwa [hB] at this
    have hlt : ∀ y ∈ elems, Light P e y.1 := fun y hy => Light.all (ds := elems.map (·.1)) (fun n hn => hs n (by simp [DataW.weights, hu, hn])) _ (List.mem_map.2 ⟨y, hy, rfl⟩)
    have hrl : rest.length = cap - len := (hsp rfl).1
    have ex : ∀ i (h : i < elems.length), ∃ a : α, W.cells? 0 (ad.add (i * sz)) sz = some (E a) ∧ wf a := by
      intro i hi
      have := hel i (by omega)
      rw [hc, List.getElem?_eq_getElem hi] at this
      obtain ⟨cs', hcs, hy'⟩ := Option.bind_eq_some_iff.1 this
      obtain ⟨a, rfl, hwf⟩ := one _ _ _ hy' (hlt _ (List.getElem_mem hi))
      exact ⟨a, hcs, hwf⟩
    have mk : ∀ k, k ≤ elems.length → ∃ l : List α, l.length = k ∧ (∀ x ∈ l, wf x) ∧ ∀ i a, l[i]? = some a → W.cells? 0 (ad.add (i * sz)) sz = some (E a) := by
      intro k
      induction k with
      | zero => exact fun _ => ⟨[], rfl, (fun _ h => by cases h), (fun _ _ h => by cases h)⟩
      | succ k ih =>
        intro hk
        obtain ⟨l, h1, h2, h3⟩ := ih (by omega)
        obtain ⟨a, ha, hwa⟩ := ex k (by omega)
        refine ⟨l ++ [a], by simp [h1], fun x hx => ?_, fun i b hi => ?_⟩
        · rcases List.mem_append.1 hx with hx | hx
          · exact h2 x hx
          · cases List.mem_singleton.1 hx; exact hwa
        · rw [List.getElem?_append] at hi
          split at hi
          · exact h3 i b hi
          · rename_i hge
            have hi' := (List.getElem?_eq_some_iff.1 hi).1
            simp at hi'
            obtain rfl : i = k := by omega
            rw [h1, Nat.sub_self] at hi
            cases hi
            exact ha
    obtain ⟨l, l1, l2, l3⟩ := mk elems.length (Nat.le_refl _)
    refine ⟨l, by omega, ⟨by rw [flat_len hE, l1, hlen], hl, by simp only [maxLen] at hm; omega, (fun h => by cases h), ?_, ?_⟩, l2, ?_⟩
    · intro u hu
      obtain ⟨a, ha, hu'⟩ := List.mem_flatMap.1 hu
      exact h1 a (l2 a ha) u hu'
    · intro ad' e' j u hu'
      cases e'
      obtain ⟨a, ha, hj, hjs⟩ := flat_put hE l j u hu'
      have := (World.cells?_some (l3 _ _ ha)).2.2 (j % sz) hjs
      rw [add_add, Nat.mul_comm, Nat.div_add_mod] at this
      rw [this, hj]
    · have e1 : elems.length + rest.length = cap := by omega
      rw [e1] at hw
      exact hw
end
end Go.Proofs.Ytkiplbhnnjfjaaa
