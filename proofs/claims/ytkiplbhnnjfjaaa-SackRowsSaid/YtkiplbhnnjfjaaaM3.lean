/- As M.lean; but one operation, that waits for all that is taken first, may turn what they read; and behind it all goes on from a new world. Nothing of the program is claimed here. -/
import Derived.Test.YtkiplbhnnjfjaaaM2
namespace Go.Proofs.Ytkiplbhnnjfjaaa
set_option linter.unusedVariables false
set_option linter.unusedSimpArgs false
open Go.RowKit

section
variable {P : Program} {ops : Array Oper} {md : Region.Mode} {Q : Exit → Act → World → Prop} {S : World → Prop} {L : Nat}

/-- Whichever comes up; S holds behind each but L. -/
def anyU (P : Program) (md : Region.Mode) (ops : Array Oper) (Q : Exit → Act → World → Prop) (S : World → Prop) (L : Nat) : Nat → Array Bool → Act → World → Prop
  | 0, listed, a, w => Region.ready md ops listed = [] ∧ Q .normal a w
  | fuel + 1, listed, a, w => (Region.ready md ops listed = [] → Q .normal a w) ∧
    ∀ i ∈ Region.ready md ops listed, wpOp P ops Q i (fun a' w' => ((listed.setIfInBounds i true).getD L false = true ∨ S w') ∧ anyU P md ops Q S L fuel (listed.setIfInBounds i true) a' w') a w

theorem anyU_any : ∀ (fuel : Nat) (listed : Array Bool) (a : Act) (w : World), anyU P md ops Q S L fuel listed a w → wpAny P md ops Q fuel listed a w
  | 0, _, _, _, h => h
  | fuel + 1, _, _, _, h => ⟨h.1, fun i hi => wpOp_mono (fun a' w' k => anyU_any fuel _ a' w' k.2) (h.2 i hi)⟩

/-- L waits for i, or for what waits for i. -/
inductive Anc (md : Region.Mode) (ops : Array Oper) : Nat → Nat → Prop
  | one {L i : Nat} : waits md ops L i = true → Anc md ops L i
  | step {L k i : Nat} : waits md ops L k = true → Anc md ops k i → Anc md ops L i
def ancB (md : Region.Mode) (ops : Array Oper) : Nat → Nat → Nat → Bool
  | 0, _, _ => false
  | fuel + 1, L, i => waits md ops L i || (List.range ops.size).any (fun k => waits md ops L k && ancB md ops fuel k i)
theorem ancB_spec : ∀ (fuel : Nat) {L i : Nat}, ancB md ops fuel L i = true → Anc md ops L i
  | fuel + 1, L, i, h => by
    unfold ancB at h
    rw [Bool.or_eq_true] at h
    rcases h with h | h
    · exact .one h
    · obtain ⟨k, _, hk⟩ := List.any_eq_true.1 h
      rw [Bool.and_eq_true] at hk
      exact .step hk.1 (ancB_spec fuel hk.2)
/-- What is listed has all listed that it waits for. -/
def Closed (md : Region.Mode) (ops : Array Oper) (listed : Array Bool) : Prop := ∀ j o, ops[j]? = some o → listed.getD j false = true → ∀ e ∈ o.after, Region.binds md e = true → listed.getD e.on false = true
def closedB (md : Region.Mode) (ops : Array Oper) (listed : Array Bool) : Bool := (List.range ops.size).all fun j => !(listed.getD j false) || match ops[j]? with | some o => o.after.all (fun e => !(Region.binds md e) || listed.getD e.on false) | none => true
theorem closedB_spec {listed : Array Bool} (h : closedB md ops listed = true) : Closed md ops listed := by
  intro j o ho hl e he hb
  have h1 := List.all_eq_true.1 h j (List.mem_range.2 (Array.getElem?_eq_some_iff.1 ho).1)
  rw [ho, hl] at h1
  have h2 : o.after.all (fun e => !(Region.binds md e) || listed.getD e.on false) = true := by simpa only [Bool.not_true, Bool.false_or] using h1
  have h3 := Array.all_eq_true'.1 h2 e he
  simpa only [hb, Bool.not_true, Bool.false_or] using h3
theorem Closed.set {listed : Array Bool} (h : Closed md ops listed) {j : Nat} (hj : j ∈ Region.ready md ops listed) : Closed md ops (listed.setIfInBounds j true) := by
  intro k o hk hl e he hb
  refine getD_set_true ?_
  by_cases e1 : j = k
  · subst e1
    obtain ⟨_, o', ho', hall⟩ := mem_ready.1 hj
    rw [hk] at ho'
    cases ho'
    exact hall e he hb
  · rw [getD_set_ne false e1] at hl
    exact h k o hk hl e he hb
theorem anc_unlisted {listed : Array Bool} (hc : Closed md ops listed) {L i : Nat} (ha : Anc md ops L i) (hi : listed.getD i false = false) : listed.getD L false = false ∧ L ∉ Region.ready md ops listed := by
  have base : ∀ {L k : Nat}, waits md ops L k = true → listed.getD k false = false → listed.getD L false = false ∧ L ∉ Region.ready md ops listed := by
    intro L k hw hk
    unfold waits at hw
    cases ho : ops[L]? with
    | none => rw [ho] at hw; cases hw
    | some o =>
      rw [ho] at hw
      obtain ⟨e, he, hb⟩ := Array.any_eq_true'.1 hw
      rw [Bool.and_eq_true, beq_iff_eq] at hb
      constructor
      · cases hl : listed.getD L false with
        | false => rfl
        | true =>
          have := hc L o ho hl e he hb.1
          rw [hb.2, hk] at this
          cases this
      · intro hr
        obtain ⟨_, o', ho', hall⟩ := mem_ready.1 hr
        rw [ho] at ho'
        cases ho'
        have := hall e he hb.1
        rw [hb.2, hk] at this
        cases this
  induction ha with
  | one hw => exact base hw hi
  | step hw _ ih => exact base hw (ih hi).1
theorem ready_unlisted {listed : Array Bool} {i : Nat} (hi : i ∈ Region.ready md ops listed) : listed.getD i false = false := by
  have h0 := (mem_ready.1 hi).1
  rcases Nat.lt_or_ge i listed.size with h' | h'
  · simp [h'] at h0 ⊢; exact h0
  · simp [h'] at h0

/-- What only reads, and for which L waits, may be taken first. -/
theorem anyU_first {i : Nat} {oi : Oper} {v : Value} (hi : ops[i]? = some oi) (hsel : ∀ (j : Nat) (o : Oper) cs b, ops[j]? = some o → o.op ≠ .select cs b) (hQ : ∀ c a w, Q (.panic c) (a.put oi.dst v) w → Q (.panic c) a w) (hw : Anc md ops L i) (fuel : Nat) :
    ∀ (listed : Array Bool) (a : Act) (w : World), Closed md ops listed → (∀ j oj, ops[j]? = some oj → j ≠ i → listed.getD j true = false → (∀ e ∈ oj.after, Region.binds md e = true → e.on ≠ i) → oi.apart ops oj = true) →
      i ∈ Region.ready md ops listed → YieldsIf P ops S oi v a → S w → anyU P md ops Q S L fuel (listed.setIfInBounds i true) (a.put oi.dst v) w → anyU P md ops Q S L (fuel + 1) listed a w := by
  induction fuel with
  | zero =>
    intro listed a w hcl _ hr hy hS H
    refine ⟨(fun h => by rw [h] at hr; cases hr), fun j hj => ?_⟩
    by_cases hji : j = i
    · subst hji
      exact hy.wpOp hi hS ⟨.inr hS, H⟩
    · have hm := ready_mono hj hji
      rw [H.1] at hm
      cases hm
  | succ fuel ih =>
    intro listed a w hcl hfree hr hy hS H
    have hlL := (anc_unlisted hcl hw (ready_unlisted hr)).1
    have hnr := (anc_unlisted hcl hw (ready_unlisted hr)).2
    refine ⟨(fun h => by rw [h] at hr; cases hr), fun j hj => ?_⟩
    by_cases hji : j = i
    · subst hji
      exact hy.wpOp hi hS ⟨.inr hS, H⟩
    · have hjL : j ≠ L := fun e => hnr (e ▸ hj)
      obtain ⟨hjun, oj, hoj, hall⟩ := mem_ready.1 hj
      have hno : ∀ e ∈ oj.after, Region.binds md e = true → e.on ≠ i := by
        intro e he hb heq
        have h1 := hall e he hb
        have h0 := (mem_ready.1 hr).1
        rw [heq] at h1
        rcases Nat.lt_or_ge i listed.size with h' | h'
        · simp [h'] at h0 h1; rw [h0] at h1; cases h1
        · simp [Array.getElem?_eq_none h'] at h1
      have hput := wpOp_putIf hoj (hfree j oj hoj hji hjun hno) (fun cs b => hsel i oi cs b hi) (fun cs b => hsel j oj cs b hoj) hQ hy (H.2 j (ready_mono hj hji))
      refine wpOp_mono (fun a' w' ⟨hy', hLS, hrest⟩ => ?_) hput
      have hiL : i ≠ L := fun e => hnr (by rw [← e]; exact hr)
      have hlL' : (listed.setIfInBounds j true).getD L false = false := by rw [getD_set_ne false hjL]; exact hlL
      have hS' : S w' := hLS.resolve_left (by rw [getD_set_ne false hjL, getD_set_ne false hiL, hlL]; exact fun h => by cases h)
      refine ⟨.inr hS', ih _ a' w' (hcl.set hj) (fun k ok hk hki hun hnk => hfree k ok hk hki ?_ hnk) (ready_mono hr (Ne.symm hji)) hy' hS' ?_⟩
      · by_cases hjk : j = k
        · subst hjk; exact hjun
        · rw [getD_set_ne true hjk] at hun; exact hun
      · rw [Array.setIfInBounds_comm _ _ hji]
        exact hrest

theorem anyU_take {i : Nat} {oi : Oper} {v : Value} {fuel : Nat} {listed : Array Bool} {a : Act} {w : World} (hi : ops[i]? = some oi) (hs : Region.noSelect ops = true) (hf : Region.free md ops listed i = true) (hr : (Region.ready md ops listed).contains i = true) (hw : Anc md ops L i) (hcl : Closed md ops listed)
    (hQ : ∀ c a w, Q (.panic c) (a.put oi.dst v) w → Q (.panic c) a w) (hy : YieldsIf P ops S oi v a) (hS : S w) (h : anyU P md ops Q S L fuel (listed.setIfInBounds i true) (a.put oi.dst v) w) : anyU P md ops Q S L (fuel + 1) listed a w :=
  anyU_first hi (Region.noSelect_spec hs) hQ hw fuel listed a w hcl (Region.free_spec hi hf) (by simpa using hr) hy hS h

/-- Each of these may come up and be taken first; L waits for each. -/
def batchU (md : Region.Mode) (ops : Array Oper) (L : Nat) : List Nat → Array Bool → Bool
  | [], _ => true
  | i :: r, listed => decide (i < ops.size) && (Region.ready md ops listed).contains i && Region.free md ops listed i && plainOp (ops.toList.getD i default).op && (ancB md ops ops.size L i && closedB md ops listed) && batchU md ops L r (listed.setIfInBounds i true)
theorem mixU_batch (idx : List Nat) (hs : Region.noSelect ops = true) :
    ∀ (fuel : Nat) (listed : Array Bool) (a : Act) (w : World), batchU md ops L idx listed = true → S w →
      wpQuiet P ops S (fun a' => anyU P md ops (NoPanic Q) S L fuel (listedOf idx listed) a' w) (pickOps ops idx) a → anyU P md ops (NoPanic Q) S L (fuel + idx.length) listed a w := by
  induction idx with
  | nil => intro fuel listed a w _ _ h; exact h
  | cons i r ih =>
    intro fuel listed a w hb hS h
    simp only [batchU, Bool.and_eq_true, decide_eq_true_eq] at hb
    obtain ⟨⟨⟨⟨⟨hi, hr⟩, hf⟩, hp⟩, hw, hcl⟩, hb'⟩ := hb
    have ho : ops[i]? = some (ops.toList.getD i default) := by rw [← Array.getElem?_toList, List.getD_eq_getElem?_getD, List.getElem?_eq_getElem (by simpa using hi)]; rfl
    obtain ⟨v, hy, hK⟩ := quiet_yields hp h
    rw [List.length_cons, ← Nat.add_assoc]
    exact anyU_take ho hs hf hr (ancB_spec _ hw) (closedB_spec hcl) (fun _ _ _ h => h) hy hS (ih fuel _ _ w hb' hS hK)
/-- Whatever world. -/
structure AnyW (w0 : World) where
  W : World
instance (w0 : World) : Nonempty (AnyW w0) := ⟨⟨w0⟩⟩
theorem anyW {w0 : World} (w : World) : ∃ x : AnyW w0, w = x.W := ⟨⟨w⟩, rfl⟩
/-- What yields the same in every world may be taken first. -/
theorem anyU_pure {w0 : World} {i : Nat} {oi : Oper} {v : Value} (hi : ops[i]? = some oi) (hsel : ∀ (j : Nat) (o : Oper) cs b, ops[j]? = some o → o.op ≠ .select cs b) (hQ : ∀ c a w, Q (.panic c) (a.put oi.dst v) w → Q (.panic c) a w) (hiL : i ≠ L) (fuel : Nat) :
    ∀ (listed : Array Bool) (a : Act) (w : World), (∀ j oj, ops[j]? = some oj → j ≠ i → listed.getD j true = false → (∀ e ∈ oj.after, Region.binds md e = true → e.on ≠ i) → oi.apart ops oj = true) →
      i ∈ Region.ready md ops listed → YieldsIf P ops (fun W => ∃ x : AnyW w0, W = x.W) oi v a → (listed.getD L false = true ∨ S w) → anyU P md ops Q S L fuel (listed.setIfInBounds i true) (a.put oi.dst v) w → anyU P md ops Q S L (fuel + 1) listed a w := by
  have up : ∀ {listed : Array Bool} {w : World}, (listed.getD L false = true ∨ S w) → ((listed.setIfInBounds i true).getD L false = true ∨ S w) := fun h => h.imp (fun h => getD_set_true h) id
  induction fuel with
  | zero =>
    intro listed a w _ hr hy hS H
    refine ⟨(fun h => by rw [h] at hr; cases hr), fun j hj => ?_⟩
    by_cases hji : j = i
    · subst hji
      exact hy.wpOp hi (anyW w) ⟨up hS, H⟩
    · have hm := ready_mono hj hji
      rw [H.1] at hm
      cases hm
  | succ fuel ih =>
    intro listed a w hfree hr hy hS H
    refine ⟨(fun h => by rw [h] at hr; cases hr), fun j hj => ?_⟩
    by_cases hji : j = i
    · subst hji
      exact hy.wpOp hi (anyW w) ⟨up hS, H⟩
    · obtain ⟨hjun, oj, hoj, hall⟩ := mem_ready.1 hj
      have hno : ∀ e ∈ oj.after, Region.binds md e = true → e.on ≠ i := by
        intro e he hb heq
        have h1 := hall e he hb
        have h0 := (mem_ready.1 hr).1
        rw [heq] at h1
        rcases Nat.lt_or_ge i listed.size with h' | h'
        · simp [h'] at h0 h1; rw [h0] at h1; cases h1
        · simp [Array.getElem?_eq_none h'] at h1
      have hput := wpOp_putIf hoj (hfree j oj hoj hji hjun hno) (fun cs b => hsel i oi cs b hi) (fun cs b => hsel j oj cs b hoj) hQ hy (H.2 j (ready_mono hj hji))
      refine wpOp_mono (fun a' w' ⟨hy', hLS, hrest⟩ => ?_) hput
      have hLS' : (listed.setIfInBounds j true).getD L false = true ∨ S w' := hLS.imp (fun h => by
        rw [Array.setIfInBounds_comm _ _ (Ne.symm hji), getD_set_ne false hiL] at h
        exact h) id
      refine ⟨hLS', ih _ a' w' (fun k ok hk hki hun hnk => hfree k ok hk hki ?_ hnk) (ready_mono hr (Ne.symm hji)) hy' hLS' ?_⟩
      · by_cases hjk : j = k
        · subst hjk; exact hjun
        · rw [getD_set_ne true hjk] at hun; exact hun
      · rw [Array.setIfInBounds_comm _ _ hji]
        exact hrest
def batchP (md : Region.Mode) (ops : Array Oper) (L : Nat) : List Nat → Array Bool → Bool
  | [], _ => true
  | i :: r, listed => decide (i < ops.size) && (Region.ready md ops listed).contains i && Region.free md ops listed i && plainOp (ops.toList.getD i default).op && !(i == L) && batchP md ops L r (listed.setIfInBounds i true)
theorem mixU_pure (w0 : World) (idx : List Nat) (hs : Region.noSelect ops = true) :
    ∀ (fuel : Nat) (listed : Array Bool) (a : Act) (w : World), batchP md ops L idx listed = true → (listed.getD L false = true ∨ S w) →
      wpQuiet P ops (fun W => ∃ x : AnyW w0, W = x.W) (fun a' => anyU P md ops (NoPanic Q) S L fuel (listedOf idx listed) a' w) (pickOps ops idx) a → anyU P md ops (NoPanic Q) S L (fuel + idx.length) listed a w := by
  induction idx with
  | nil => intro fuel listed a w _ _ h; exact h
  | cons i r ih =>
    intro fuel listed a w hb hS h
    simp only [batchP, Bool.and_eq_true, decide_eq_true_eq, Bool.not_eq_true', beq_eq_false_iff_ne] at hb
    obtain ⟨⟨⟨⟨⟨hi, hr⟩, hf⟩, hp⟩, hw⟩, hb'⟩ := hb
    have ho : ops[i]? = some (ops.toList.getD i default) := by rw [← Array.getElem?_toList, List.getD_eq_getElem?_getD, List.getElem?_eq_getElem (by simpa using hi)]; rfl
    obtain ⟨v, hy, hK⟩ := quiet_yields hp h
    rw [List.length_cons, ← Nat.add_assoc]
    exact anyU_pure ho (Region.noSelect_spec hs) (fun _ _ _ h => h) hw _ listed a w (Region.free_spec ho hf) (by simpa using hr) hy hS (ih fuel _ _ w hb' (hS.imp (fun h => getD_set_true h) id) hK)
/-- The one operation that may come up now is carried out. -/
theorem mixU_loud {i : Nat} {o : Oper} {fuel : Nat} {listed : Array Bool} {a : Act} {w : World} (hr : Region.ready md ops listed = [i]) (ho : ops[i]? = some o)
    (h : ∀ K' : Act → World → Prop, Shut (∀ a w, S w → anyU P md ops Q S L fuel (listed.setIfInBounds i true) a w → K' a w) → if Region.wanted o (yielded ops a.tmps) = true then Oper.wp P o a w K' Q else K' (a.put o.dst undef) w) :
    anyU P md ops Q S L (fuel + 1) listed a w := by
  refine ⟨(fun h0 => by rw [hr] at h0; cases h0), ?_⟩
  rw [hr]
  intro j hj
  obtain rfl := List.mem_singleton.1 hj
  exact wpOp_step ho (fun K' hK => h K' (fun a w hS hW => hK a w ⟨.inr hS, hW⟩))
/-- L itself: nothing is asked of the world behind it. -/
theorem mixU_last {o : Oper} {fuel : Nat} {listed : Array Bool} {a : Act} {w : World} (hr : Region.ready md ops listed = [L]) (hsz' : decide (L < listed.size) = true) (ho : ops[L]? = some o)
    (h : ∀ K' : Act → World → Prop, Shut (∀ a w, anyU P md ops Q S L fuel (listed.setIfInBounds L true) a w → K' a w) → if Region.wanted o (yielded ops a.tmps) = true then Oper.wp P o a w K' Q else K' (a.put o.dst undef) w) :
    anyU P md ops Q S L (fuel + 1) listed a w := by
  have hsz := of_decide_eq_true hsz'
  refine ⟨(fun h0 => by rw [hr] at h0; cases h0), ?_⟩
  rw [hr]
  intro j hj
  obtain rfl := List.mem_singleton.1 hj
  exact wpOp_step ho (fun K' hK => h K' (fun a w hW => hK a w ⟨.inl (by simp [hsz]), hW⟩))
theorem mixU_start {id : Nat} {a : Act} {w : World} (L : Nat) (F : Nat → Prop) (w0 : World) (hm : P.follows .mixedOrders = true)
    (h : anyU P .any ops (NoPanic Q) (fun W => ∃ x : Lat F w0, W = x.W) L ops.size (Array.replicate ops.size false) a w.drew) : (Code.region id ops true).wp P Q a w :=
  wp_region_noPanic (wp_region_any hm (anyU_any _ _ _ _ h))
/-- Behind L: from the world that it leaves on. -/
theorem mixU_after {S' : World → Prop} : ∀ (fuel : Nat) (listed : Array Bool) (a : Act) (w : World), listed.getD L false = true → wpAnyH P md ops Q S' fuel listed a w → anyU P md ops Q S L fuel listed a w
  | 0, _, _, _, _, h => h
  | fuel + 1, listed, a, w, hl, h => ⟨h.1, fun i hi => wpOp_mono (fun a' w' k => by
      have hl' : (listed.setIfInBounds i true).getD L false = true := by
        by_cases e : i = L
        · subst e
          have hs : i < listed.size := by
            rcases Nat.lt_or_ge i listed.size with h' | h'
            · exact h'
            · simp [Array.getElem?_eq_none h'] at hl
          simp [hs]
        · rw [getD_set_ne false e]
          exact hl
      exact ⟨.inl hl', mixU_after fuel _ a' w' hl' k.2⟩) (h.2 i hi)⟩
theorem anyU_done {listed : Array Bool} {a : Act} {w : World} (hr : Region.ready md ops listed = []) (h : Q .normal a w) : ∀ fuel, anyU P md ops Q S L fuel listed a w
  | 0 => ⟨hr, h⟩
  | _ + 1 => ⟨fun _ => h, by rw [hr]; simp⟩
end
end Go.Proofs.Ytkiplbhnnjfjaaa
