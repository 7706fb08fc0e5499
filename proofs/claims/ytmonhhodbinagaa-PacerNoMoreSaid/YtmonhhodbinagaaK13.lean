/- Plain: keys of one class, turn by turn. -/
import Derived.Test.YtmonhhodbinagaaK12
namespace Go.Proofs.Ytmonhhodbinagaa
open Go.RowKit Go.Maps
set_option maxRecDepth 100000

theorem ofK_setK {L : List Kn} {x y : Kn} (hf : fnd L x.k = some y) (k : Int × Int) : ofK (setK L x) k = if x.k = k then x else ofK L k := by
  unfold ofK
  rw [fnd_setK]
  by_cases e : x.k = k
  · rw [if_pos e, if_pos e, ← e, hf]
    rfl
  · rw [if_neg e, if_neg e]
theorem fnd_in {L : List Kn} {k : Int × Int} {x : Kn} (h : fnd L k = some x) : ofK L k = x := by simp [ofK, h]
/-- Each of a class waits, all told n times or once more. -/
structure Fa (c k : Nat) (s : PS) : Prop where
  wf : s.Wf
  oth : s.u (1 - c) = []
  q : ∃ (n : Int) (A B : List (Int × Int)), s.u c = A ++ B ∧ A ≠ [] ∧ (∀ a ∈ A, (ofK s.L a).iss = n) ∧ (∀ b ∈ B, (ofK s.L b).iss = n + 1)
  all : ∀ i : Nat, i < k → ((i : Int), (5 : Int)) ∈ s.u c
  big : ∀ x ∈ s.L, 300 ≤ x.pend + x.iss
theorem Fa.tick {c k : Nat} {s : PS} (h : Fa c k s) (hc : c < 2) (ht : s.total < 256) : ∃ s' x, tickS s = some (s', x) ∧ Fa c k s' ∧ s'.total = s.total + 1 ∧ (ofK s'.L x.k).iss = x.iss + 1 ∧ ∀ i : Nat, i < k → (ofK s'.L ((i : Int), (5 : Int))).iss = x.iss + 1 ∨ (ofK s'.L ((i : Int), (5 : Int))).iss = x.iss := by
  obtain ⟨n, A, B, hu, hA, h1, h2⟩ := h.q
  obtain ⟨s', x, hx⟩ := h.wf.tick_some hc (by rw [hu]; simp [hA])
  refine ⟨s', x, hx, ?_⟩
  obtain ⟨d, rest, t⟩ := h.wf.turn_inv hx
  have hw' := h.wf.tick hx
  obtain rfl : d = c := by
    have h2 := t.c2
    by_cases e : d = c
    · exact e
    · have h3 := t.u
      rw [show d = 1 - c by omega, h.oth] at h3
      cases h3
  have hs' := t.s'
  have hL : s'.L = setK s.L (told x) := by rw [hs']
  have htot : s'.total = s.total + 1 := by rw [hs']
  have hi1 := h.wf.i1 x t.mem
  have hbig := h.big x t.mem
  have hu' : s'.u = upd s.u d (rest ++ [x.k]) := by rw [hs', if_pos (by omega)]
  have hud : s'.u d = rest ++ [x.k] := by rw [hu', upd_same]
  have hof : ∀ k, ofK s'.L k = if x.k = k then told x else ofK s.L k := fun k => by
    rw [hL]
    exact ofK_setK (x := told x) t.f k
  have hself : (ofK s'.L x.k).iss = x.iss + 1 := by rw [hof, if_pos rfl]; rfl
  obtain ⟨a, A', rfl⟩ := List.exists_cons_of_ne_nil hA
  have hcons : x.k :: rest = a :: (A' ++ B) := by rw [← t.u, hu]; rfl
  simp only [List.cons.injEq] at hcons
  obtain ⟨rfl, rfl⟩ := hcons
  have hnd := h.wf.und d
  rw [t.u] at hnd
  obtain ⟨hnr, _⟩ := List.nodup_cons.1 hnd
  have hxi : x.iss = n := by
    have := h1 x.k (by simp)
    rwa [fnd_in t.f] at this
  have hA2 : ∀ a ∈ A', (ofK s'.L a).iss = n := fun a ha => by
    rw [hof, if_neg (fun e => hnr (by rw [e]; simp [ha]))]
    exact h1 a (by simp [ha])
  have hB2 : ∀ b ∈ B ++ [x.k], (ofK s'.L b).iss = n + 1 := fun b hb => by
    rcases List.mem_append.1 hb with hb | hb
    · rw [hof, if_neg (fun e => hnr (by rw [e]; simp [hb]))]
      exact h2 b hb
    · rw [List.mem_singleton.1 hb, hself, hxi]
  have hall : ∀ i : Nat, i < k → ((i : Int), (5 : Int)) ∈ s'.u d := fun i hi => by
    have := h.all i hi
    rw [t.u] at this
    rw [hud]
    rcases List.mem_cons.1 this with e | e
    · rw [e]; simp
    · exact List.mem_append_left _ e
  refine ⟨⟨hw', ?_, ?_, hall, ?_⟩, htot, hself, ?_⟩
  · rw [hu', upd_other _ _ (by omega)]
    exact h.oth
  · by_cases e : A' = []
    · subst e
      refine ⟨n + 1, B ++ [x.k], [], by rw [hud]; simp, by simp, hB2, by simp⟩
    · exact ⟨n, A', B ++ [x.k], by rw [hud]; simp, e, hA2, hB2⟩
  · intro y hy
    rw [hL] at hy
    rcases mem_setK hy with ⟨rfl, _⟩ | ⟨hy, _⟩
    · show 300 ≤ x.pend - 1 + (x.iss + 1)
      omega
    · exact h.big y hy
  · intro i hi
    have := hall i hi
    rw [hud, List.append_assoc] at this
    rw [hxi]
    rcases List.mem_append.1 this with e | e
    · exact .inr (hA2 _ e)
    · exact .inl (hB2 _ e)
/-- i keys are made. -/
structure Fs (c i : Nat) (s : PS) : Prop where
  wf : s.Wf
  oth : s.u (1 - c) = []
  q : ∀ a ∈ s.u c, (ofK s.L a).iss = 0
  all : ∀ j : Nat, j < i → ((j : Int), (5 : Int)) ∈ s.u c
  big : ∀ x ∈ s.L, 300 ≤ x.pend + x.iss
  len : s.L.length = i
  new : ∀ j : Nat, i ≤ j → fnd s.L ((j : Int), (5 : Int)) = none
  tot : s.total = 0
  most : s.most = 20
theorem Fs.zero (c : Nat) : Fs c 0 (fresh 20) :=
  ⟨PS.Wf.fresh (by omega) (by omega), rfl, (fun _ h => by cases h), (fun _ h => by omega), (fun _ h => by cases h), rfl, fun _ _ => rfl, rfl, rfl⟩
theorem fa_may {i : Nat} (h : i < 8) : may ((i : Int), (5 : Int)) := by unfold may; simp; omega
theorem know_fnd (s : PS) (k : Int × Int) (c : Int) (h : fnd s.L k = none) : fnd (knowS s k c).L k = some ⟨k, c, 0, 0⟩ := by
  show fnd (s.L ++ [_]) k = _
  rw [fnd_app, h, fnd_cons, if_pos rfl]
  rfl
theorem know_of (s : PS) (k : Int × Int) (c : Int) (l : Int × Int) (h : l ≠ k) : ofK (knowS s k c).L l = ofK s.L l := by
  unfold ofK
  show (fnd (s.L ++ [_]) l).getD _ = _
  rw [fnd_app, fnd_cons, if_neg (fun e => h e.symm), fnd_nil, Option.or_none]
theorem Fs.next {c i : Nat} {s : PS} (h : Fs c i s) (hc : c < 2) (hi : i < 8) (m : Int) (hm : 300 ≤ m) (hm2 : m ≤ 1000) : Fs c (i + 1) (oweS (knowS s ((i : Int), (5 : Int)) c) ⟨((i : Int), (5 : Int)), c, 0, 0⟩ m) := by
  have hn := h.new i (Nat.le_refl _)
  have hw1 := h.wf.know (fa_may hi) (c := (c : Int)) (by omega) hn (by rw [h.most, h.len]; omega)
  have hf1 := know_fnd s _ (c : Int) hn
  have hm1 := (fnd_mem hf1).1
  have hw2 := hw1.owe hm1 (n := m) (by omega) (by dsimp only; omega)
  generalize hk : ((i : Int), (5 : Int)) = k at *
  have hu : (oweS (knowS s k c) ⟨k, c, 0, 0⟩ m).u = upd s.u c (s.u c ++ [k]) := by
    show (if (0 : Int) = 0 then upd s.u ((c : Int)).toNat (s.u ((c : Int)).toNat ++ [k]) else s.u) = _
    rw [if_pos rfl, Int.toNat_natCast]
  have hL : (oweS (knowS s k c) ⟨k, c, 0, 0⟩ m).L = setK (s.L ++ [⟨k, c, 0, 0⟩]) ⟨k, c, 0 + m, 0⟩ := rfl
  have hks : k ∉ s.u c := fun e => by
    obtain ⟨x, hx, e1, _⟩ := (h.wf.uin c k).1 e
    exact fnd_none.1 hn x hx e1
  have hof : ∀ l, ofK (oweS (knowS s k c) ⟨k, c, 0, 0⟩ m).L l = if k = l then ⟨k, c, 0 + m, 0⟩ else ofK s.L l := fun l => by
    rw [show ofK (oweS (knowS s k c) ⟨k, c, 0, 0⟩ m).L l = _ from ofK_setK (L := (knowS s k c).L) (x := ⟨k, c, 0 + m, 0⟩) hf1 l]
    by_cases e : k = l
    · rw [if_pos e, if_pos e]
    · rw [if_neg e, if_neg e]
      exact know_of s k c l (fun h => e h.symm)
  refine ⟨hw2, ?_, ?_, ?_, ?_, ?_, ?_, h.tot, h.most⟩
  · rw [hu, upd_other _ _ (by omega)]
    exact h.oth
  · intro a ha
    rw [hu, upd_same] at ha
    rw [hof]
    rcases List.mem_append.1 ha with ha | ha
    · rw [if_neg (fun e : k = a => hks (e ▸ ha))]
      exact h.q a ha
    · rw [if_pos (List.mem_singleton.1 ha).symm]
  · intro j hj
    rw [hu, upd_same]
    by_cases e : j = i
    · rw [e, hk]; simp
    · exact List.mem_append_left _ (h.all j (by omega))
  · intro x hx
    rw [hL] at hx
    rcases mem_setK hx with ⟨rfl, _⟩ | ⟨hx, hne⟩
    · show 300 ≤ 0 + m + 0
      omega
    · rcases List.mem_append.1 hx with hx | hx
      · exact h.big x hx
      · exact absurd (by rw [List.mem_singleton.1 hx]) hne
  · rw [hL, setK_len, List.length_append, h.len]
    rfl
  · intro j hj
    rw [hL, fnd_setK, if_neg (fun e => by rw [← hk] at e; simp at e; omega), fnd_app, h.new j (by omega), fnd_cons, if_neg (fun e => by rw [← hk] at e; simp at e; omega)]
    rfl
theorem Fs.done {c k : Nat} {s : PS} (h : Fs c k s) (hk : 1 ≤ k) : Fa c k s :=
  ⟨h.wf, h.oth, ⟨0, s.u c, [], by simp, (fun e => by
    have h0 := h.all 0 (by omega)
    rw [e] at h0
    cases h0), h.q, (fun _ h => by cases h)⟩, h.all, h.big⟩
end Go.Proofs.Ytmonhhodbinagaa
