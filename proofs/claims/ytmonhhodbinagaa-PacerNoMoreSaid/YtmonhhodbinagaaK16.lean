/- Plain: plain ones that wait behind urgent ones. -/
import Derived.Test.YtmonhhodbinagaaK13
namespace Go.Proofs.Ytmonhhodbinagaa
open Go.RowKit Go.Maps
set_option maxRecDepth 100000

/-- A key known and owed m. -/
def koS (s : PS) (k : Int × Int) (c : Int) (m : Int) : PS := oweS (knowS s k c) ⟨k, c, 0, 0⟩ m
/-- What that makes of a pacer. -/
structure KO (s s' : PS) (k : Int × Int) (c : Nat) (m : Int) : Prop where
  wf : s'.Wf
  u : s'.u = upd s.u c (s.u c ++ [k])
  of : ∀ l, ofK s'.L l = if k = l then ⟨k, c, m, 0⟩ else ofK s.L l
  fn : ∀ l, l ≠ k → fnd s'.L l = fnd s.L l
  len : s'.L.length = s.L.length + 1
  tot : s'.total = s.total
  most : s'.most = s.most
  run : s'.run = s.run
  mem : ∀ x ∈ s'.L, x = ⟨k, c, m, 0⟩ ∨ x ∈ s.L
  old : ∀ x ∈ s.L, x ∈ s'.L
  own : ⟨k, c, m, 0⟩ ∈ s'.L
theorem ko_of {s : PS} (h : s.Wf) {k : Int × Int} {c : Nat} {m : Int} (hk : may k) (hc : c < 2) (hn : fnd s.L k = none) (hm : (s.L.length : Int) < s.most) (h1 : 1 ≤ m) (h2 : m ≤ 100000) : KO s (koS s k c m) k c m := by
  have hw1 := h.know hk (c := (c : Int)) (by omega) hn hm
  have hf1 := know_fnd s k (c : Int) hn
  have hm1 := (fnd_mem hf1).1
  have hw2 := hw1.owe hm1 (n := m) (by omega) (by dsimp only; omega)
  have hL : (koS s k c m).L = setK (s.L ++ [⟨k, c, 0, 0⟩]) ⟨k, c, 0 + m, 0⟩ := rfl
  refine ⟨hw2, ?_, ?_, ?_, ?_, rfl, rfl, rfl, ?_, ?_, ?_⟩
  · show (if (0 : Int) = 0 then upd s.u ((c : Int)).toNat (s.u ((c : Int)).toNat ++ [k]) else s.u) = _
    rw [if_pos rfl, Int.toNat_natCast]
  · intro l
    rw [show ofK (koS s k c m).L l = _ from ofK_setK (L := (knowS s k c).L) (x := ⟨k, c, 0 + m, 0⟩) hf1 l]
    by_cases e : k = l
    · rw [if_pos e, if_pos e, Int.zero_add]
    · rw [if_neg e, if_neg e]
      exact know_of s k c l (fun h => e h.symm)
  · intro l hl
    rw [hL, fnd_setK, if_neg (fun e : k = l => hl e.symm), fnd_app, fnd_cons, if_neg (fun e : k = l => hl e.symm), fnd_nil, Option.or_none]
  · rw [hL, setK_len, List.length_append]
    rfl
  · intro x hx
    rw [hL] at hx
    rcases mem_setK hx with ⟨rfl, _⟩ | ⟨hx, hne⟩
    · left; rw [Int.zero_add]
    · rcases List.mem_append.1 hx with hx | hx
      · exact .inr hx
      · exact absurd (by rw [List.mem_singleton.1 hx]) hne
  · intro x hx
    rw [hL]
    exact setK_other (List.mem_append_left _ hx) (fun e => fnd_none.1 hn x hx e)
  · rw [hL, Int.zero_add]
    exact setK_self (z := ⟨k, c, 0, 0⟩) (by simp) rfl
/-- Keys of plain ones, from j on. -/
def ks : Nat → Nat → List (Int × Int)
  | _, 0 => []
  | j, d + 1 => ((j : Int), 2) :: ks (j + 1) d
theorem ks_snoc (j d : Nat) : ks j d ++ [(((j + d : Nat) : Int), 2)] = ks j (d + 1) := by
  induction d generalizing j with
  | zero => rfl
  | succ d ih =>
    have := ih (j + 1)
    rw [show j + 1 + d = j + (d + 1) by omega] at this
    show ((j : Int), (2 : Int)) :: (ks (j + 1) d ++ _) = ((j : Int), 2) :: ks (j + 1) (d + 1)
    rw [this]
/-- Urgent ones have much that waits. -/
structure Sv (m : Nat) (s : PS) : Prop where
  wf : s.Wf
  most : s.most = 20
  big : ∀ x ∈ s.L, x.cls = 1 → 1000 ≤ x.pend + x.iss
  urg : 0 < m → ∃ x ∈ s.L, x.cls = 1
theorem Sv.u1 {m : Nat} {s : PS} (h : Sv m s) (hm : 0 < m) (ht : s.total < 1000) : s.u 1 ≠ [] := by
  obtain ⟨x, hx, hc⟩ := h.urg hm
  have h1 := h.big x hx hc
  have h2 := h.wf.i1 x hx
  intro e
  have := (h.wf.uin 1 x.k).2 ⟨x, hx, rfl, hc, by omega⟩
  rw [e] at this
  cases this
theorem Sv.tick {m : Nat} {s s' : PS} {x : Kn} (h : Sv m s) (ht : tickS s = some (s', x)) : Sv m s' ∧ s'.total = s.total + 1 ∧ s'.L = setK s.L (told x) := by
  obtain ⟨c, rest, t⟩ := h.wf.turn_inv ht
  have hs := t.s'
  have hL : s'.L = setK s.L (told x) := by rw [hs]
  refine ⟨⟨h.wf.tick ht, by rw [hs]; exact h.most, fun y hy hc => ?_, fun hm => ?_⟩, by rw [hs], hL⟩
  · rw [hL] at hy
    rcases mem_setK hy with ⟨rfl, _⟩ | ⟨hy, _⟩
    · have := h.big x t.mem hc
      show 1000 ≤ x.pend - 1 + (x.iss + 1)
      omega
    · exact h.big y hy hc
  · obtain ⟨y, hy, hc⟩ := h.urg hm
    rw [hL]
    by_cases e : y.k = x.k
    · exact ⟨told x, setK_self t.mem rfl, by rw [one_of h.wf.nd hy t.mem e] at hc; exact hc⟩
    · exact ⟨y, setK_other hy e, hc⟩
/-- i urgent ones are made. -/
structure S1 (i : Nat) (s : PS) : Prop where
  sv : Sv i s
  len : s.L.length = i
  tot : s.total = 0
  u0 : s.u 0 = []
  new : ∀ j : Nat, i ≤ j → fnd s.L ((j : Int), (1 : Int)) = none
  pl : ∀ j : Nat, fnd s.L ((j : Int), (2 : Int)) = none
theorem S1.zero : S1 0 (fresh 20) :=
  ⟨⟨PS.Wf.fresh (by omega) (by omega), rfl, (fun _ h => by cases h), (fun h => by omega)⟩, rfl, rfl, rfl, fun _ _ => rfl, fun _ => rfl⟩
theorem s1_may {i : Nat} (h : i < 8) : may ((i : Int), (1 : Int)) := by unfold may; simp; omega
theorem s2_may {i : Nat} (h : i < 8) : may ((i : Int), (2 : Int)) := by unfold may; simp; omega
theorem S1.next {i : Nat} {s : PS} (h : S1 i s) (hi : i < 8) : S1 (i + 1) (koS s ((i : Int), (1 : Int)) 1 1000) := by
  have ko : KO s (koS s ((i : Int), (1 : Int)) 1 1000) ((i : Int), (1 : Int)) 1 1000 := ko_of h.sv.wf (c := 1) (s1_may hi) (by omega) (h.new i (Nat.le_refl _)) (by rw [h.sv.most, h.len]; omega) (by omega) (by omega)
  refine ⟨⟨ko.wf, ko.most.trans h.sv.most, fun x hx hc => ?_, fun _ => ⟨_, ko.own, rfl⟩⟩, by rw [ko.len, h.len], ko.tot.trans h.tot, ?_, ?_, ?_⟩
  · rcases ko.mem x hx with rfl | hx
    · show (1000 : Int) ≤ 1000 + 0
      omega
    · exact h.sv.big x hx hc
  · rw [ko.u, upd_other _ _ (by omega)]
    exact h.u0
  · intro j hj
    rw [ko.fn _ (by simp; omega)]
    exact h.new j (by omega)
  · intro j
    rw [ko.fn _ (by simp)]
    exact h.pl j
/-- t turns ahead of it. -/
structure S2 (m t : Nat) (s : PS) : Prop where
  sv : Sv m s
  len : s.L.length = m
  tot : s.total ≤ t
  u0 : s.u 0 = []
  pl : ∀ j : Nat, fnd s.L ((j : Int), (2 : Int)) = none
theorem S1.done {i : Nat} {s : PS} (h : S1 i s) : S2 i 0 s := ⟨h.sv, h.len, by rw [h.tot]; omega, h.u0, h.pl⟩
theorem S2.later {m t : Nat} {s : PS} (h : S2 m t s) : S2 m (t + 1) s := ⟨h.sv, h.len, by have := h.tot; omega, h.u0, h.pl⟩
theorem S2.tick {m t : Nat} {s s' : PS} {x : Kn} (h : S2 m t s) (ht : tickS s = some (s', x)) : S2 m (t + 1) s' := by
  obtain ⟨sv, htot, hL⟩ := h.sv.tick ht
  obtain ⟨c, rest, tn⟩ := h.sv.wf.turn_inv ht
  have hs := tn.s'
  refine ⟨sv, by rw [hL, setK_len]; exact h.len, by have := h.tot; omega, ?_, fun j => ?_⟩
  · have h3 := tn.u
    have h2 := tn.c2
    have hc : c = 1 := by
      by_cases e : c = 0
      · rw [e, h.u0] at h3; cases h3
      · omega
    rw [hs, hc]
    exact (upd_other s.u (if 1 < x.pend then rest ++ [x.k] else rest) (show (0 : Nat) ≠ 1 by omega)).trans h.u0
  · rw [hL, fnd_setK, h.pl j]
    split <;> rfl
/-- i plain ones are made. -/
structure S3 (m i : Nat) (s : PS) : Prop where
  sv : Sv m s
  len : s.L.length = m + i
  tot : s.total ≤ 20
  u0 : s.u 0 = ks 0 i
  pl : ∀ j : Nat, i ≤ j → fnd s.L ((j : Int), (2 : Int)) = none
theorem S2.done {m t : Nat} {s : PS} (h : S2 m t s) (ht : t ≤ 20) : S3 m 0 s := ⟨h.sv, h.len, by have := h.tot; omega, h.u0, fun j _ => h.pl j⟩
theorem S3.next {m i : Nat} {s : PS} (h : S3 m i s) (hi : i < 8) (hm : m < 8) (v : Int) (h1 : 1 ≤ v) (h2 : v ≤ 1000) : S3 m (i + 1) (koS s ((i : Int), (2 : Int)) 0 v) := by
  have ko : KO s (koS s ((i : Int), (2 : Int)) 0 v) ((i : Int), (2 : Int)) 0 v := ko_of h.sv.wf (c := 0) (s2_may hi) (by omega) (h.pl i (Nat.le_refl _)) (by rw [h.sv.most, h.len]; omega) (by omega) (by omega)
  refine ⟨⟨ko.wf, ko.most.trans h.sv.most, fun x hx hc => ?_, fun h0 => ?_⟩, by rw [ko.len, h.len]; omega, by rw [ko.tot]; exact h.tot, ?_, ?_⟩
  · rcases ko.mem x hx with rfl | hx
    · exact absurd hc (by simp)
    · exact h.sv.big x hx hc
  · obtain ⟨x, hx, hc⟩ := h.sv.urg h0
    exact ⟨x, ko.old x hx, hc⟩
  · rw [ko.u, upd_same, h.u0, ← ks_snoc, Nat.zero_add]
  · intro j hj
    rw [ko.fn _ (by simp; omega)]
    exact h.pl j (by omega)
/-- t turns on, j plain ones were told. -/
structure S4 (m n t : Nat) (s : PS) : Prop where
  sv : Sv m s
  tot : s.total ≤ 20 + t
  q : ∃ j, j ≤ n ∧ (∀ i : Nat, i < j → 1 ≤ (ofK s.L ((i : Int), (2 : Int))).iss) ∧ (j = n ∨ ∃ Q, s.u 0 = ks j (n - j) ++ Q ∧ ((5 * (n - j) + t : Nat) : Int) ≤ 5 * n + s.run)
theorem S3.done {m n : Nat} {s : PS} (h : S3 m n s) : S4 m n 0 s :=
  ⟨h.sv, by have := h.tot; omega, 0, Nat.zero_le _, (fun _ h => by omega), .inr ⟨[], by rw [h.u0]; simp, by have := h.sv.wf.r0; omega⟩⟩
theorem S4.end_ {m n : Nat} {s : PS} (h : S4 m n (5 * n) s) (i : Nat) (hi : i < n) : 1 ≤ (ofK s.L ((i : Int), (2 : Int))).iss := by
  obtain ⟨j, hj, h1, rfl | ⟨Q, h2, h3⟩⟩ := h.q
  · exact h1 i hi
  · have := h.sv.wf.r1
    exact h1 i (by omega)
theorem S4.later {m n t : Nat} {s : PS} (h : S4 m n t s) (h0 : s.u 0 = []) : S4 m n (t + 1) s := by
  refine ⟨h.sv, by have := h.tot; omega, ?_⟩
  obtain ⟨j, hj, h1, h2 | ⟨Q, h2, h3⟩⟩ := h.q
  · exact ⟨j, hj, h1, .inl h2⟩
  · rw [h0] at h2
    have hl := congrArg List.length h2
    have : n - j = 0 := by
      cases hd : n - j with
      | zero => rfl
      | succ d => rw [hd] at hl; simp [ks] at hl
    exact ⟨j, hj, h1, .inl (by omega)⟩
theorem S4.tick {m n t : Nat} {s s' : PS} {x : Kn} (h : S4 m n t s) (ht : tickS s = some (s', x)) : S4 m n (t + 1) s' := by
  obtain ⟨sv, htot, hL⟩ := h.sv.tick ht
  obtain ⟨c, rest, tn⟩ := h.sv.wf.turn_inv ht
  have hs := tn.s'
  have hi0 := h.sv.wf.i0 x tn.mem
  have hr1 := h.sv.wf.r1
  have hof : ∀ k, ofK s'.L k = if x.k = k then told x else ofK s.L k := fun k => by
    rw [hL]
    exact ofK_setK (x := told x) tn.f k
  have hmono : ∀ k, 1 ≤ (ofK s.L k).iss → 1 ≤ (ofK s'.L k).iss := fun k hk => by
    rw [hof]
    by_cases e : x.k = k
    · rw [if_pos e]
      show 1 ≤ x.iss + 1
      omega
    · rw [if_neg e]
      exact hk
  have hu' : s'.u = upd s.u c (if 1 < x.pend then rest ++ [x.k] else rest) := by rw [hs]
  refine ⟨sv, by have := h.tot; omega, ?_⟩
  obtain ⟨j, hj, h1, h2 | ⟨Q, h2, h3⟩⟩ := h.q
  · exact ⟨j, hj, fun i hi => hmono _ (h1 i hi), .inl h2⟩
  · cases hd : n - j with
    | zero => exact ⟨j, hj, fun i hi => hmono _ (h1 i hi), .inl (by omega)⟩
    | succ d =>
      rw [hd] at h2 h3
      have htn := tn.t
      have hu0 : 0 < (s.u 0).length := by rw [h2]; simp [ks]
      by_cases hc : c = 0
      · subst hc
        have h4 := tn.u
        rw [h2] at h4
        simp only [ks, List.cons_append, List.cons.injEq] at h4
        obtain ⟨hk, hrest⟩ := h4
        refine ⟨j + 1, by omega, fun i hi => ?_, ?_⟩
        · by_cases e : i = j
          · rw [hof, if_pos (by rw [← hk, e])]
            show 1 ≤ x.iss + 1
            omega
          · exact hmono _ (h1 i (by omega))
        · right
          have hr0 := sv.wf.r0
          rw [show n - (j + 1) = d by omega]
          by_cases hp : 1 < x.pend
          · exact ⟨Q ++ [x.k], by rw [hu', upd_same, if_pos hp, ← hrest, List.append_assoc], by omega⟩
          · exact ⟨Q, by rw [hu', upd_same, if_neg hp, ← hrest], by omega⟩
      · have hc1 : c = 1 := by have := tn.c2; omega
        subst hc1
        have hrun : s'.run = s.run + 1 := by
          unfold turnOf at htn
          rw [if_neg (fun e => by omega)] at htn
          split at htn
          · simp only [Prod.mk.injEq] at htn
            omega
          · exfalso
            first | (simp at htn; done) | (split at htn <;> simp at htn)
        refine ⟨j, hj, fun i hi => hmono _ (h1 i hi), .inr ⟨Q, ?_, by rw [hd, hrun]; omega⟩⟩
        rw [hu', upd_other _ _ (by omega), h2, hd]
end Go.Proofs.Ytmonhhodbinagaa
