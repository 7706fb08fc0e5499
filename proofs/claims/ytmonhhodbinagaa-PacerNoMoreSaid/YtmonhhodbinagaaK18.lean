/- Plain: two keys, what is owed to them, what they were told. -/
import Derived.Test.YtmonhhodbinagaaK16
namespace Go.Proofs.Ytmonhhodbinagaa
open Go.RowKit Go.Maps
set_option maxRecDepth 100000

/-- Two keys are known, and add up. -/
structure Nm (s : PS) (a b : Int) : Prop where
  wf : s.Wf
  all : ∀ x ∈ s.L, x.k = (2, 3) ∨ x.k = (4, 1)
  x0 : ∃ x, fnd s.L (2, 3) = some x ∧ x.iss + x.pend = a
  x1 : ∃ x, fnd s.L (4, 1) = some x ∧ x.iss + x.pend = b
  tot : (ofK s.L (2, 3)).iss + (ofK s.L (4, 1)).iss = s.total
theorem Nm.zero (c d : Int) (hc : c = 0 ∨ c = 1) (hd : d = 0 ∨ d = 1) : fnd (knowS (fresh 5) (2, 3) c).L (4, 1) = none ∧ Nm (knowS (knowS (fresh 5) (2, 3) c) (4, 1) d) 0 0 := by
  have h0 : (fresh 5).Wf := PS.Wf.fresh (by omega) (by omega)
  have h1 : (knowS (fresh 5) (2, 3) c).Wf := h0.know (by decide) hc rfl (by decide)
  have e1 : fnd (knowS (fresh 5) (2, 3) c).L (4, 1) = none := by simp [knowS, fresh, fnd]
  have h2 := h1.know (k := (4, 1)) (by decide) hd e1 (by simp [knowS, fresh])
  refine ⟨e1, h2, ?_, ⟨⟨(2, 3), c, 0, 0⟩, ?_, by simp⟩, ⟨⟨(4, 1), d, 0, 0⟩, ?_, by simp⟩, ?_⟩
  · intro x hx
    simp [knowS, fresh] at hx
    rcases hx with rfl | rfl
    · exact .inl rfl
    · exact .inr rfl
  · simp [knowS, fresh, fnd]
  · simp [knowS, fresh, fnd]
  · simp [knowS, fresh, fnd, ofK]
theorem Nm.of0 {s : PS} {a b : Int} (h : Nm s a b) : (ofK s.L (2, 3)).iss + (ofK s.L (2, 3)).pend = a ∧ 0 ≤ (ofK s.L (2, 3)).pend ∧ 0 ≤ (ofK s.L (2, 3)).iss := by
  obtain ⟨x, hx, he⟩ := h.x0
  rw [fnd_in hx]
  exact ⟨he, h.wf.p0 x (fnd_mem hx).1, h.wf.i0 x (fnd_mem hx).1⟩
theorem Nm.of1 {s : PS} {a b : Int} (h : Nm s a b) : (ofK s.L (4, 1)).iss + (ofK s.L (4, 1)).pend = b ∧ 0 ≤ (ofK s.L (4, 1)).pend ∧ 0 ≤ (ofK s.L (4, 1)).iss := by
  obtain ⟨x, hx, he⟩ := h.x1
  rw [fnd_in hx]
  exact ⟨he, h.wf.p0 x (fnd_mem hx).1, h.wf.i0 x (fnd_mem hx).1⟩
/-- A known that is put anew. -/
theorem Nm.put {s s' : PS} {a b : Int} (h : Nm s a b) (hw : s'.Wf) {x x' : Kn} (hx : x ∈ s.L) (hk : x'.k = x.k) (hL : s'.L = setK s.L x') (d : Int) (hd : x'.iss + x'.pend = x.iss + x.pend + d) (ht : s'.total - s.total = x'.iss - x.iss) :
    (x.k = (2, 3) → Nm s' (a + d) b) ∧ (x.k = (4, 1) → Nm s' a (b + d)) := by
  have hf := fnd_of h.wf.nd hx
  have hall : ∀ y ∈ s'.L, y.k = (2, 3) ∨ y.k = (4, 1) := fun y hy => by
    rw [hL] at hy
    rcases mem_setK hy with ⟨rfl, _⟩ | ⟨hy, _⟩
    · rw [hk]; exact h.all x hx
    · exact h.all y hy
  have hof : ∀ l, ofK s'.L l = if x.k = l then x' else ofK s.L l := fun l => by
    rw [hL, ofK_setK (x := x') (by rw [hk]; exact hf), hk]
  have hfn : ∀ l, fnd s'.L l = if x.k = l then (fnd s.L l).map (fun _ => x') else fnd s.L l := fun l => by
    rw [hL, fnd_setK, hk]
  obtain ⟨y0, hy0, e0⟩ := h.x0
  obtain ⟨y1, hy1, e1⟩ := h.x1
  have htot := h.tot
  constructor
  · intro e
    have hxy : x = y0 := by rw [e, hy0] at hf; exact (Option.some.inj hf).symm
    subst hxy
    refine ⟨hw, hall, ⟨x', by rw [hfn, if_pos e, hy0]; rfl, by omega⟩, ⟨y1, by rw [hfn, if_neg (by rw [e]; decide)]; exact hy1, e1⟩, ?_⟩
    rw [hof, hof, if_pos e, if_neg (by rw [e]; decide)]
    rw [fnd_in hy0] at htot
    omega
  · intro e
    have hxy : x = y1 := by rw [e, hy1] at hf; exact (Option.some.inj hf).symm
    subst hxy
    refine ⟨hw, hall, ⟨y0, by rw [hfn, if_neg (by rw [e]; decide)]; exact hy0, e0⟩, ⟨x', by rw [hfn, if_pos e, hy1]; rfl, by omega⟩, ?_⟩
    rw [hof, hof, if_neg (by rw [e]; decide), if_pos e]
    rw [fnd_in hy1] at htot
    omega
theorem Nm.owe0 {s : PS} {a b : Int} (h : Nm s a b) (n : Int) (h1 : 1 ≤ n) (h2 : n ≤ 100) (h3 : a ≤ 100000) : ∃ x, fnd s.L (2, 3) = some x ∧ n ≤ 1152921504606846976 - x.pend ∧ Nm (oweS s x n) (a + n) b := by
  obtain ⟨x, hx, e⟩ := h.x0
  obtain ⟨hm, hk⟩ := fnd_mem hx
  have hi := h.wf.i0 x hm
  refine ⟨x, hx, by omega, ?_⟩
  exact (h.put (h.wf.owe hm h1 (by omega)) hm (x' := { x with pend := x.pend + n }) rfl rfl n (by dsimp only; omega) (by show s.total - s.total = x.iss - x.iss; omega)).1 hk
theorem Nm.owe1 {s : PS} {a b : Int} (h : Nm s a b) (n : Int) (h1 : 1 ≤ n) (h2 : n ≤ 100) (h3 : b ≤ 100000) : ∃ x, fnd s.L (4, 1) = some x ∧ n ≤ 1152921504606846976 - x.pend ∧ Nm (oweS s x n) a (b + n) := by
  obtain ⟨x, hx, e⟩ := h.x1
  obtain ⟨hm, hk⟩ := fnd_mem hx
  have hi := h.wf.i0 x hm
  refine ⟨x, hx, by omega, ?_⟩
  exact (h.put (h.wf.owe hm h1 (by omega)) hm (x' := { x with pend := x.pend + n }) rfl rfl n (by dsimp only; omega) (by show s.total - s.total = x.iss - x.iss; omega)).2 hk
theorem Nm.tick {s s' : PS} {x : Kn} {a b : Int} (h : Nm s a b) (ht : tickS s = some (s', x)) : Nm s' a b := by
  obtain ⟨c, rest, t⟩ := h.wf.turn_inv ht
  have hs := t.s'
  have hp := h.put (s' := s') (h.wf.tick ht) t.mem (x' := told x) rfl (by rw [hs]) 0 (by show x.iss + 1 + (x.pend - 1) = _; omega) (by rw [hs]; show s.total + 1 - s.total = x.iss + 1 - x.iss; omega)
  rcases h.all x t.mem with e | e
  · have := hp.1 e
    rwa [Int.add_zero] at this
  · have := hp.2 e
    rwa [Int.add_zero] at this
/-- A turn, or nobody waits. -/
theorem Nm.waits {s : PS} {a b : Int} (h : Nm s a b) : (0 < (ofK s.L (2, 3)).pend + (ofK s.L (4, 1)).pend ∧ ∃ s' x, tickS s = some (s', x)) ∨ ((ofK s.L (2, 3)).pend + (ofK s.L (4, 1)).pend = 0 ∧ s.u 0 = [] ∧ s.u 1 = []) := by
  obtain ⟨x, hx, e0⟩ := h.x0
  obtain ⟨y, hy, e1⟩ := h.x1
  have hxm := (fnd_mem hx).1
  have hym := (fnd_mem hy).1
  rw [fnd_in hx, fnd_in hy]
  have hx0 := h.wf.p0 x hxm
  have hy0 := h.wf.p0 y hym
  have key : ∀ z ∈ s.L, 0 < z.pend → ∃ s' x, tickS s = some (s', x) := fun z hz hp => by
    rcases h.wf.cls z hz with hc | hc
    · exact h.wf.tick_some (c := 0) (by omega) (fun e => by have := (h.wf.uin 0 z.k).2 ⟨z, hz, rfl, hc, hp⟩; rw [e] at this; cases this)
    · exact h.wf.tick_some (c := 1) (by omega) (fun e => by have := (h.wf.uin 1 z.k).2 ⟨z, hz, rfl, hc, hp⟩; rw [e] at this; cases this)
  by_cases hp : 0 < x.pend
  · exact .inl ⟨by omega, key x hxm hp⟩
  by_cases hq : 0 < y.pend
  · exact .inl ⟨by omega, key y hym hq⟩
  have hno : ∀ c, s.u c = [] := fun c => List.eq_nil_iff_forall_not_mem.2 (fun k hk => by
    obtain ⟨z, hz, e, _, hpz⟩ := (h.wf.uin c k).1 hk
    rcases h.all z hz with ez | ez
    · rw [one_of h.wf.nd hz hxm (ez.trans (fnd_mem hx).2.symm)] at hpz; omega
    · rw [one_of h.wf.nd hz hym (ez.trans (fnd_mem hy).2.symm)] at hpz; omega)
  exact .inr ⟨by omega, hno 0, hno 1⟩
end Go.Proofs.Ytmonhhodbinagaa
