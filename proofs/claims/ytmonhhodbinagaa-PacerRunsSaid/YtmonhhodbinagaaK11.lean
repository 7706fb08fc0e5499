/- A pacer by what it may turn, whole; walks: the page's example. -/
import Derived.Test.YtmonhhodbinagaaK10
namespace Go.Proofs.Ytmonhhodbinagaa
open Go.RowKit Go.Maps
set_option maxRecDepth 100000

/-- Block p is a pacer that is well, and all it may turn lies in S. -/
def Pn (S : Nat → Prop) (w : World) (p : Nat) (s : PS) : Prop := (∃ T, Pq w p s T ∧ ∀ k, T k → S k) ∧ s.Wf ∧ ∀ k, w.heap.size ≤ k → S k
instance (k : Int × Int) : Decidable (may k) := inferInstanceAs (Decidable (_ ∧ _))
namespace Pn
variable {S : Nat → Prop} {w w' : World} {p : Nat} {s s' : PS}
theorem wf (h : Pn S w p s) : s.Wf := h.2.1
theorem new (h : Pn S w p s) (he : New w w') : Pn S w' p s := by
  obtain ⟨⟨T, hq, hT⟩, h1, h2⟩ := h
  exact ⟨⟨T, hq.new he, hT⟩, h1, fun k hk => h2 k (Nat.le_trans he.size hk)⟩
theorem keep {R : Nat → Prop} (h : Pn S w p s) (he : Ext R w w') (hs : ∀ k, S k → ¬ R k) : Pn S w' p s := by
  obtain ⟨⟨T, hq, hT⟩, h1, h2⟩ := h
  exact ⟨⟨T, hq.keep he (fun k hk => hs k (hT k hk)), hT⟩, h1, fun k hk => h2 k (Nat.le_trans he.size hk)⟩
/-- A new block is kept apart. -/
theorem apart {o : Obj} (h : Pn S w p s) : Pn (fun k => S k ∧ k ≠ w.heap.size) (w.alloc o) p s := by
  obtain ⟨⟨T, hq, hT⟩, h1, h2⟩ := h
  exact ⟨⟨T, hq.new (New.alloc1 _ _), fun k hk => ⟨hT k hk, fun e => by have := hq.lt hk; omega⟩⟩, h1, fun k hk => by rw [World.size_alloc] at hk; exact ⟨h2 k (by omega), by omega⟩⟩
theorem step (h : Pn S w p s) {T : Nat → Prop} (hT : ∀ k, T k → S k) (hs : Pstep w w' p s' T) (hw : s'.Wf) : Pn S w' p s' ∧ Ext S w w' := by
  obtain ⟨T', hq, he, hf⟩ := hs
  exact ⟨⟨⟨T', hq, fun k hk => (hf k hk).elim (hT k) (h.2.2 k)⟩, hw, fun k hk => h.2.2 k (Nat.le_trans he.size hk)⟩, he.mono (fun k _ hk => hT k hk)⟩
theorem wide {R : Nat → Prop} (h : Pn S w p s) (hR : ∀ k, S k → R k) : Pn R w p s := by
  obtain ⟨⟨T, hq, hT⟩, h1, h2⟩ := h
  exact ⟨⟨T, hq, fun k hk => hR k (hT k hk)⟩, h1, fun k hk => hR k (h2 k hk)⟩
end Pn
section
variable {S : Nat → Prop} {w : World} {p : Nat} {s s' : PS}
theorem new_n (most : Int) (w : World) (h1 : 1 ≤ most) (h2 : most ≤ 512) :
    Calls Try.prog 8 #[.int .i64 most] w fun e w' => ∃ p, e = .returned (.tuple #[.pointer (some ⟨p, 0, none⟩), .int .i64 0]) ∧ Pn (fun k => w.heap.size ≤ k) w' p (fresh most) ∧ New w w' := by
  refine (new_p most w h1 h2).mono ?_
  rintro e w' ⟨p, T, rfl, hq, hn, hT⟩
  exact ⟨p, rfl, ⟨⟨T, hq, hT⟩, PS.Wf.fresh h1 h2, fun k hk => Nat.le_trans hn.size hk⟩, hn⟩
theorem know_n (h : Pn S w p s) (k : Int × Int) (c : Int) (hk : may k) (hc : c = 0 ∨ c = 1) (hn : fnd s.L k = none) (hm : (s.L.length : Int) < s.most) :
    Calls Try.prog 10 #[.pointer (some ⟨p, 0, none⟩), .agg #[.int .i64 k.1, .int .i64 k.2], .int .i64 c] w fun e w' => e = .returned (.int .i64 0) ∧ Pn S w' p (knowS s k c) ∧ Ext S w w' := by
  obtain ⟨T, hq, hT⟩ := h.1
  refine (know_p hq k c hk hc hn hm (by have := h.wf.m1; have := h.wf.m2; omega)).mono ?_
  rintro e w' ⟨rfl, hs⟩
  exact ⟨rfl, h.step hT hs (h.wf.know hk hc hn hm)⟩
theorem owe_n (h : Pn S w p s) (k : Int × Int) (n : Int) (x : Kn) (hx : fnd s.L k = some x) (h1 : 1 ≤ n) (h2 : n ≤ 1152921504606846976 - x.pend) :
    Calls Try.prog 11 #[.pointer (some ⟨p, 0, none⟩), .agg #[.int .i64 k.1, .int .i64 k.2], .int .i64 n] w fun e w' => e = .returned (.int .i64 0) ∧ Pn S w' p (oweS s x n) ∧ Ext S w w' := by
  obtain ⟨T, hq, hT⟩ := h.1
  obtain ⟨hm, rfl⟩ := fnd_mem hx
  refine (owe_w hq h.wf n x hm h1 h2).mono ?_
  rintro e w' ⟨rfl, hs⟩
  exact ⟨rfl, h.step hT hs (h.wf.owe hm h1 h2)⟩
theorem tick_n {x : Kn} (h : Pn S w p s) (ht : tickS s = some (s', x)) (h0 : s.total < 1152921504606846976) (k1 k2 N : Int) (hk : x.k = (k1, k2)) (hN : N = x.iss + 1) :
    Calls Try.prog 12 #[.pointer (some ⟨p, 0, none⟩)] w fun e w' => e = .returned (.tuple #[.agg #[.int .i64 k1, .int .i64 k2, .int .i64 N], .bool true]) ∧ Pn S w' p s' ∧ Ext S w w' := by
  obtain ⟨T, hq, hT⟩ := h.1
  have e1 : x.k.1 = k1 := by rw [hk]
  have e2 : x.k.2 = k2 := by rw [hk]
  refine (tick_w hq h.wf ht h0).mono ?_
  rw [e1, e2, ← hN]
  rintro e w' ⟨rfl, hs⟩
  exact ⟨rfl, h.step hT hs (h.wf.tick ht)⟩
theorem tick_nno (h : Pn S w p s) (hu0 : s.u 0 = []) (hu1 : s.u 1 = []) :
    Calls Try.prog 12 #[.pointer (some ⟨p, 0, none⟩)] w fun e w' => e = .returned (.tuple #[.agg #[.int .i64 0, .int .i64 0, .int .i64 0], .bool false]) ∧ Pn S w' p s ∧ Ext S w w' := by
  obtain ⟨T, hq, hT⟩ := h.1
  refine (tick_wno hq h.wf hu0 hu1).mono ?_
  rintro e w' ⟨rfl, hs⟩
  exact ⟨rfl, h.step hT hs h.wf⟩
theorem pending_n (h : Pn S w p s) (k : Int × Int) (hk : kwf k) (m : Int) (hm : m = (ofK s.L k).pend) : Calls Try.prog 15 #[.pointer (some ⟨p, 0, none⟩), .agg #[.int .i64 k.1, .int .i64 k.2]] w fun e w' => e = .returned (.int .i64 m) ∧ New w w' := by
  obtain ⟨T, hq, hT⟩ := h.1
  rw [hm]
  exact pending_p hq k hk
theorem issued_n (h : Pn S w p s) (k : Int × Int) (hk : kwf k) (m : Int) (hm : m = (ofK s.L k).iss) : Calls Try.prog 13 #[.pointer (some ⟨p, 0, none⟩), .agg #[.int .i64 k.1, .int .i64 k.2]] w fun e w' => e = .returned (.int .i64 m) ∧ New w w' := by
  obtain ⟨T, hq, hT⟩ := h.1
  rw [hm]
  exact issued_p hq k hk
theorem total_n (h : Pn S w p s) (m : Int) (hm : m = s.total) : Calls Try.prog 14 #[.pointer (some ⟨p, 0, none⟩)] w fun e w' => e = .returned (.int .i64 m) ∧ w = w' := by
  obtain ⟨T, hq, hT⟩ := h.1
  rw [hm]
  exact total_p hq
end

/-! ## the page's example -/
def aw0 : PS := fresh 9
def aw1 : PS := knowS aw0 (0, 1) 1
def aw2 : PS := knowS aw1 (1, 1) 0
def aw3 : PS := oweS aw2 ⟨(0, 1), 1, 0, 0⟩ 9
def aw4 : PS := oweS aw3 ⟨(1, 1), 0, 0, 0⟩ 1
/-- Behind i turns. -/
def awT : Nat → PS
  | 0 => aw4
  | i + 1 => ((tickS (awT i)).getD (aw0, ⟨(0, 0), 0, 0, 0⟩)).1
def awX (i : Nat) : Kn := ((tickS (awT i)).getD (aw0, ⟨(0, 0), 0, 0, 0⟩)).2
theorem aw_tick (i : Nat) (hi : i < 6) : tickS (awT i) = some (awT (i + 1), awX i) := by
  have h : (tickS (awT i)).isSome = true := by
    have := (by decide : ∀ i, i < 6 → (tickS (awT i)).isSome = true)
    exact this i hi
  obtain ⟨⟨s, x⟩, hx⟩ := Option.isSome_iff_exists.1 h
  rw [hx]
  simp [awT, awX, hx]
theorem aw_key (i : Nat) (hi : i < 6) : (awX i).k = if i = 4 then (1, 1) else (0, 1) := by
  have := (by decide : ∀ i, i < 6 → (awX i).k = if i = 4 then (1, 1) else (0, 1))
  exact this i hi
theorem aw_total (i : Nat) (hi : i ≤ 6) : (awT i).total = i := by
  have := (by decide : ∀ i, i < 7 → (awT i).total = i)
  exact this i (by omega)
theorem aw_end : (ofK (awT 6).L (0, 1)).iss = 5 ∧ (ofK (awT 6).L (0, 1)).pend = 4 ∧ (awT 6).total = 6 := by decide
end Go.Proofs.Ytmonhhodbinagaa
