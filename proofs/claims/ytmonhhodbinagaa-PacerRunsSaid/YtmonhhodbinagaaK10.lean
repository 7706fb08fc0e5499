/- Plain: a turn keeps a pacer well; walks: what is owed, a turn, of either class. -/
import Derived.Test.YtmonhhodbinagaaK9
import Derived.Test.YtmonhhodbinagaaK8a
import Derived.Test.YtmonhhodbinagaaK8b
namespace Go.Proofs.Ytmonhhodbinagaa
open Go.RowKit Go.Maps
set_option maxRecDepth 100000

namespace PS.Wf
variable {s : PS}
theorem head (h : s.Wf) {c : Nat} {k : Int × Int} {rest : List (Int × Int)} (hu : s.u c = k :: rest) : ∃ x ∈ s.L, x.k = k ∧ x.cls = (c : Int) ∧ 0 < x.pend ∧ fnd s.L k = some x ∧ ofK s.L k = x := by
  obtain ⟨x, hx, h1, h2, h3⟩ := (h.uin c k).1 (by rw [hu]; simp)
  have hf := fnd_of h.nd hx
  rw [h1] at hf
  exact ⟨x, hx, h1, h2, h3, hf, by simp [ofK, hf]⟩
/-- What a turn is. -/
structure Turn (s s' : PS) (x : Kn) (c : Nat) (rest : List (Int × Int)) : Prop where
  t : turnOf s = (c, true, s'.run)
  c2 : c < 2
  u : s.u c = x.k :: rest
  mem : x ∈ s.L
  f : fnd s.L x.k = some x
  cls : x.cls = (c : Int)
  pos : 0 < x.pend
  s' : s' = { s with run := s'.run, total := s.total + 1, u := upd s.u c (if 1 < x.pend then rest ++ [x.k] else rest), L := setK s.L (told x) }
theorem turn_inv (h : s.Wf) {s' : PS} {x : Kn} (ht : tickS s = some (s', x)) : ∃ c rest, Turn s s' x c rest := by
  unfold tickS at ht
  split at ht
  · cases ht
  · next k rest hu =>
    simp only [Option.some.injEq, Prod.mk.injEq] at ht
    obtain ⟨rfl, hx⟩ := ht
    obtain ⟨y, hy, h1, h2, h3, h4, h5⟩ := h.head hu
    rw [h5] at hx
    subst hx
    have hc : (turnOf s).1 < 2 := by
      unfold turnOf
      repeat' split
      all_goals simp
    have hok : (turnOf s).2.1 = true := by
      unfold turnOf at hu ⊢
      split
      · rfl
      · split
        · rfl
        · split
          · rfl
          · next g1 g2 g3 =>
            rw [if_neg g1, if_neg g2, if_neg g3] at hu
            simp only [hu] at g3
            simp at g3
    refine ⟨(turnOf s).1, rest, ⟨?_, hc, by rw [hu, h1], hy, by rw [h1]; exact h4, h2, h3, by rw [h5, h1]⟩⟩
    dsimp only
    rw [← hok]
theorem tick (h : s.Wf) {s' : PS} {x : Kn} (ht : tickS s = some (s', x)) : s'.Wf := by
  obtain ⟨c, rest, t⟩ := h.turn_inv ht
  have hs := t.s'
  have hp1 := h.p1 x t.mem
  have hi0 := h.i0 x t.mem
  have hi1 := h.i1 x t.mem
  have hpos := t.pos
  have hund := h.und c
  rw [t.u] at hund
  have hxr : x.k ∉ rest := (List.nodup_cons.1 hund).1
  have hrn := (List.nodup_cons.1 hund).2
  have hrun : 0 ≤ s'.run ∧ s'.run ≤ 4 := by
    have hr0 := h.r0
    have := t.t
    unfold turnOf at this
    split at this
    · simp only [Prod.mk.injEq] at this
      omega
    · split at this
      · simp only [Prod.mk.injEq] at this
        omega
      · split at this
        · simp only [Prod.mk.injEq] at this
          omega
        · simp only [Prod.mk.injEq] at this
          exact absurd this.2.1 (by simp)
  have hu' : s'.u = upd s.u c (if 1 < x.pend then rest ++ [x.k] else rest) := by rw [hs]
  have htot : s'.total = s.total + 1 := by rw [hs]
  refine h.put t.mem (x' := told x) (by rw [hs]) rfl rfl (by show 0 ≤ x.pend - 1; omega) (by show x.pend - 1 ≤ _; omega) (by show 0 ≤ x.iss + 1; omega) (by show x.iss + 1 ≤ s'.total; omega) (by omega) (by rw [hs]) hrun.1 hrun.2 ?_ ?_
  · intro d
    rw [hu']
    unfold upd
    split
    · split
      · rw [List.nodup_append]
        refine ⟨hrn, by simp, fun a ha b hb e => ?_⟩
        rw [List.mem_singleton] at hb
        subst hb
        subst e
        exact hxr ha
      · exact hrn
    · exact h.und d
  · intro d k
    rw [hu']
    have hcls := t.cls
    unfold upd
    show _ ↔ if k = x.k then x.cls = (d : Int) ∧ 0 < x.pend - 1 else _
    by_cases e : d = c
    · subst e
      rw [if_pos rfl]
      by_cases ek : k = x.k
      · rw [if_pos ek, ek]
        split
        · simp
          omega
        · exact ⟨fun h => absurd h hxr, fun h => absurd h.2 (by omega)⟩
      · rw [if_neg ek, t.u, List.mem_cons]
        split
        · rw [List.mem_append, List.mem_singleton]
          exact ⟨fun h => h.elim .inr (fun e => absurd e ek), fun h => h.elim (fun e => absurd e ek) .inl⟩
        · exact ⟨.inr, fun h => h.elim (fun e => absurd e ek) id⟩
    · rw [if_neg e]
      by_cases ek : k = x.k
      · rw [if_pos ek, ek]
        constructor
        · intro hk
          obtain ⟨y, hy, e1, e2, _⟩ := (h.uin d x.k).1 hk
          rw [one_of h.nd hy t.mem e1] at e2
          omega
        · rintro ⟨h1, _⟩
          omega
      · rw [if_neg ek]
/-- A turn when something waits. -/
theorem tick_some (h : s.Wf) {c : Nat} (hc : c < 2) (hu : s.u c ≠ []) : ∃ s' x, tickS s = some (s', x) := by
  have hl : 0 < (s.u c).length := List.length_pos_iff.2 hu
  have key : s.u (turnOf s).1 ≠ [] := by
    intro hn
    have hz : (s.u (turnOf s).1).length = 0 := by rw [hn]; rfl
    unfold turnOf at hz
    by_cases a1 : 0 < (s.u 1).length ∧ (s.u 0).length = 0
    · rw [if_pos a1] at hz
      dsimp only at hz
      omega
    · rw [if_neg a1] at hz
      by_cases a2 : 0 < (s.u 1).length ∧ s.run < 4
      · rw [if_pos a2] at hz
        dsimp only at hz
        omega
      · rw [if_neg a2] at hz
        by_cases a3 : 0 < (s.u 0).length
        · rw [if_pos a3] at hz
          dsimp only at hz
          omega
        · obtain rfl | rfl : c = 0 ∨ c = 1 := by omega
          · exact a3 hl
          · exact a1 ⟨hl, by omega⟩
  unfold tickS
  split
  · next hn => exact absurd hn key
  · exact ⟨_, _, rfl⟩
theorem tick_none (h : s.Wf) (h0 : s.u 0 = []) (h1 : s.u 1 = []) : tickS s = none ∧ turnOf s = (0, false, s.run) := by
  have ht : turnOf s = (0, false, s.run) := by
    unfold turnOf
    simp [h0, h1]
  refine ⟨?_, ht⟩
  unfold tickS
  rw [ht]
  simp only [h0]
end PS.Wf

theorem owe_w {w : World} {p : Nat} {s : PS} {T : Nat → Prop} (h : Pq w p s T) (hw : s.Wf) (n : Int) (x : Kn) (hx : x ∈ s.L) (h1 : 1 ≤ n) (h2 : n ≤ 1152921504606846976 - x.pend) :
    Calls Try.prog 11 #[.pointer (some ⟨p, 0, none⟩), kV x.k, .int .i64 n] w fun e w' => e = .returned (.int .i64 0) ∧ Pstep w w' p (oweS s x n) T := by
  have hf := fnd_of hw.nd hx
  have hl : s.L.length < 1000000 := by have := hw.m1; have := hw.m2; omega
  have hn : x.pend = 0 → ∀ c, x.k ∉ s.u c := fun e c hk => by
    obtain ⟨y, hy, e1, _, e3⟩ := (hw.uin c x.k).1 hk
    rw [one_of hw.nd hy hx e1] at e3
    omega
  rcases hw.cls x hx with hc | hc
  · have ht : x.cls.toNat = 0 := by omega
    have := owe_p0 h x.k n x (hw.may x hx).wf hf hc h1 h2 (hw.p0 x hx) (hw.p1 x hx) hl (fun e => hw.ulen1 0 hx (hn e 0))
    unfold oweS
    rw [ht]
    exact this
  · have ht : x.cls.toNat = 1 := by omega
    have := owe_p1 h x.k n x (hw.may x hx).wf hf hc h1 h2 (hw.p0 x hx) (hw.p1 x hx) hl (fun e => hw.ulen1 1 hx (hn e 1))
    unfold oweS
    rw [ht]
    exact this
theorem tick_w {w : World} {p : Nat} {s s' : PS} {T : Nat → Prop} {x : Kn} (h : Pq w p s T) (hw : s.Wf) (ht : tickS s = some (s', x)) (h0 : s.total < 1152921504606846976) :
    Calls Try.prog 12 #[.pointer (some ⟨p, 0, none⟩)] w fun e w' => e = .returned (.tuple #[.agg #[.int .i64 x.k.1, .int .i64 x.k.2, .int .i64 (x.iss + 1)], .bool true]) ∧ Pstep w w' p s' T := by
  obtain ⟨c, rest, t⟩ := hw.turn_inv ht
  have hl : s.L.length < 1000000 := by have := hw.m1; have := hw.m2; omega
  have hs := t.s'
  have hpos := t.pos
  have hc2 := t.c2
  rw [hs]
  obtain rfl | rfl : c = 0 ∨ c = 1 := by omega
  · exact tick_p0 h hw.r0 hw.r1 s'.run t.t x.k rest t.u (hw.ulen 0) x (hw.may x t.mem).wf t.f t.cls (by omega) (hw.p1 x t.mem) (hw.i0 x t.mem) (hw.i1 x t.mem) h0 hl
  · exact tick_p1 h hw.r0 hw.r1 s'.run t.t x.k rest t.u (hw.ulen 1) x (hw.may x t.mem).wf t.f t.cls (by omega) (hw.p1 x t.mem) (hw.i0 x t.mem) (hw.i1 x t.mem) h0 hl
set_option maxHeartbeats 1600000 in
theorem tick_wno {w : World} {p : Nat} {s : PS} {T : Nat → Prop} (h : Pq w p s T) (hw : s.Wf) (hu0 : s.u 0 = []) (hu1 : s.u 1 = []) :
    Calls Try.prog 12 #[.pointer (some ⟨p, 0, none⟩)] w fun e w' => e = .returned (.tuple #[.agg #[.int .i64 0, .int .i64 0, .int .i64 0], .bool false]) ∧ Pstep w w' p s T := by
  have hT := h
  obtain ⟨b, r, U, h, hTT⟩ := h
  have h1 := hw.r0
  have h2 := hw.r1
  have ht := (hw.tick_none hu0 hu1).2
  have hn1 := New.alloc1 w (.cells #[.int .i64 0, .int .i64 0, .int .i64 0] 32)
  have hq1 : Pq (w.alloc (.cells #[.int .i64 0, .int .i64 0, .int .i64 0] 32)) p s T := hT.new hn1
  have h1' := h.new hn1
  have hrb := blk_new w (.cells #[.int .i64 0, .int .i64 0, .int .i64 0] 32)
  have hpk : p < w.heap.size := h.lt
  have hlt := hT
  go_enter Try.func12, Try.ntmps12
  go_wp2_with fail
  refine (none_p hq1).mono ?_
  rintro e w1 ⟨rfl, e1⟩
  rw [e1] at hn1 hq1 h1' hrb
  clear e1
  go_wp2_with fail
  refine (turn_p h1' h1 h2 0 false s.run ht).mono ?_
  rintro e w2 ⟨rfl, h2', he2⟩
  have hr2 := he2.keep hrb (by omega)
  have a0 := (blk_cell hr2 0).trans rfl
  have a1 := (blk_cell hr2 1).trans rfl
  have a2 := (blk_cell hr2 2).trans rfl
  have b0 := blk_free hr2 0
  have b1 := blk_free hr2 1
  have b2 := blk_free hr2 2
  go_wp2_with fail
  have e10 : Ext (fun j => j = w.heap.size) w2 (((w2.setCell ⟨w.heap.size, 0, none⟩ (.int .i64 0)).setCell ⟨w.heap.size, 1, none⟩ (.int .i64 0)).setCell ⟨w.heap.size, 2, none⟩ (.int .i64 0)) := (((Ext.refl _ _).set (by rfl)).set (by rfl)).set (by rfl)
  have hb10 := blk_set (blk_set (blk_set hr2 0 (.int .i64 0)) 1 (.int .i64 0)) 2 (.int .i64 0)
  have g0 := (blk_cell hb10 0).trans rfl
  have g1 := (blk_cell hb10 1).trans rfl
  have g2 := (blk_cell hb10 2).trans rfl
  have hTlt : ∀ j, T j → j < w.heap.size := fun j hj => hT.lt hj
  have hq2 : Pq w2 p s T := ⟨b, r, U, h2', hTT⟩
  have hq3 := hq2.keep e10 (fun j hj e => by have := hTlt j hj; omega)
  refine bodyPost_ret (v := .tuple #[.agg #[.int .i64 0, .int .i64 0, .int .i64 0], .bool false]) (by simp [results, Try.results12, go_sem, g0, g1, g2]) rfl ?_
  refine ⟨rfl, T, hq3, (hn1.to.trans he2 (fun j _ e => e ▸ (hTT p).2 (.inl rfl))).trans e10 (fun j hj e => by omega), fun k hk => .inl hk⟩
end Go.Proofs.Ytmonhhodbinagaa
