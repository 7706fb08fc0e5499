/- Plain: what calls make of a pacer's state, and that it stays well. -/
import Derived.Test.YtmonhhodbinagaaK7
namespace Go.Proofs.Ytmonhhodbinagaa
open Go.RowKit Go.Maps
set_option maxRecDepth 100000

def knowS (s : PS) (k : Int × Int) (c : Int) : PS := { s with L := s.L ++ [⟨k, c, 0, 0⟩] }
def oweS (s : PS) (x : Kn) (n : Int) : PS := { s with u := if x.pend = 0 then upd s.u x.cls.toNat (s.u x.cls.toNat ++ [x.k]) else s.u, L := setK s.L { x with pend := x.pend + n } }
/-- One that was told. -/
def told (x : Kn) : Kn := { x with pend := x.pend - 1, iss := x.iss + 1 }
/-- A turn: the state behind it, and who was told. -/
def tickS (s : PS) : Option (PS × Kn) :=
  match s.u (turnOf s).1 with
  | [] => none
  | k :: rest =>
    let x := ofK s.L k
    some ({ s with run := (turnOf s).2.2, total := s.total + 1, u := upd s.u (turnOf s).1 (if 1 < x.pend then rest ++ [k] else rest), L := setK s.L (told x) }, x)
theorem mem_setK {L : List Kn} {x y : Kn} (h : y ∈ setK L x) : (y = x ∧ ∃ z ∈ L, z.k = x.k) ∨ (y ∈ L ∧ y.k ≠ x.k) := by
  unfold setK at h
  obtain ⟨z, hz, rfl⟩ := List.mem_map.1 h
  by_cases e : z.k = x.k
  · rw [if_pos e]
    exact .inl ⟨rfl, z, hz, e⟩
  · rw [if_neg e]
    exact .inr ⟨hz, e⟩
theorem setK_self {L : List Kn} {x z : Kn} (hz : z ∈ L) (e : z.k = x.k) : x ∈ setK L x := by
  unfold setK
  exact List.mem_map.2 ⟨z, hz, if_pos e⟩
theorem setK_other {L : List Kn} {x y : Kn} (hy : y ∈ L) (e : y.k ≠ x.k) : y ∈ setK L x := by
  unfold setK
  exact List.mem_map.2 ⟨y, hy, if_neg e⟩
/-- One of a key. -/
theorem one_of {L : List Kn} (hn : (L.map Kn.k).Nodup) {x y : Kn} (hx : x ∈ L) (hy : y ∈ L) (e : x.k = y.k) : x = y := by
  have h1 := fnd_of hn hx
  rw [e, fnd_of hn hy] at h1
  exact (Option.some.inj h1).symm
namespace PS.Wf
variable {s : PS}
theorem fresh {most : Int} (h1 : 1 ≤ most) (h2 : most ≤ 512) : (fresh most).Wf where
  nd := by simp [Go.Proofs.Ytmonhhodbinagaa.fresh]
  may := by simp [Go.Proofs.Ytmonhhodbinagaa.fresh]
  cls := by simp [Go.Proofs.Ytmonhhodbinagaa.fresh]
  p0 := by simp [Go.Proofs.Ytmonhhodbinagaa.fresh]
  p1 := by simp [Go.Proofs.Ytmonhhodbinagaa.fresh]
  i0 := by simp [Go.Proofs.Ytmonhhodbinagaa.fresh]
  i1 := by simp [Go.Proofs.Ytmonhhodbinagaa.fresh]
  und := by simp [Go.Proofs.Ytmonhhodbinagaa.fresh]
  uin := by simp [Go.Proofs.Ytmonhhodbinagaa.fresh]
  m1 := by simp [Go.Proofs.Ytmonhhodbinagaa.fresh]; omega
  m2 := h2
  r0 := by simp [Go.Proofs.Ytmonhhodbinagaa.fresh]
  r1 := by simp [Go.Proofs.Ytmonhhodbinagaa.fresh]
  t0 := by simp [Go.Proofs.Ytmonhhodbinagaa.fresh]
theorem know (h : s.Wf) {k : Int × Int} {c : Int} (hk : Go.Proofs.Ytmonhhodbinagaa.may k) (hc : c = 0 ∨ c = 1) (hn : fnd s.L k = none) (hm : (s.L.length : Int) < s.most) : (knowS s k c).Wf := by
  have hall : ∀ x ∈ (knowS s k c).L, x ∈ s.L ∨ x = ⟨k, c, 0, 0⟩ := fun x hx => by simpa [knowS] using hx
  refine ⟨?_, ?_, ?_, ?_, ?_, ?_, ?_, h.und, ?_, ?_, h.m2, h.r0, h.r1, h.t0⟩
  · show ((s.L ++ [_]).map Kn.k).Nodup
    rw [List.map_append, List.nodup_append]
    refine ⟨h.nd, by simp, ?_⟩
    intro a ha b hb e
    simp only [List.map_cons, List.map_nil, List.mem_singleton] at hb
    subst hb
    obtain ⟨y, hy, rfl⟩ := List.mem_map.1 ha
    exact fnd_none.1 hn y hy e
  · intro x hx
    rcases hall x hx with hx | rfl
    · exact h.may x hx
    · exact hk
  · intro x hx
    rcases hall x hx with hx | rfl
    · exact h.cls x hx
    · exact hc
  · intro x hx
    rcases hall x hx with hx | rfl
    · exact h.p0 x hx
    · exact Int.le_refl _
  · intro x hx
    rcases hall x hx with hx | rfl
    · exact h.p1 x hx
    · show (0 : Int) ≤ _
      omega
  · intro x hx
    rcases hall x hx with hx | rfl
    · exact h.i0 x hx
    · exact Int.le_refl _
  · intro x hx
    rcases hall x hx with hx | rfl
    · exact h.i1 x hx
    · exact h.t0
  · intro d l
    rw [show (knowS s k c).u = s.u from rfl, h.uin d l]
    constructor
    · rintro ⟨x, hx, h1, h2, h3⟩
      exact ⟨x, by simp [knowS, hx], h1, h2, h3⟩
    · rintro ⟨x, hx, h1, h2, h3⟩
      rcases hall x hx with hx | rfl
      · exact ⟨x, hx, h1, h2, h3⟩
      · exact absurd h3 (by simp)
  · show ((s.L ++ [_]).length : Int) ≤ s.most
    simp
    omega
/-- A row of keys and a known that is put anew. -/
theorem put (h : s.Wf) {x : Kn} (hx : x ∈ s.L) {s' : PS} {x' : Kn} (hL : s'.L = setK s.L x') (hk : x'.k = x.k) (hc : x'.cls = x.cls) (hp0 : 0 ≤ x'.pend) (hp1 : x'.pend ≤ 1152921504606846976) (hi0 : 0 ≤ x'.iss) (hi1 : x'.iss ≤ s'.total) (ht : s.total ≤ s'.total) (hm : s'.most = s.most) (hr0 : 0 ≤ s'.run) (hr1 : s'.run ≤ 4)
    (hund : ∀ c, (s'.u c).Nodup) (huin : ∀ (c : Nat) k, k ∈ s'.u c ↔ if k = x.k then x'.cls = (c : Int) ∧ 0 < x'.pend else k ∈ s.u c) : s'.Wf := by
  have hall : ∀ y ∈ s'.L, y = x' ∨ (y ∈ s.L ∧ y.k ≠ x'.k) := fun y hy => by
    rw [hL] at hy
    exact (mem_setK hy).imp (fun h => h.1) id
  refine ⟨by rw [hL, setK_keys]; exact h.nd, ?_, ?_, ?_, ?_, ?_, ?_, hund, ?_, by rw [hL, setK_len, hm]; exact h.m1, by rw [hm]; exact h.m2, hr0, hr1, Int.le_trans h.t0 ht⟩
  · intro y hy
    rcases hall y hy with rfl | ⟨hy, _⟩
    · rw [hk]
      exact h.may x hx
    · exact h.may y hy
  · intro y hy
    rcases hall y hy with rfl | ⟨hy, _⟩
    · rw [hc]
      exact h.cls x hx
    · exact h.cls y hy
  · intro y hy
    rcases hall y hy with rfl | ⟨hy, _⟩
    · exact hp0
    · exact h.p0 y hy
  · intro y hy
    rcases hall y hy with rfl | ⟨hy, _⟩
    · exact hp1
    · exact h.p1 y hy
  · intro y hy
    rcases hall y hy with rfl | ⟨hy, _⟩
    · exact hi0
    · exact h.i0 y hy
  · intro y hy
    rcases hall y hy with rfl | ⟨hy, _⟩
    · exact hi1
    · exact Int.le_trans (h.i1 y hy) ht
  · intro c k
    rw [huin]
    by_cases e : k = x.k
    · rw [if_pos e]
      constructor
      · rintro ⟨h1, h2⟩
        exact ⟨x', by rw [hL]; exact setK_self hx hk.symm, by rw [e, hk], h1, h2⟩
      · rintro ⟨y, hy, h1, h2, h3⟩
        rcases hall y hy with rfl | ⟨_, hne⟩
        · exact ⟨h2, h3⟩
        · exact absurd (h1.trans (e.trans hk.symm)) hne
    · rw [if_neg e, h.uin c k]
      constructor
      · rintro ⟨y, hy, h1, h2, h3⟩
        exact ⟨y, by rw [hL]; exact setK_other hy (fun e2 => e (h1.symm.trans (e2.trans hk))), h1, h2, h3⟩
      · rintro ⟨y, hy, h1, h2, h3⟩
        rcases hall y hy with rfl | ⟨hy, _⟩
        · exact absurd (h1.symm.trans hk) e
        · exact ⟨y, hy, h1, h2, h3⟩
theorem cls_nat (h : s.Wf) {x : Kn} (hx : x ∈ s.L) : (x.cls.toNat : Int) = x.cls := by
  have := h.cls x hx
  omega
theorem owe (h : s.Wf) {x : Kn} (hx : x ∈ s.L) {n : Int} (h1 : 1 ≤ n) (h2 : n ≤ 1152921504606846976 - x.pend) : (oweS s x n).Wf := by
  have hp := h.p0 x hx
  have hcn := h.cls_nat hx
  have hun : ∀ c, x.k ∈ s.u c ↔ x.cls = (c : Int) ∧ 0 < x.pend := fun c => by
    rw [h.uin]
    constructor
    · rintro ⟨y, hy, e, h2, h3⟩
      rw [← one_of h.nd hy hx e]
      exact ⟨h2, h3⟩
    · rintro ⟨h2, h3⟩
      exact ⟨x, hx, rfl, h2, h3⟩
  refine h.put hx (x' := { x with pend := x.pend + n }) rfl rfl rfl (by dsimp only; omega) (by dsimp only; omega) (h.i0 x hx) (h.i1 x hx) (Int.le_refl _) rfl h.r0 h.r1 ?_ ?_
  · intro c
    show (if x.pend = 0 then upd s.u x.cls.toNat (s.u x.cls.toNat ++ [x.k]) else s.u) c |>.Nodup
    by_cases hz : x.pend = 0
    · rw [if_pos hz]
      unfold upd
      split
      · rw [List.nodup_append]
        refine ⟨h.und _, by simp, fun a ha b hb e => ?_⟩
        rw [List.mem_singleton] at hb
        subst hb
        subst e
        exact absurd ((hun _).1 ha).2 (by omega)
      · exact h.und c
    · rw [if_neg hz]
      exact h.und c
  · intro c k
    show k ∈ (if x.pend = 0 then upd s.u x.cls.toNat (s.u x.cls.toNat ++ [x.k]) else s.u) c ↔ if k = x.k then x.cls = (c : Int) ∧ 0 < x.pend + n else k ∈ s.u c
    by_cases hz : x.pend = 0
    · rw [if_pos hz]
      unfold upd
      by_cases e : c = x.cls.toNat
      · rw [if_pos e, ← e, List.mem_append, List.mem_singleton]
        by_cases ek : k = x.k
        · rw [if_pos ek]
          exact ⟨fun _ => ⟨by omega, by omega⟩, fun _ => .inr ek⟩
        · rw [if_neg ek]
          exact ⟨fun h => h.elim id (fun e => absurd e ek), .inl⟩
      · rw [if_neg e]
        by_cases ek : k = x.k
        · rw [if_pos ek, ek, hun]
          exact ⟨fun h => absurd h.2 (by omega), fun h => absurd h.1 (by omega)⟩
        · rw [if_neg ek]
    · rw [if_neg hz]
      by_cases ek : k = x.k
      · rw [if_pos ek, ek, hun]
        exact ⟨fun h => ⟨h.1, by omega⟩, fun h => ⟨h.1, by omega⟩⟩
      · rw [if_neg ek]
end PS.Wf
end Go.Proofs.Ytmonhhodbinagaa
