/- What a range over a map of keys needs: a key's value out of its word; a map, whatever its order. -/
import Derived.Test.YtmonhhodbinagaaK12
import Derived.Maps.RangeWalk
namespace Go.Proofs.Ytmonhhodbinagaa
open Go.RowKit Go.Maps
set_option maxRecDepth 100000

theorem cell_inv {c : Value} {d : Nat} {ls : List Lit} (h : Try.prog.keyLits (d + 1) 3 [c] = some ls) : ∃ n : Int, c = .int .i64 n ∧ (Lit.int .i64 n).wf = true := by
  unfold Program.keyLits at h
  simp only [Try.underlying3] at h
  cases c <;> simp at h
  next q n =>
    obtain ⟨⟨rfl, hw⟩, _⟩ := h
    exact ⟨n, rfl, hw⟩
theorem keyK_inv {v : Value} {kl : Lit} (h : keyOf Try.prog 30 v = some kl) : ∃ x : Int × Int, v = kV x ∧ kwf x ∧ kl = klit x := by
  have hsz := sizes1
  have h0 := h
  unfold keyOf at h
  simp only [Try.underlying30] at h
  split at h
  · next hc =>
    rw [Bool.and_eq_true] at hc
    have hf := hc.2
    unfold Value.formed at hf
    cases v <;> simp [Try.underlying30] at hf
    next cs =>
      rw [cells30] at hf
      obtain ⟨l⟩ := cs
      match l, hf with
      | [c0, c1], _ =>
        rw [hsz] at h
        unfold Program.keyLits at h
        simp only [Try.underlying30, Value.cells] at h
        split at h
        · simp only [List.mapM_cons, List.mapM_nil, cells3, List.drop_zero, List.drop_succ_cons, List.take_succ_cons, List.take_zero, Option.bind_eq_bind, Option.pure_def, Option.map_eq_some_iff, Option.bind_eq_some_iff] at h
          obtain ⟨_, ⟨_, ⟨a, h1, _, ⟨b, h2, _⟩, _⟩, _⟩, _⟩ := h
          obtain ⟨n, rfl, hn⟩ := cell_inv h1
          obtain ⟨m, rfl, hm⟩ := cell_inv h2
          refine ⟨(n, m), rfl, ⟨hn, hm⟩, ?_⟩
          have := keyK (k := (n, m)) ⟨hn, hm⟩
          rw [show kV (n, m) = Value.agg #[.int .i64 n, .int .i64 m] from rfl] at this
          exact Option.some.inj (h0.symm.trans this)
        · simp at h
  · cases h
theorem knR_all {v : Value} {y : DataW Unit} (h : knR v = some (y, [])) : ∃ x : Kn, v = knV x ∧ y = knD x := by
  unfold knR at h
  split at h
  · next a b c =>
    simp only [Option.some.injEq, Prod.mk.injEq, and_true] at h
    exact ⟨⟨(0, 0), a, b, c⟩, rfl, h.symm⟩
  · cases h
theorem fnd_same {L M : List Kn} (hL : (L.map Kn.k).Nodup) (hs : ∀ y ∈ M, y ∈ L) (hk : ∀ x ∈ L, x.k ∈ M.map Kn.k) (k : Int × Int) : fnd M k = fnd L k := by
  cases h : fnd M k with
  | some y =>
    obtain ⟨hy, rfl⟩ := fnd_mem h
    exact (fnd_of hL (hs y hy)).symm
  | none =>
    cases h2 : fnd L k with
    | none => rfl
    | some x =>
      obtain ⟨hx, rfl⟩ := fnd_mem h2
      obtain ⟨y, hy, e⟩ := List.mem_map.1 (hk x hx)
      exact absurd e (fnd_none.1 h y hy)
theorem PMap.as {w : World} {b : Nat} {L M : List Kn} (h : PMap w b M) (h0 : ∀ x ∈ L, kwf x.k) (hL : (L.map Kn.k).Nodup) (hs : ∀ y ∈ M, y ∈ L) (hk : ∀ x ∈ L, x.k ∈ M.map Kn.k) : PMap w b L := by
  have hf := fnd_same hL hs hk
  obtain ⟨_, hM, D, h1, h2, h3⟩ := h
  have hlen : M.length = L.length := by
    have p1 := nodup_le (xs := L.map Kn.k) hM (fun k hk' => by
      obtain ⟨y, hy, rfl⟩ := List.mem_map.1 hk'
      exact List.mem_map_of_mem (hs y hy))
    have p2 := nodup_le (xs := M.map Kn.k) hL (fun k hk' => by
      obtain ⟨y, hy, rfl⟩ := List.mem_map.1 hk'
      exact hk y hy)
    simp only [List.length_map] at p1 p2
    omega
  rw [hlen] at h1 h2
  exact ⟨h0, hL, D, h1, h2, fun k hk' => by rw [← hf k]; exact h3 k hk'⟩
theorem klit_same (k x : Int × Int) (hk : kwf k) (hx : kwf x) : (klit k).sameKey (klit x) = decide (k = x) := by
  by_cases e : k = x
  · subst e
    rw [decide_eq_true rfl]
    exact WideAt.sameKey_self (law30.key (keyK hk))
  · rw [decide_eq_false e]
    exact sameKey_ne (fun h => e (klit_inj hk hx h))
end Go.Proofs.Ytmonhhodbinagaa
