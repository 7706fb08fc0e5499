/- A meter and what came: one word for both; a number's coming, whole. -/
import Derived.Test.YtconaojkonjheaaT7
namespace Go.Proofs.Ytconaojkonjheaa
open Go.RowKit Go.Maps
set_option maxRecDepth 100000

/-- A report. -/
structure Rp where
  came : Int
  rep : Int
  reo : Int
  ext : Int
  late : Int
  held : Int
noncomputable def rp1 (s : List Int × Rp) (x : Int) : List Int × Rp :=
  (s.1 ++ [x], ⟨s.2.came + 1, if x ∈ s.1 then s.2.rep + 1 else s.2.rep, if 0 < extF s.1 x then s.2.reo + 1 else s.2.reo, mx s.2.ext (extF s.1 x), mx s.2.late (lateF s.1 x), mx s.2.held (heldF (s.1 ++ [x]))⟩)
noncomputable def RPs (l : List Int) : List Int × Rp := l.foldl rp1 ([], ⟨0, 0, 0, 0, 0, 0⟩)
noncomputable def RP (l : List Int) : Rp := (RPs l).2
theorem RPs_snoc (l : List Int) (x : Int) : RPs (l ++ [x]) = rp1 (RPs l) x := by
  unfold RPs
  rw [List.foldl_append]
  rfl
theorem RPs_fst (l : List Int) : (RPs l).1 = l := by
  induction l using snoc_ind with
  | h0 => rfl
  | h1 l x ih => rw [RPs_snoc]; show (RPs l).1 ++ [x] = _; rw [ih]
theorem RP_nil : RP [] = ⟨0, 0, 0, 0, 0, 0⟩ := rfl
theorem RP_snoc (l : List Int) (x : Int) : RP (l ++ [x]) = ⟨(RP l).came + 1, if x ∈ l then (RP l).rep + 1 else (RP l).rep, if 0 < extF l x then (RP l).reo + 1 else (RP l).reo, mx (RP l).ext (extF l x), mx (RP l).late (lateF l x), mx (RP l).held (heldF (l ++ [x]))⟩ := by
  unfold RP
  rw [RPs_snoc]
  unfold rp1
  rw [RPs_fst]
theorem RP_bounds (l : List Int) : (RP l).came = l.length ∧ 0 ≤ (RP l).rep ∧ (RP l).rep ≤ l.length ∧ 0 ≤ (RP l).reo ∧ (RP l).reo ≤ l.length ∧ 0 ≤ (RP l).held := by
  induction l using snoc_ind with
  | h0 => rw [RP_nil]; simp
  | h1 l x ih =>
    rw [RP_snoc]
    obtain ⟨h1, h2, h3, h4, h5, h6⟩ := ih
    have hx : 0 ≤ mx (RP l).held (heldF (l ++ [x])) := by rw [mx_eq]; omega
    simp only [List.length_append, List.length_singleton, Int.natCast_add]
    refine ⟨by omega, ?_, ?_, ?_, ?_, hx⟩ <;> split <;> omega
theorem RP_held (l : List Int) : heldF l ≤ (RP l).held := by
  induction l using snoc_ind with
  | h0 => rw [RP_nil]; simp [heldF, seenOf]
  | h1 l x ih => rw [RP_snoc]; show heldF (l ++ [x]) ≤ mx _ _; rw [mx_eq]; omega

/-- A meter to which l came. -/
structure MS (w : World) (p b : Nat) (A : Option Addr) (n c : Nat) (l : List Int) (hs : List (Int × Int)) : Prop where
  met : Met w p b A n c (RP l).came (RP l).rep (RP l).reo (RP l).ext (RP l).late (RP l).held (seenOf l) hs (mexOf l)
  hs_ : HS l hs
  le : hs.length ≤ l.length
theorem extF_old {l : List Int} {x : Int} (h : x ∈ l) : extF l x = 0 := if_pos h
theorem lateF_old {l : List Int} {x : Int} (h : x ∈ l) : lateF l x = 0 := if_pos h

set_option maxHeartbeats 1000000 in
theorem add_ms (p b : Nat) (A : Option Addr) (nh ch : Nat) (l : List Int) (hs : List (Int × Int)) (x : Int) (w : World) (hm : MS w p b A nh ch l hs) (hx : mayN x) (hl : ∀ y ∈ l, mayN y) (hl4 : l.length ≤ 4096) :
    Calls Try.prog 33 #[.pointer (some ⟨p, 0, none⟩), .int .i64 x] w fun e w' => e = .returned (.tuple #[.int .i64 (extF l x), .int .i64 (lateF l x)]) ∧ ∃ A' n' c' hs', MS w' p b A' n' c' (l ++ [x]) hs' ∧ Ext (Tm p b A) w w' ∧ (∀ k, inA A' k → inA A k ∨ w.heap.size ≤ k) := by
  obtain ⟨b1, b2, b3, b4, b5, b6⟩ := RP_bounds l
  have hlen := hm.met.own.rd.lenh
  have hle := hm.le
  by_cases hin : x ∈ l
  · refine (add_dup p b A nh ch _ _ _ _ _ _ (seenOf l) hs (mexOf l) x w hm.met hx ((mem_seenOf l x).2 hin) (by omega) (by omega) (by omega)).mono ?_
    rintro e w' ⟨rfl, hm', he⟩
    rw [extF_old hin, lateF_old hin]
    have h1 : seenOf (l ++ [x]) = seenOf l := by rw [seenOf_snoc, if_pos ((mem_seenOf l x).2 hin)]
    have h2 : mexOf (l ++ [x]) = mexOf l := mexOf_congr (fun y => by rw [List.mem_append, List.mem_singleton]; exact ⟨fun h' => h'.elim id (fun e => e ▸ hin), .inl⟩)
    refine ⟨rfl, A, nh, ch, hs, ⟨?_, hm.hs_.snoc_old ?_, by simp; omega⟩, he.mono (fun k _ e => .inl e), fun k hk => .inl hk⟩
    · rw [RP_snoc, h1, h2, extF_old hin, lateF_old hin, if_pos hin, heldF_dup l x hin]
      have h3 : mx (RP l).held (heldF l) = mx (RP l).held 0 := by
        have := RP_held l
        have := heldF_nonneg l
        rw [mx_eq, mx_eq]
        omega
      rw [h3]
      exact hm'
    · obtain ⟨j, hj, hjx⟩ := List.getElem_of_mem hin
      obtain ⟨v, hv, _, hxv⟩ := hm.hs_.all j x (by rw [List.getElem?_eq_getElem hj, hjx])
      exact ⟨v, hv, hxv⟩
  · have hsn : seenOf (l ++ [x]) = seenOf l ++ [x] := by rw [seenOf_snoc, if_neg (fun h => hin ((mem_seenOf l x).1 h))]
    have hmem : ∀ y : Int, y ∈ seenOf l ++ [x] ↔ y ∈ l ++ [x] := fun y => by rw [List.mem_append, List.mem_append, mem_seenOf]
    have hmx := mexOf_spec (l ++ [x])
    have hnn : ∀ y ∈ l ++ [x], 0 ≤ y := fun y hy => by
      rcases List.mem_append.1 hy with hy | hy
      · exact (hl y hy).1
      · cases List.mem_singleton.1 hy; exact hx.1
    obtain ⟨hh1, hh2⟩ := heldF_eq (l ++ [x]) hnn
    have hsl := seenOf_len l
    have hsl2 : (seenOf (l ++ [x])).length = (seenOf l).length + 1 := by rw [hsn]; simp
    refine (add_new p b A nh ch _ _ _ _ _ _ (seenOf l) hs (mexOf l) (mexOf (l ++ [x])) x w hm.met hx (fun h => hin ((mem_seenOf l x).1 h)) (by omega) (by omega) (by omega) (by omega)
      (fun v hv => by have := hm.hs_.mem hv; exact ⟨hl _ this.1, by omega, by omega, (mem_seenOf l _).2 this.1⟩) (mexOf_snoc_le l x) (fun h => hmx.1 ((hmem _).1 h)) (fun k _ hk => (hmem _).2 (hmx.2 k hk)) (by omega)).mono ?_
    rintro e w' ⟨k, A', n', c', y, z, hs', rfl, hF, hm', halt, he, hf⟩
    have hres : y = extF l x ∧ z = lateF l x ∧ HS (l ++ [x]) hs' ∧ hs'.length ≤ (l ++ [x]).length := by
      unfold extF lateF
      rw [if_neg hin, if_neg hin]
      rcases halt with ⟨u, v, hu, hv, rfl, rfl, rfl⟩ | ⟨hk, rfl, rfl, rfl⟩
      · have hkl := (List.getElem?_eq_some_iff.1 hu).1
        obtain ⟨e1, e2⟩ := hm.hs_.some hF hkl hu
        have hxu := hF.2.2 k u (Nat.le_refl _) hu
        obtain ⟨hv1, hv2⟩ := hm.hs_.last hv
        have hxv : x < v.1 := by
          have := hv2 _ (hm.hs_.mem (List.mem_of_getElem? hu)).1
          omega
        rw [if_pos e2, lmax_above hv1 hv2 hxv]
        exact ⟨by omega, rfl, hm.hs_.snoc_old ⟨u, List.mem_of_getElem? hu, by omega⟩, by simp; omega⟩
      · have hall := hm.hs_.none hF hk
        have hnf : ¬ fabove l x < l.length := fun h => by
          obtain ⟨y, h1, h2⟩ := fabove_at l x h
          have := hall y (List.mem_of_getElem? h1)
          omega
        rw [if_neg hnf, lmax_zero hall]
        refine ⟨rfl, rfl, ?_, by simp; omega⟩
        rw [b1]
        refine hm.hs_.snoc_new (fun y hy => ?_)
        have h1 := hall y hy
        have h2 : y ≠ x := fun e => hin (e ▸ hy)
        omega
    obtain ⟨rfl, rfl, hhs, hln⟩ := hres
    refine ⟨rfl, A', n', c', hs', ⟨?_, hhs, hln⟩, he, hf⟩
    rw [RP_snoc, hsn, if_neg hin, hh1, hsl2]
    exact hm'
end Go.Proofs.Ytconaojkonjheaa
