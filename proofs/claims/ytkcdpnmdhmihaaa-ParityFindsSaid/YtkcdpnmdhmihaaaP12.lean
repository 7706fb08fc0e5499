/- An argument that is a slice of byte slices, opened; the law in the row's words. -/
import Derived.Test.YtkcdpnmdhmihaaaP11
namespace Go.Proofs.Ytkcdpnmdhmihaaa
open Go.RowKit Go.ChangeShapes Go.WideShapes
set_option maxRecDepth 100000

theorem flat_map1 (l : List Pc) : (l.flatMap fun p : Pc => [p.v]) = l.map Pc.v := by
  induction l with
  | nil => rfl
  | cons p l ih => rw [List.flatMap_cons, ih, List.map_cons]; rfl
theorem open_piece {H : Type} {enc : TypeId × Value → H} {W : World} : ∀ (n : Nat) (cs : List Value) (y : DataW H × List MemPlace), DataW.trod enc Try.prog W 0 (fun _ => true) true n 23 cs = some y → Light Try.prog 23 y.1 →
    ∃ p : Pc, cs = [p.v] ∧ (Rd W 1 p.a p.n p.c (bts p.b) ∧ isB p.b) := by
  intro n cs y h _
  rcases open_ints Try.underlying23 Try.underlying5 (by kernel_rfl) h with ⟨rfl, _⟩ | ⟨x, l, c, zs, rfl, _, hl, hm, hz, hx, hcell, hwf⟩
  · exact ⟨⟨none, 0, 0, []⟩, rfl, Rd.nil W 1, isB.nil⟩
  · have hz' : zs.length = c := by simpa using hz
    refine ⟨⟨some x, l, c, zs.take l⟩, rfl, ⟨by simp [bts]; omega, hl, by simp only [maxLen] at hm; omega, (fun h => by cases h), bts_one _, ?_⟩, fun y hy => by have := bounds_u8 (hwf y (List.mem_of_mem_take hy)); omega⟩
    intro ad e j u hu
    cases e
    rw [bts, List.getElem?_map] at hu
    obtain ⟨y, hy, rfl⟩ := Option.map_eq_some_iff.1 hu
    rw [List.getElem?_take] at hy
    split at hy
    · rename_i hj
      rw [hcell j (by omega), List.getD_eq_getElem?_getD, hy]
      rfl
    · cases hy

theorem open_rows23 {H : Type} {enc : TypeId × Value → H} {W : World} {a : Option Addr} {n c : Nat} {d : DataW H} {ps : List MemPlace} {ts : List TypeId} {ds : List (DataW H)} {j t : Nat}
    (hsz : (DataW.weightsEach Try.prog ts ds).all (· ≤ reachBytes) = true) (ht : ts[j]? = some t) (hd : ds[j]? = some d) (e : t = 22) (h : DataW.Trod enc Try.prog W 0 (fun _ => true) true 22 (.slice a n c) d ps) :
    ∃ l : List Pc, Rows W a n c l ∧ True := by
  subst e
  obtain ⟨l, _, hr, hw, _⟩ := open_rows (E := fun p : Pc => [p.v]) (wf := fun p => Rd W 1 p.a p.n p.c (bts p.b) ∧ isB p.b) (sz := 1) (B := 24) Try.underlying22 (by kernel_rfl) (by kernel_rfl) (fun _ => rfl) (fun a _ u hu => by simp at hu; subst hu; rfl) open_piece (Light.at_ hsz ht hd) h
  rw [flat_map1] at hr
  exact ⟨l, ⟨hr, hw⟩, trivial⟩

theorem law_makes (A : Option Addr) (n c : Nat) (L : List Pc) (B : Option Addr) (m d : Nat) (k : List Int) (w : World) (h : Rows w A n c L) (_ : True) (hk : Rd w 1 B m d (k.map (Value.int .u8))) (hkB : ∀ x ∈ k, (Lit.int .u8 x).wf = true) (_ : m * 1 ≤ 140737488351232) :
    Calls Try.prog 3 #[.slice A n c, .slice B m d] w fun e w' => e = .returned (.bool true) ∧ New w w' :=
  law_makes_walk A n c L B m d k w h hk (fun x hx => by have := bounds_u8 (hkB x hx); omega)
end Go.Proofs.Ytkcdpnmdhmihaaa
