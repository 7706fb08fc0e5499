/- An argument that is a packet, opened; the law on turned bytes. -/
import Derived.Test.YtdgleplmmbkgfaaV22
import Derived.Test.YtdgleplmmbkgfaaR2
namespace Go.Proofs.Ytdgleplmmbkgfaa
open Go.RowKit
set_option maxRecDepth 100000

/-- A packet, and where its payload lies. -/
structure PkA where
  p : Pk
  a : Option Addr
  n : Nat
  c : Nat
abbrev PkA.v (x : PkA) : Value := pkV x.p x.a x.n x.c
def PkA.ok (w : World) (x : PkA) : Prop := PkIn w x.p x.a x.n x.c
open Go.ChangeShapes Go.WideShapes in
theorem open_pl {H : Type} {enc : TypeId × Value → H} {W : World} {n : Nat} {cs : List Value} {y : DataW H × List MemPlace} (h : DataW.trod enc Try.prog W 0 (fun _ => true) true n 23 cs = some y) :
    ∃ (A : Option Addr) (n c : Nat) (b : List Int), cs = [.slice A n c] ∧ Rd W 1 A n c (bts b) ∧ isB b := by
  rcases open_ints Try.underlying23 Try.underlying5 (by kernel_rfl) h with ⟨rfl, _⟩ | ⟨x, l, c, zs, rfl, _, hl, hm, hz, hx, hcell, hwf⟩
  · exact ⟨none, 0, 0, [], rfl, Rd.nil W 1, (fun _ h => by cases h)⟩
  · have hz' : zs.length = c := by simpa using hz
    refine ⟨some x, l, c, zs.take l, rfl, ⟨by simp [bts]; omega, hl, by simp only [maxLen] at hm; omega, (fun h => by cases h), bts_one _, ?_⟩, fun y hy => by have := wf_of_u8 (hwf y (List.mem_of_mem_take hy)); omega⟩
    intro ad e j u hu
    cases e
    rw [bts, List.getElem?_map] at hu
    obtain ⟨y, hy, rfl⟩ := Option.map_eq_some_iff.1 hu
    rw [List.getElem?_take] at hy
    split at hy
    · rename_i hj
      rw [hcell j (by omega), List.getD_eq_getElem?_getD, hy]
      rfl
    · cases hy
theorem cellsI : Try.prog.cellsOf 3 = 1 := by kernel_rfl
theorem cellsK : Try.prog.cellsOf 22 = 1 := by kernel_rfl
theorem cellsP : Try.prog.cellsOf 23 = 1 := by kernel_rfl
theorem cells9 : Try.prog.cellsOf 25 = 9 := by kernel_rfl
open Go.ChangeShapes Go.WideShapes in
theorem open_arg25 {H : Type} {enc : TypeId × Value → H} {W : World} {r : Reach} {b0 : Nat} {v : Value} {d : DataW H} {ps : List MemPlace} {ts : List TypeId} {ds : List (DataW H)} {j : Nat}
    (hv : Value.okWide Try.prog W r b0 25 v) (_ : (DataW.weightsEach Try.prog ts ds).all (· ≤ reachBytes) = true) (_ : ts[j]? = some 25) (_ : ds[j]? = some d)
    (h : DataW.Trod enc Try.prog W 0 (fun _ => true) true 25 v d ps) : ∃ x : PkA, v = x.v ∧ x.ok W := by
  obtain ⟨cs, rfl, hsz⟩ := okWide_struct Try.underlying25 hv
  rw [cells9] at hsz
  obtain ⟨fuel, hf⟩ := h
  obtain ⟨xs, n, _, _, _, hlen, hx⟩ := DataW.trod_struct Try.underlying25 hf
  obtain ⟨b0, b1, b2, b3, b4, b5, b6, b7, b8, rfl⟩ := nine hsz
  clear hsz hv hf
  have hl : xs.length = 9 := hlen
  have get : ∀ i, i < 9 → ∃ y, xs[i]? = some y := fun i hi => ⟨_, List.getElem?_eq_getElem (by omega)⟩
  obtain ⟨y0, hy0⟩ := get 0 (by omega)
  have h0 := (hx 0 _ rfl).trans hy0
  simp only [Value.cells, cellsK, List.drop_zero, List.drop_succ_cons, List.take_succ_cons, List.take_zero] at h0
  obtain ⟨a0, e0, _, _⟩ := DataW.trod_int Try.underlying22 h0
  cases e0
  obtain ⟨y1, hy1⟩ := get 1 (by omega)
  have h1 := (hx 1 _ rfl).trans hy1
  simp only [Value.cells, cellsI, List.drop_zero, List.drop_succ_cons, List.take_succ_cons, List.take_zero] at h1
  obtain ⟨a1, e1, _, _⟩ := DataW.trod_int Try.underlying3 h1
  cases e1
  obtain ⟨y2, hy2⟩ := get 2 (by omega)
  have h2 := (hx 2 _ rfl).trans hy2
  simp only [Value.cells, cellsI, List.drop_zero, List.drop_succ_cons, List.take_succ_cons, List.take_zero] at h2
  obtain ⟨a2, e2, _, _⟩ := DataW.trod_int Try.underlying3 h2
  cases e2
  obtain ⟨y3, hy3⟩ := get 3 (by omega)
  have h3 := (hx 3 _ rfl).trans hy3
  simp only [Value.cells, cellsI, List.drop_zero, List.drop_succ_cons, List.take_succ_cons, List.take_zero] at h3
  obtain ⟨a3, e3, _, _⟩ := DataW.trod_int Try.underlying3 h3
  cases e3
  obtain ⟨y4, hy4⟩ := get 4 (by omega)
  have h4 := (hx 4 _ rfl).trans hy4
  simp only [Value.cells, cellsI, List.drop_zero, List.drop_succ_cons, List.take_succ_cons, List.take_zero] at h4
  obtain ⟨a4, e4, _, _⟩ := DataW.trod_int Try.underlying3 h4
  cases e4
  obtain ⟨y5, hy5⟩ := get 5 (by omega)
  have h5 := (hx 5 _ rfl).trans hy5
  simp only [Value.cells, cellsI, List.drop_zero, List.drop_succ_cons, List.take_succ_cons, List.take_zero] at h5
  obtain ⟨a5, e5, _, _⟩ := DataW.trod_int Try.underlying3 h5
  cases e5
  obtain ⟨y6, hy6⟩ := get 6 (by omega)
  have h6 := (hx 6 _ rfl).trans hy6
  simp only [Value.cells, cellsI, List.drop_zero, List.drop_succ_cons, List.take_succ_cons, List.take_zero] at h6
  obtain ⟨a6, e6, _, _⟩ := DataW.trod_int Try.underlying3 h6
  cases e6
  obtain ⟨y7, hy7⟩ := get 7 (by omega)
  have h7 := (hx 7 _ rfl).trans hy7
  simp only [Value.cells, cellsI, List.drop_zero, List.drop_succ_cons, List.take_succ_cons, List.take_zero] at h7
  obtain ⟨a7, e7, _, _⟩ := DataW.trod_int Try.underlying3 h7
  cases e7
  obtain ⟨y8, hy8⟩ := get 8 (by omega)
  have h8 := (hx 8 _ rfl).trans hy8
  simp only [Value.cells, cellsP, List.drop_zero, List.drop_succ_cons, List.take_succ_cons, List.take_zero] at h8
  obtain ⟨A, m, c, b, e8, hr, hb⟩ := open_pl h8
  cases e8
  exact ⟨⟨⟨a0, a1, a2, a3, a4, a5, a6, a7, b⟩, A, m, c⟩, rfl, ⟨hr, hb⟩⟩
theorem law_turned (x : PkA) (a b : Int) (w : World) (hx : x.ok w) (wa : (Lit.int .u16 a).wf = true) (wb : (Lit.int .u8 b).wf = true) :
    Calls Try.prog 3 #[x.v, .int .u16 a, .int .u8 b] w fun e w' => e = .returned (.bool true) ∧ New w w' :=
  turned_walk x.p x.a x.n x.c a b w hx (wf_of_u16 wa) (wf_of_u8 wb)
end Go.Proofs.Ytdgleplmmbkgfaa
