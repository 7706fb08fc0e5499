/- The sort of a row of the call's own. -/
import Derived.Test.YtkiplbhnnjfjaaaS6
namespace Go.Proofs.Ytkiplbhnnjfjaaa
set_option linter.unusedVariables false
set_option linter.unusedSimpArgs false
open Go.RowKit
set_option maxRecDepth 100000

def rlt (x y : Rg) : Bool := decide (x.1 < y.1 ∨ (x.1 = y.1 ∧ x.2 < y.2))
theorem lt_rlt (x y : Rg) : ltOf cmpR x y = rlt x y := by
  unfold ltOf cmpR or2 Lib.compareInt rlt
  by_cases h1 : x.1 < y.1
  · simp [h1]
  · by_cases h2 : x.1 > y.1
    · have : ¬ x.1 = y.1 := by omega
      simp [h1, h2, this]
    · have e : x.1 = y.1 := by omega
      by_cases h3 : x.2 < y.2
      · simp [e, h3]
      · by_cases h4 : x.2 > y.2 <;> simp [e, h3, h4]
theorem swoR : Sort.SWO (ltOf cmpR) where
  irrefl x := by rw [lt_rlt]; simp [rlt]
  trans x y z h1 h2 := by rw [lt_rlt] at *; simp [rlt] at *; omega
  ntrans x y z h1 h2 := by rw [lt_rlt] at *; simp [rlt] at *; omega
def srtd (l : List Rg) : List Rg := l.mergeSort fun x y => !ltOf cmpR y x
theorem srtd_perm (l : List Rg) : (srtd l).Perm l := List.mergeSort_perm _ _
theorem srtd_len (l : List Rg) : (srtd l).length = l.length := (srtd_perm l).length_eq
theorem srtd_srt (l : List Rg) : srt (srtd l) := by
  have h := List.pairwise_mergeSort (le := fun x y : Rg => !ltOf cmpR y x) (fun a b c h1 h2 => by rw [lt_rlt] at *; simp [rlt] at *; omega) (fun a b => by rw [lt_rlt, lt_rlt]; simp [rlt]; omega) l
  exact h.imp (fun {a b} hab => by rw [lt_rlt] at hab; simp [rlt] at hab; omega)
def encR (x : Rg) : List Value := [.int .i64 x.1, .int .i64 x.2]
theorem flat_enc (l : List Rg) : Sort.flatK encR 2 l.toArray = (kcs l).toArray := by
  apply Array.ext_getElem?
  intro t
  unfold Sort.flatK
  rw [Array.getElem?_map, show (kcs l).toArray[t]? = (kcs l)[t]? by simp]
  by_cases ht : t < l.length * 2
  · have hd : t / 2 < l.length := by omega
    have hg := flat_get (E := encR) (sz := 2) (fun _ => rfl) l (t / 2) (t % 2) l[t / 2] (List.getElem?_eq_getElem hd) (by omega)
    rw [show t / 2 * 2 + t % 2 = t by omega] at hg
    rw [show kcs l = l.flatMap encR from rfl, hg]
    rw [Array.getElem?_range]
    simp only [List.size_toArray]
    rw [if_pos ht]
    simp only [Option.map_some]
    rw [getElem!_pos l.toArray (t / 2) (by simpa using hd), List.getElem_toArray]
    have h2 : t % 2 < (encR l[t / 2]).length := by show t % 2 < 2; omega
    rw [List.getElem?_eq_getElem h2, getElem!_pos (encR l[t / 2]) (t % 2) h2]
  · rw [List.getElem?_eq_none (by rw [kcs_len]; omega), Array.getElem?_range]
    simp only [List.size_toArray]
    rw [if_neg ht]
    rfl
theorem put_take (fl cur : Array Value) (h : fl.size ≤ cur.size) : (Sort.putCells id 0 fl cur).toList.take fl.size = fl.toList := by
  apply List.ext_getElem?
  intro k
  unfold Sort.putCells
  rw [List.getElem?_take]
  by_cases hk : k < fl.size
  · have h1 : cur[k]? = some cur[k] := Array.getElem?_eq_getElem (by omega)
    have h2 : fl[k]? = some fl[k] := Array.getElem?_eq_getElem hk
    rw [if_pos hk]
    simp only [Array.getElem?_toList, Array.getElem?_mapIdx, h1, h2, Option.map_some]
    rw [if_pos ⟨Nat.zero_le _, by omega⟩]
    simp [hk]
  · rw [if_neg hk]
    simp only [Array.getElem?_toList]
    rw [Array.getElem?_eq_none (by omega)]
set_option maxHeartbeats 800000 in
theorem sort_c {w : World} {base n c : Nat} {e : TypeId} {A : Option Addr} {l : List Rg} (h : Own w base e 2 A n c (kcs l)) (hn : n ≤ 1000000) :
    Calls Try.prog 62 #[.slice A n c, .func (.func 63) #[] #[]] w fun en w' => en = .returned (.tuple #[]) ∧ Own w' base e 2 A n c (kcs (srtd l)) ∧ Ext (inA A) w w' := by
  have hl := h.rd.lenk
  by_cases hz : n = 0
  · subst hz
    obtain rfl : l = [] := List.eq_nil_of_length_eq_zero hl
    have := AnyF.slices_SortFunc_none Try.sortL A c (.func (.func 63) #[] #[]) w
    change Calls Try.prog 62 _ _ _ at this
    refine this.mono ?_
    rintro en w' ⟨rfl, rfl⟩
    exact ⟨rfl, (by rw [show srtd [] = [] by simp [srtd]]; exact h), Ext.refl _ _⟩
  · obtain ⟨ad, rfl⟩ := h.some (by omega)
    obtain ⟨hrl, hh | ⟨g, cap, cur, hv, hb, hg, hnc, hm, hs, ht⟩⟩ := h.row
    · cases hh.1
    · cases hv
      have hgl := blk_lt hg
      have hsz : (kcs l).length = n * 2 := hrl
      have hcell : ∀ j, j < n * 2 → w.cell? ⟨g, 0 + j, none⟩ = some ((kcs l).toArray)[j]! := fun j hj => by
        have := h.rd.cell ⟨g, 0, none⟩ rfl j ((kcs l)[j]'(by omega)) (List.getElem?_eq_getElem (by omega))
        rw [add_at] at this
        rw [this, getElem!_pos _ _ (by simpa using (by omega : j < (kcs l).length)), List.getElem_toArray]
      have hH : Sort.HoldsK encR 2 w g 0 l.toArray := by
        unfold Sort.HoldsK
        rw [flat_enc]
        intro j hj
        have hj2 : j < n * 2 := by rw [← hsz]; simpa using hj
        exact ⟨hcell j hj2, by rw [Nat.zero_add]; exact blk_free hg _⟩
      have hcmp : CmpLays Try.prog 63 #[] encR 2 cmpR g 0 l.toArray.size w := fun m os dk _ x y => closure_c x y _
      have eg : ∀ args w, (callFunc 63 args).run Try.prog w = .ok (.enter 63 args) w := enters_of Try.func63 (by kernel_rfl) rfl
      have hcon := AnyQ.slices_SortFunc_total Try.sortL 2 Try.isAgg30 Try.sizeOf30 encR (fun _ => rfl) (fun x v hv => by simp [encR] at hv; rcases hv with rfl | rfl <;> rfl) cmpR swoR 63 #[] g 0 c l.toArray w eg hcmp hH hgl (by simp; omega) (fun x y h1 h2 => by
        rw [lt_rlt] at h1 h2
        simp [rlt] at h1 h2
        exact Prod.ext (by omega) (by omega))
      change Calls Try.prog 62 _ _ _ at hcon
      rw [List.size_toArray, hl] at hcon
      refine hcon.mono ?_
      rintro en w' ⟨rfl, q, os, rfl⟩
      have hsl := srtd_len l
      have hk2 : (kcs (srtd l)).length = n * 2 := by rw [kcs_len, hsl, hl]
      have hw : sortWorldK encR 2 w g 0 q (srtd l).toArray os = Sort.grow (Sort.mapBlock (Sort.ahead w q) g (Sort.putCells id 0 (kcs (srtd l)).toArray)) os := by
        unfold sortWorldK Sort.putRowK
        rw [flat_enc]
        rfl
      show _ ∧ Own (sortWorldK encR 2 w g 0 q (srtd l).toArray os) base e 2 _ n c _ ∧ Ext _ w (sortWorldK encR 2 w g 0 q (srtd l).toArray os)
      rw [hw]
      have hblk : ∀ k, k < w.heap.size → (Sort.grow (Sort.mapBlock (Sort.ahead w q) g (Sort.putCells id 0 (kcs (srtd l)).toArray)) os).heap[k]? = if g = k then (w.heap[k]?).map (Sort.onCells (Sort.putCells id 0 (kcs (srtd l)).toArray)) else w.heap[k]? := fun k hk => by
        show ((w.heap.modify g (Sort.onCells (Sort.putCells id 0 (kcs (srtd l)).toArray))) ++ os)[k]? = _
        rw [Array.getElem?_append_left (by simpa using hk), Array.getElem?_modify]
      refine ⟨rfl, ⟨⟨hk2, .inr ⟨g, c, Sort.putCells id 0 (kcs (srtd l)).toArray cur, rfl, hb, ?_, hnc, hm, ?_, ?_⟩⟩, one_kcs _⟩, rfl, rfl, rfl, ?_, fun k hk hn' => ?_⟩
      · rw [hblk g hgl, if_pos rfl, hg]
        rfl
      · rw [← hs]
        unfold Sort.putCells
        simp
      · have := put_take (kcs (srtd l)).toArray cur (by rw [List.size_toArray, hk2, hs]; exact Nat.mul_le_mul_right _ hnc)
        rw [List.size_toArray, hk2] at this
        exact this
      · show w.heap.size ≤ ((w.heap.modify g _) ++ os).size
        simp
      · rw [hblk k hk, if_neg (fun e => hn' ((inA_some _ _).2 e))]
end Go.Proofs.Ytkiplbhnnjfjaaa
