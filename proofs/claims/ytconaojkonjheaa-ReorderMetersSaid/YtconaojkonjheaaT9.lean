/- Walks: Of, Extents, Lates. -/
import Derived.Test.YtconaojkonjheaaT8
namespace Go.Proofs.Ytconaojkonjheaa
open Go.RowKit Go.Maps
set_option maxRecDepth 100000

theorem MS.new {w w' : World} {p b : Nat} {A : Option Addr} {n c : Nat} {l : List Int} {hs : List (Int × Int)} (h : MS w p b A n c l hs) (he : New w w') : MS w' p b A n c l hs :=
  ⟨⟨h.met.blk.keep he (fun h => h), h.met.set.new he, h.met.own.new he, h.met.np, h.met.ris⟩, h.hs_, h.le⟩
theorem new_any (w : World) : Calls Try.prog 19 #[] w fun e w' => ∃ p b, e = .returned (.pointer (some ⟨p, 0, none⟩)) ∧ MS w' p b none 0 0 [] [] ∧ w.heap.size ≤ p ∧ w.heap.size ≤ b ∧ New w w' := by
  have hmm := @run_makeMap Try.prog
  go_enter Try.func19, Try.ntmps19
  go_wp2_with fail
  go_ret
  have hb := blk_new (w.alloc (.map #[] 0)) (.cells #[.int .i64 0, .int .i64 0, .int .i64 0, .int .i64 0, .int .i64 0, .int .i64 0, .map (some w.heap.size), .slice none 0 0, .int .i64 0] 55)
  rw [World.size_alloc] at hb
  have h0 : mexOf [] = 0 := (mexOf_spec []).uniq ⟨by simp, fun k hk => absurd hk (Nat.not_lt_zero _)⟩
  refine ⟨w.heap.size + 1, w.heap.size, rfl, ⟨⟨?_, (ISet.made w).new (New.alloc1 _ _), Own.nil _ _ _ _, inA_none _, HS.nil.ris⟩, HS.nil, Nat.le_refl _⟩, by omega, by omega, by (repeat (first | exact Ext.refl _ _ | assumption | apply Ext.alloc | apply Ext.drewN | apply Ext.drew | refine Ext.setCell ?_ (fun h => by first | rfl | exact absurd h (by dsimp only; omega)) _))⟩
  rw [h0]
  exact hb
instance (l : List Int) : Decidable (mayL l) := inferInstanceAs (Decidable (_ ∧ _))

theorem MS.low {w : World} {p b : Nat} {A : Option Addr} {n c : Nat} {l : List Int} {hs : List (Int × Int)} (h : MS w p b A n c l hs) {B : Nat} (hp : B ≤ p) (hb : B ≤ b) (hA : ∀ k, inA A k → B ≤ k) : ∀ k, Tm p b A k → B ≤ k := by
  rintro k (rfl | rfl | hk)
  · exact hp
  · exact hb
  · exact hA k hk
/-- Before round k of a loop over the numbers. -/
def Rnd (w wr : World) (p b : Nat) (l : List Int) : Prop := ∃ A n c hs, MS wr p b A n c l hs ∧ w.heap.size + 1 ≤ p ∧ w.heap.size + 1 ≤ b ∧ (∀ k, inA A k → w.heap.size + 1 ≤ k) ∧ Ext (fun k => w.heap.size + 1 ≤ k) (w.alloc (.cells #[.int .i64 0, .int .i64 0, .int .i64 0, .int .i64 0, .int .i64 0, .int .i64 0] 25)) wr
def rpV (r : Rp) : Value := .agg #[.int .i64 r.came, .int .i64 r.rep, .int .i64 r.reo, .int .i64 r.ext, .int .i64 r.late, .int .i64 r.held]

set_option maxHeartbeats 1000000 in
theorem of_any (A : Option Addr) (n c : Nat) (l : List Int) (w : World) (h : Rd w 1 A n c (vsi l)) :
    Calls Try.prog 10 #[.slice A n c] w fun e w' => e = .returned (.tuple #[rpV (if mayL l then RP l else ⟨0, 0, 0, 0, 0, 0⟩), .int .i64 (errL l)]) ∧ New w w' := by
  have hlen := h.leni
  by_cases hm : mayL l
  · rw [if_pos hm, errL_yes hm]
    have HM := hide hm
    have he0 := hide (errL_yes hm)
    have HL := hide hlen
    have hn4 : n ≤ 4096 := by have := hm.1; omega
    clear hm hlen
    go_enter Try.func10, Try.ntmps10
    go_wp2_with fail
    refine (check_any A n c l _ (h.new (New.alloc1 _ _))).mono ?_
    rintro e w1 ⟨rfl, rfl⟩
    rw [he0.out]
    go_wp2_with fail
    refine (new_any _).mono ?_
    rintro e w1 ⟨p, b, rfl, hms, hp, hb, hn1⟩
    have hR : Rnd w w1 p b [] := ⟨none, 0, 0, [], hms, by simpa using hp, by simpa using hb, (fun k hk => absurd hk (inA_none k)), hn1.to⟩
    clear hms hp hb hn1
    go_wp2_with fail
    go_loopw [17] (fun s wr => ∃ k : Nat, k ≤ n ∧ s = .int .i64 (k : Nat) ∧ Rnd w wr p b (l.take k)) (fun s _ => n - (intOf s).toNat)
    case atStart => exact ⟨0, Nat.zero_le _, rfl, hR⟩
    case round =>
      clear hR
      obtain ⟨k, hk, rfl, A1, n1, c1, hs, hms, hp, hb, hA1, he⟩ := hrel
      have hlow := hms.low hp hb hA1
      have hnw : New w wr := ((New.alloc1 w _).to.trans he (fun _ _ h => h) : Ext (fun k => w.heap.size + 1 ≤ k) w wr).mono (fun k hk h => by omega)
      by_cases hkn : k < n
      · have d1 : decide ((k : Int) < n) = true := decide_eq_true (by omega)
        have d2 : decide (k < n) = true := decide_eq_true (by omega)
        obtain ⟨ad, rfl⟩ := h.some (by omega)
        obtain ⟨x, hx⟩ : ∃ x, l[k]? = some x := ⟨_, List.getElem?_eq_getElem (by have := HL.out; omega)⟩
        have hcx := (h.new hnw).celli hx
        have HX := hide hx
        clear hx
        go_wp2_with fail
        refine (add_ms p b A1 n1 c1 (l.take k) hs x _ hms (HM.out.2 x (List.mem_of_getElem? HX.out)) (fun y hy => HM.out.2 y (List.mem_of_mem_take hy)) (by rw [List.length_take]; omega)).mono ?_
        rintro e w2 ⟨rfl, A2, n2, c2, hs2, hms2, he2, hf2⟩
        go_wp2_with fail
        refine ⟨⟨k + 1, by omega, by go_num, A2, n2, c2, hs2, ?_, hp, hb, (fun j hj => (hf2 j hj).elim (hA1 j) (fun h => by have := he.size; simp at this; omega)), he.trans he2 (fun j _ hj => hlow j hj)⟩, by simp [intOf]; omega⟩
        rw [take_snoc l k x HX.out]
        exact hms2
      · have d1 : decide ((k : Int) < n) = false := decide_eq_false (by omega)
        have d2 : decide (k < n) = false := decide_eq_false (by omega)
        have hfin : l.take k = l := List.take_of_length_le (by have := HL.out; omega)
        rw [hfin] at hms
        clear hfin
        have hmb := hms.met.blk
        have c0 := (blk_cell hmb 0).trans rfl
        have c1 := (blk_cell hmb 1).trans rfl
        have c2 := (blk_cell hmb 2).trans rfl
        have c3 := (blk_cell hmb 3).trans rfl
        have c4 := (blk_cell hmb 4).trans rfl
        have c5 := (blk_cell hmb 5).trans rfl
        have hbr := he.keep (blk_new w (.cells #[.int .i64 0, .int .i64 0, .int .i64 0, .int .i64 0, .int .i64 0, .int .i64 0] 25)) (by omega)
        have r0 := (blk_cell hbr 0).trans rfl
        have r1 := (blk_cell hbr 1).trans rfl
        have r2 := (blk_cell hbr 2).trans rfl
        have r3 := (blk_cell hbr 3).trans rfl
        have r4 := (blk_cell hbr 4).trans rfl
        have r5 := (blk_cell hbr 5).trans rfl
        have f0 := blk_free hbr 0
        have f1 := blk_free hbr 1
        have f2 := blk_free hbr 2
        have f3 := blk_free hbr 3
        have f4 := blk_free hbr 4
        have f5 := blk_free hbr 5
        go_wp2_with fail
        have hb6 := blk_set (blk_set (blk_set (blk_set (blk_set (blk_set hbr 0 (.int .i64 (RP l).came)) 1 (.int .i64 (RP l).rep)) 2 (.int .i64 (RP l).reo)) 3 (.int .i64 (RP l).ext)) 4 (.int .i64 (RP l).late)) 5 (.int .i64 (RP l).held)
        have g0 := (blk_cell hb6 0).trans rfl
        have g1 := (blk_cell hb6 1).trans rfl
        have g2 := (blk_cell hb6 2).trans rfl
        have g3 := (blk_cell hb6 3).trans rfl
        have g4 := (blk_cell hb6 4).trans rfl
        have g5 := (blk_cell hb6 5).trans rfl
        have e6 : Ext (fun k => w.heap.size ≤ k) wr ((((((wr.setCell ⟨w.heap.size, 0, none⟩ (.int .i64 (RP l).came)).setCell ⟨w.heap.size, 1, none⟩ (.int .i64 (RP l).rep)).setCell ⟨w.heap.size, 2, none⟩ (.int .i64 (RP l).reo)).setCell ⟨w.heap.size, 3, none⟩ (.int .i64 (RP l).ext)).setCell ⟨w.heap.size, 4, none⟩ (.int .i64 (RP l).late)).setCell ⟨w.heap.size, 5, none⟩ (.int .i64 (RP l).held)) :=
          ((((((Ext.refl _ wr).set (Nat.le_refl _)).set (Nat.le_refl _)).set (Nat.le_refl _)).set (Nat.le_refl _)).set (Nat.le_refl _)).set (Nat.le_refl _)
        refine bodyPost_ret (v := .tuple #[rpV (RP l), .int .i64 0]) (by simp [results, Try.results10, go_sem, rpV, g0, g1, g2, g3, g4, g5]) rfl ⟨rfl, hnw.trans e6 (fun k hk h => by omega)⟩
  · rw [if_neg hm]
    have hz : (errL l == 0) = false := by rcases errL_no hm with e | e <;> rw [e] <;> rfl
    clear hm
    go_enter Try.func10, Try.ntmps10
    go_wp2_with fail
    refine (check_any A n c l _ (h.new (New.alloc1 _ _))).mono ?_
    rintro e w1 ⟨rfl, rfl⟩
    go_wp2_with fail
    refine bodyPost_ret (v := .tuple #[rpV ⟨0, 0, 0, 0, 0, 0⟩, .int .i64 (errL l)]) (by simp [results, Try.results10, go_sem, rpV]) rfl ⟨rfl, by (repeat (first | exact Ext.refl _ _ | assumption | apply Ext.alloc | apply Ext.drewN | apply Ext.drew | refine Ext.setCell ?_ (fun h => by first | rfl | exact absurd h (by dsimp only; omega)) _))⟩
end Go.Proofs.Ytconaojkonjheaa
