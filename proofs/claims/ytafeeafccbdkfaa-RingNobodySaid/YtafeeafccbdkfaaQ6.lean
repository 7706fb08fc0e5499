/- Walks: what the law's 'told' gathers. -/
import Derived.Test.YtafeeafccbdkfaaQ5i
import Derived.BigRegionIn
namespace Go.Proofs.Ytafeeafccbdkfaa
open Go.RowKit Go.Shelf
attribute [local go_sem] Oper.semAt_some
set_option maxRecDepth 100000

theorem eql_nilFunc (f : Fn) (r l : Array Value) (W : World) : (binOp .eql 69 (.func f r l) .nilFunc).run Try.prog W = .ok (.bool false) W := by
  have h : ∀ d : Nat, (Op.equalIn (d + 1) 69 (.func f r l) .nilFunc).run Try.prog W = .ok false W := fun d => by
    simp [Op.equalIn, run_underlying Try.underlying69]
  simp only [binOp]
  simp [Op.equal, Op.maxDepth, eqGuard, h 9999]

/-- Whether the places are 0, 1, .. -/
def okL (pre : List (Nat × Int)) : Bool := pre.map Prod.fst == List.range pre.length
theorem okL_snoc (pre : List (Nat × Int)) (x : Nat × Int) : okL (pre ++ [x]) = (okL pre && ((x.1 : Int) == (pre.length : Int))) := by
  unfold okL
  rw [List.map_append, List.length_append, List.length_singleton, List.range_succ, Bool.eq_iff_iff]
  simp only [beq_iff_eq, Bool.and_eq_true, List.map_singleton]
  constructor
  · intro h
    have := List.append_inj' h rfl
    exact ⟨this.1, by have := this.2; simp at this; omega⟩
  · rintro ⟨h1, h2⟩
    rw [h1, show x.1 = pre.length by omega]
theorem okL_upto (xs : List Int) (n : Nat) : okL (upto (pri xs) n) = true := by
  unfold okL
  rw [upto_length, upto, List.map_map]
  simp only [beq_iff_eq]
  exact List.map_id' _
theorem upto_takei (xs : List Int) (k : Nat) (h : k ≤ xs.length) : (upto (pri xs) k).map Prod.snd = xs.take k := by
  refine List.ext_getElem? (fun i => ?_)
  rw [List.getElem?_map, upto, List.getElem?_map, List.getElem?_take]
  by_cases hi : i < k
  · rw [List.getElem?_range hi, if_pos hi]
    simp [pri, List.getElem?_eq_getElem (show i < xs.length by omega)]
  · rw [List.getElem?_eq_none (by rw [List.length_range]; omega), if_neg hi]
    rfl
theorem cells_grown {W W' : World} {k : Nat} {cs : Array Value} {t : TypeId} {row : Option Nat} (h : W.heap[k]? = some (.cells cs t)) (hg : W.grownBy W' row) (hr : ∀ r, row = some r → ∃ o : Obj, W.heap[r]? = some o ∧ o.isCells = false) : W'.heap[k]? = some (.cells cs t) := by
  refine (hg.block k (blk_lt h) (fun e => ?_)).trans h
  obtain ⟨o, ho, hc⟩ := hr k e.symm
  rw [h] at ho
  cases ho
  cases hc

set_option maxHeartbeats 2000000 in
theorem told_any (p : Nat) (A : Option Addr) (n c : Nat) (xs : List Int) (room : Nat) (m : Nat) (w : World) (hring : Rngi w p A n c xs room) :
    Calls Try.prog 13 #[.pointer (some ⟨p, 0, none⟩), .int .i64 m] w fun e w' => ∃ A' n' c', e = .returned (.tuple #[.slice A' n' c', .bool true]) ∧ Own w' w.heap.size 3 1 A' n' c' (vsi (xs.take m)) ∧ New w w' := by
  have kn := eql_nilFunc
  refine (callsIn_wide (n := 10)).1 ?_
  refine callsIn_of_wp_marks Try.func13 rfl trivial ?_ rfl
  simp only [Try.ntmps13, List.size_toArray, List.length_cons, List.length_nil, Nat.reduceAdd, Nat.reduceSub, Array.replicate_succ, Array.replicate_zero, List.push_toArray, List.append_toArray, List.nil_append, List.cons_append]
  gi_wp2_with (refine ⟨trivial, ?_⟩; gi_at_call 32; refine (callsIn_wide.2 (all_i _ _)).mono ?_; rintro e w1 ⟨rfl, rfl⟩)
  have hring0 := hring
  have hlen := hring.len
  have hr2 := hring.r2
  have hle := hring.le
  obtain ⟨w1, hw1⟩ : ∃ w1, w1 = (((w.alloc (.cells #[.int .i64 m] 3)).alloc (.cells #[.pointer (some ⟨p, 0, none⟩)] 24)).alloc (.cells #[.slice none 0 0] 22)).alloc (.cells #[.bool true] 4) := ⟨_, rfl⟩
  have hbm : w1.heap[w.heap.size]? = some (.cells #[.int .i64 m] 3) := by rw [hw1]; exact blk_alloc (blk_alloc (blk_alloc (blk_new w _) _) _) _
  have hbq : w1.heap[w.heap.size + 1]? = some (.cells #[.pointer (some ⟨p, 0, none⟩)] 24) := by
    have := blk_alloc (blk_alloc (blk_new (w.alloc (.cells #[.int .i64 m] 3)) (.cells #[.pointer (some ⟨p, 0, none⟩)] 24)) (.cells #[.slice none 0 0] 22)) (.cells #[.bool true] 4)
    rw [hw1]
    simpa [World.size_alloc] using this
  have hbl : w1.heap[w.heap.size + 1 + 1]? = some (.cells #[.slice none 0 0] 22) := by
    have := blk_alloc (blk_new ((w.alloc (.cells #[.int .i64 m] 3)).alloc (.cells #[.pointer (some ⟨p, 0, none⟩)] 24)) (.cells #[.slice none 0 0] 22)) (.cells #[.bool true] 4)
    rw [hw1]
    simpa [World.size_alloc] using this
  have hbk : w1.heap[w.heap.size + 1 + 1 + 1]? = some (.cells #[.bool true] 4) := by
    have := blk_new (((w.alloc (.cells #[.int .i64 m] 3)).alloc (.cells #[.pointer (some ⟨p, 0, none⟩)] 24)).alloc (.cells #[.slice none 0 0] 22)) (.cells #[.bool true] 4)
    rw [hw1]
    simpa [World.size_alloc] using this
  have hn1 : New w w1 := by rw [hw1]; (repeat (first | exact Ext.refl _ _ | assumption | apply Ext.alloc | apply Ext.drewN | apply Ext.drew | refine Ext.setCell ?_ (fun h => by first | rfl | exact absurd h (by dsimp only; omega)) _))
  have hs1 : w1.heap.size = w.heap.size + 4 := by rw [hw1]; simp
  rw [← hw1]
  clear hw1
  refine wpIn_rangeFunc_ownF rfl (by omega) (gf := 43) (lb := #[.pointer (some ⟨w.heap.size + 1, 0, none⟩)]) rfl trivial (enters_of Try.func43 (by kernel_rfl) rfl)
    (stops_i (w.heap.size + 1) (w.heap.size + 1 + 1) p A n c xs room w1 (by omega) ?hrow ((blk_cell hbq 0).trans rfl) (hring.new hn1)) (fun h k => h.trans k) (KpB.put (by omega)) (Below.refl _ _) (fun _ => rfl)
    (fun (pre : List (Nat × Int)) W => (Gati (w.heap.size + 1 + 1) (w.heap.size + 4) (pre.map Prod.snd) W ∧ W.heap[w.heap.size]? = some (.cells #[.int .i64 m] 3) ∧ W.heap[w.heap.size + 1 + 1 + 1]? = some (.cells #[.bool (okL pre)] 4) ∧ pre.length ≤ m) ∧ Below w.heap.size w1 W)
    (fun cd pre' W => ∃ pre x, (pre' = pre ++ [x] ∧ cd = .exit 0 ∧ pre.length = m) ∧ (Gati (w.heap.size + 1 + 1) (w.heap.size + 4) (pre.map Prod.snd) W ∧ W.heap[w.heap.size + 1 + 1 + 1]? = some (.cells #[.bool (okL pre)] 4)) ∧ Below w.heap.size w1 W)
    (fun s X Y row hs hg hr => ⟨⟨hs.1.1.grown hg (fun r e => (hr r e).2), cells_grown hs.1.2.1 hg (fun r e => (hr r e).2), cells_grown hs.1.2.2.1 hg (fun r e => (hr r e).2), hs.1.2.2.2⟩, hs.2.grown hg (by have := hs.2.size; omega) (fun k e => by have := (hr k e).1; omega)⟩)
    (fun cd s X Y row hs hg hr => by
      obtain ⟨pre, x, h1, ⟨h2, h3⟩, h4⟩ := hs
      exact ⟨pre, x, h1, ⟨h2.grown hg (fun r e => (hr r e).2), cells_grown h3 hg (fun r e => (hr r e).2)⟩, h4.grown hg (by have := h4.size; omega) (fun k e => by have := (hr k e).1; omega)⟩)
    ⟨⟨⟨none, 0, hbl, Own.nil _ _ _ _⟩, hbm, hbk, Nat.zero_le _⟩, Below.refl _ _⟩
    (fun x => { tmps := #[.pointer (some ⟨p, 0, none⟩), .int .i64 m, undef, .pointer (some ⟨w.heap.size, 0, none⟩), .slice none 0 0, .bool false, .func (.func 43) #[] #[.pointer (some ⟨w.heap.size + 1, 0, none⟩)], .pointer (some ⟨w.heap.size + 1 + 1, 0, none⟩), .pointer (some ⟨w.heap.size + 1 + 1 + 1, 0, none⟩), .int .i64 (x.1 : Int), .int .i64 x.2,
      .pointer (some ⟨p, 0, none⟩), .func (.func 43) #[] #[.pointer (some ⟨w.heap.size + 1, 0, none⟩)], .func (.func 43) #[] #[.pointer (some ⟨w.heap.size + 1, 0, none⟩)], .bool false, .func (.func 43) #[] #[.pointer (some ⟨w.heap.size + 1, 0, none⟩)], .int .i64 (x.1 : Int), .int .i64 x.2,
      undef, undef, undef, undef, undef, undef, undef, undef, undef, undef, undef, undef, undef, undef, undef, undef, undef], defers := [] }) ?assign ?body ?done ?stop
  case hrow =>
    rintro k ⟨A3, n3, c3, h3, h4⟩
    rw [blk_cell hbl 0] at h3
    cases h3
    exact absurd h4 (inA_none k)
  case assign =>
    intro l x W K hK
    unfold eni
    gi_wp2
    exact hK
  case body =>
    rintro l pre x W ⟨⟨⟨A', c', hb, hown⟩, hm, hk, hpm⟩, hlow⟩ hpl
    obtain ⟨ys, hys⟩ : ∃ ys, ys = pre.map Prod.snd := ⟨_, rfl⟩
    have hyl : ys.length = pre.length := by rw [hys, List.length_map]
    rw [← hys] at hb hown
    have l0 : W.cell? ⟨w.heap.size + 1 + 1, 0, none⟩ = some (.slice A' ys.length c') := (blk_cell hb 0).trans rfl
    have m0 : W.cell? ⟨w.heap.size, 0, none⟩ = some (.int .i64 m) := (blk_cell hm 0).trans rfl
    have hT : w.heap.size + 4 ≤ W.heap.size := by have := hlow.size; omega
    have HY := hide hys
    have HL := hide hyl
    clear hys
    by_cases hmost : m ≤ pre.length
    · have d : decide ((m : Int) ≤ ys.length) = true := decide_eq_true (by omega)
      have d' : decide (m ≤ ys.length) = true := decide_eq_true (by omega)
      clear hyl
      gi_wp2
      exact ⟨KeepsOthers.refl _, pre, x, ⟨rfl, rfl, by omega⟩, ⟨by rw [← HY.out]; exact ⟨A', c', hb, hown⟩, hk⟩, hlow⟩
    · have d : decide ((m : Int) ≤ ys.length) = false := decide_eq_false (by omega)
      have d' : decide (m ≤ ys.length) = false := decide_eq_false (by omega)
      have hyn : ys.length < n := by omega
      clear hyl
      cases hok : okL pre with
      | true =>
        rw [hok] at hk
        have k0 : W.cell? ⟨w.heap.size + 1 + 1 + 1, 0, none⟩ = some (.bool true) := (blk_cell hk 0).trans rfl
        have k1 := blk_free hk 0
        have HO := hide hok
        clear hok
        by_cases hx : x.1 = ys.length
        · have hxe : ((x.1 : Int) == (ys.length : Int)) = true := by simp [hx]
          have HX := hide hx
          clear hx
          have hEk : Ext (fun k => k = w.heap.size + 1 + 1 + 1) W (W.setCell ⟨w.heap.size + 1 + 1 + 1, 0, none⟩ (.bool true)) := (Ext.refl (fun k => k = w.heap.size + 1 + 1 + 1) W).setCell (p := ⟨w.heap.size + 1 + 1 + 1, 0, none⟩) (fun _ => rfl) _
          have hbx := hEk.keep hb (by omega)
          have hox := hown.keep hEk (fun k hk e => by have := (hown.at_ hk).1; omega)
          have hkx := blk_set hk 0 (.bool true)
          have hsx : w.heap.size + 4 ≤ (W.setCell ⟨w.heap.size + 1 + 1 + 1, 0, none⟩ (.bool true)).heap.size := Nat.le_trans hT hEk.size
          have hrb := rd_box (W.setCell ⟨w.heap.size + 1 + 1 + 1, 0, none⟩ (.bool true)) 3 (.int .i64 x.2) rfl
          rw [show (W.setCell ⟨w.heap.size + 1 + 1 + 1, 0, none⟩ (.bool true)).heap.size = W.heap.size by simp [World.setCell]] at hrb
          gi_wp2_with (gi_at_builtin; refine appIn_i rfl _ _ rfl (w.heap.size + 4) rfl rfl (hox.new (New.alloc1 _ _)) hrb (by omega) (by rw [World.size_alloc]; omega) ?_; intro A2 c2 w2 ho2 he2 hA2; have hb3 := he2.keep (blk_alloc hbx _) (fun hk => by have := (hown.at_ hk).1; omega); have j0 : w2.cell? ⟨w.heap.size + 1 + 1, 0, none⟩ = some (.slice A' ys.length c') := (blk_cell hb3 0).trans rfl; have j1 := blk_free hb3 0)
          obtain ⟨m1, m2, m3, m4⟩ := Gati.more (T := w.heap.size + 4) (by omega) hsx hbx hox ho2 he2 hA2
          refine ⟨(keepsOthers_of hEk (fun k o e ho => by subst e; rw [hk] at ho; cases ho; rfl)).trans m1, (KpB.set hk (by omega) (by omega) _).trans (by first | (rw [hs1]; exact m2) | exact m2), ⟨?_, m4.keep (hEk.keep hm (by omega)) (by omega), ?_, by rw [List.length_append, List.length_singleton]; omega⟩, hlow.trans ((hEk.below (fun k hk h => by omega) (by omega)).trans (m4.below (fun k hk h => by omega) (by omega)))⟩
          · rw [List.map_append, ← HY.out]
            exact m3
          · have := m4.keep hkx (by omega)
            rw [okL_snoc, HO.out, ← HL.out]
            rw [this]
            first | (simp [HX.out]; done) | (simp; have := HX.out; omega)
        · have hxe : ((x.1 : Int) == (ys.length : Int)) = false := by simp; omega
          have HX := hide hx
          have hEk : Ext (fun k => k = w.heap.size + 1 + 1 + 1) W (W.setCell ⟨w.heap.size + 1 + 1 + 1, 0, none⟩ (.bool false)) := (Ext.refl (fun k => k = w.heap.size + 1 + 1 + 1) W).setCell (p := ⟨w.heap.size + 1 + 1 + 1, 0, none⟩) (fun _ => rfl) _
          have hbx := hEk.keep hb (by omega)
          have hox := hown.keep hEk (fun k hk e => by have := (hown.at_ hk).1; omega)
          have hkx := blk_set hk 0 (.bool false)
          have hsx : w.heap.size + 4 ≤ (W.setCell ⟨w.heap.size + 1 + 1 + 1, 0, none⟩ (.bool false)).heap.size := Nat.le_trans hT hEk.size
          have hrb := rd_box (W.setCell ⟨w.heap.size + 1 + 1 + 1, 0, none⟩ (.bool false)) 3 (.int .i64 x.2) rfl
          rw [show (W.setCell ⟨w.heap.size + 1 + 1 + 1, 0, none⟩ (.bool false)).heap.size = W.heap.size by simp [World.setCell]] at hrb
          gi_wp2_with (gi_at_builtin; refine appIn_i rfl _ _ rfl (w.heap.size + 4) rfl rfl (hox.new (New.alloc1 _ _)) hrb (by omega) (by rw [World.size_alloc]; omega) ?_; intro A2 c2 w2 ho2 he2 hA2; have hb3 := he2.keep (blk_alloc hbx _) (fun hk => by have := (hown.at_ hk).1; omega); have j0 : w2.cell? ⟨w.heap.size + 1 + 1, 0, none⟩ = some (.slice A' ys.length c') := (blk_cell hb3 0).trans rfl; have j1 := blk_free hb3 0)
          obtain ⟨m1, m2, m3, m4⟩ := Gati.more (T := w.heap.size + 4) (by omega) hsx hbx hox ho2 he2 hA2
          refine ⟨(keepsOthers_of hEk (fun k o e ho => by subst e; rw [hk] at ho; cases ho; rfl)).trans m1, (KpB.set hk (by omega) (by omega) _).trans (by first | (rw [hs1]; exact m2) | exact m2), ⟨?_, m4.keep (hEk.keep hm (by omega)) (by omega), ?_, by rw [List.length_append, List.length_singleton]; omega⟩, hlow.trans ((hEk.below (fun k hk h => by omega) (by omega)).trans (m4.below (fun k hk h => by omega) (by omega)))⟩
          · rw [List.map_append, ← HY.out]
            exact m3
          · have := m4.keep hkx (by omega)
            rw [okL_snoc, HO.out, ← HL.out]
            rw [this]
            first | (simp [HX.out]; done) | (simp; have := HX.out; omega)
      | false =>
        rw [hok] at hk
        have k0 : W.cell? ⟨w.heap.size + 1 + 1 + 1, 0, none⟩ = some (.bool false) := (blk_cell hk 0).trans rfl
        have k1 := blk_free hk 0
        have HO := hide hok
        clear hok
        have HX := hide (rfl : (0 : Nat) = 0)
        have hEk : Ext (fun k => k = w.heap.size + 1 + 1 + 1) W (W.setCell ⟨w.heap.size + 1 + 1 + 1, 0, none⟩ (.bool false)) := (Ext.refl (fun k => k = w.heap.size + 1 + 1 + 1) W).setCell (p := ⟨w.heap.size + 1 + 1 + 1, 0, none⟩) (fun _ => rfl) _
        have hbx := hEk.keep hb (by omega)
        have hox := hown.keep hEk (fun k hk e => by have := (hown.at_ hk).1; omega)
        have hkx := blk_set hk 0 (.bool false)
        have hsx : w.heap.size + 4 ≤ (W.setCell ⟨w.heap.size + 1 + 1 + 1, 0, none⟩ (.bool false)).heap.size := Nat.le_trans hT hEk.size
        have hrb := rd_box (W.setCell ⟨w.heap.size + 1 + 1 + 1, 0, none⟩ (.bool false)) 3 (.int .i64 x.2) rfl
        rw [show (W.setCell ⟨w.heap.size + 1 + 1 + 1, 0, none⟩ (.bool false)).heap.size = W.heap.size by simp [World.setCell]] at hrb
        gi_wp2_with (gi_at_builtin; refine appIn_i rfl _ _ rfl (w.heap.size + 4) rfl rfl (hox.new (New.alloc1 _ _)) hrb (by omega) (by rw [World.size_alloc]; omega) ?_; intro A2 c2 w2 ho2 he2 hA2; have hb3 := he2.keep (blk_alloc hbx _) (fun hk => by have := (hown.at_ hk).1; omega); have j0 : w2.cell? ⟨w.heap.size + 1 + 1, 0, none⟩ = some (.slice A' ys.length c') := (blk_cell hb3 0).trans rfl; have j1 := blk_free hb3 0)
        obtain ⟨m1, m2, m3, m4⟩ := Gati.more (T := w.heap.size + 4) (by omega) hsx hbx hox ho2 he2 hA2
        refine ⟨(keepsOthers_of hEk (fun k o e ho => by subst e; rw [hk] at ho; cases ho; rfl)).trans m1, (KpB.set hk (by omega) (by omega) _).trans (by first | (rw [hs1]; exact m2) | exact m2), ⟨?_, m4.keep (hEk.keep hm (by omega)) (by omega), ?_, by rw [List.length_append, List.length_singleton]; omega⟩, hlow.trans ((hEk.below (fun k hk h => by omega) (by omega)).trans (m4.below (fun k hk h => by omega) (by omega)))⟩
        · rw [List.map_append, ← HY.out]
          exact m3
        · have := m4.keep hkx (by omega)
          rw [okL_snoc, HO.out, ← HL.out]
          rw [this]
          first | (simp [HX.out]; done) | (simp; have := HX.out; omega)
  case done =>
    rintro D ys W hD rfl ⟨⟨⟨A', c', hb, hown⟩, hm, hk, hpm⟩, hlow⟩ hK
    have hall : (upto (pri xs) n).map Prod.snd = xs := upto_alli xs n hlen
    have hok : okL (upto (pri xs) n) = true := okL_upto xs n
    rw [upto_length] at hpm
    rw [hall, hlen] at hb hown
    rw [hok] at hk
    have htk : xs.take m = xs := List.take_of_length_le (by omega)
    have l0 : W.cell? ⟨w.heap.size + 1 + 1, 0, none⟩ = some (.slice A' n c') := (blk_cell hb 0).trans rfl
    have k0 : W.cell? ⟨w.heap.size + 1 + 1 + 1, 0, none⟩ = some (.bool true) := (blk_cell hk 0).trans rfl
    have HA := hide hall
    have HO := hide hok
    have HT := hide htk
    clear hall hok htk
    gi_wp2
    gi_region
    all_goals gi_wp2
    have hK' : (W.drew).heap[D]? = some (.deferred (some [])) := hK
    refine ⟨by simp, .inl ⟨_, _, rfl, run_takeDeferred hK', ?_⟩⟩
    have hp := grownBy_putObj' W.drew D (.deferred none)
    have he0 : Ext (fun k => k = D) W W.drew := by (repeat (first | exact Ext.refl _ _ | assumption | apply Ext.alloc | apply Ext.drewN | apply Ext.drew | refine Ext.setCell ?_ (fun h => by first | rfl | exact absurd h (by dsimp only; omega)) _))
    have he : Ext (fun k => k = D) W (W.drew.putObj D (.deferred none)) := he0.trans ⟨hp.os, hp.tape, hp.output, hp.size, fun k hk hs => hp.block k hk (fun e => hs (Option.some.inj e))⟩ (fun _ _ h => h)
    refine ⟨_, results_tmp2 rfl _ _ _, A', n, c', rfl, ?_, ?_⟩
    · rw [HT.out]
      refine (hown.keep he (fun k hk e => ?_)).le (by omega)
      subst e
      obtain ⟨o, ho, hc⟩ := hown.cells hk
      rw [hK] at ho
      cases ho
      cases hc
    · exact New.of_below (((hn1.below.trans hlow).trans (he0.below (fun k hk h => by omega) (by have := hlow.size; have := hn1.size; omega))).trans (belowK_b (w := w) (Nat.le_refl _) W.drew D _ _ (by omega) hK' rfl rfl))
  case stop =>
    rintro D cd pre' W hD ⟨k, hk, rfl⟩ ⟨pre, x, ⟨h1, rfl, h3⟩, ⟨⟨A', c', hb, hown⟩, hkk⟩, hlow⟩ hK
    obtain ⟨k', rfl⟩ : ∃ k', k = k' + 1 := by
      cases k with
      | zero => simp [upto] at h1
      | succ k' => exact ⟨k', rfl⟩
    rw [upto_succ] at h1
    obtain ⟨rfl, _⟩ := List.append_inj' h1 rfl
    rw [upto_length] at h3
    subst h3
    have hall : (upto (pri xs) k').map Prod.snd = xs.take k' := upto_takei xs k' (by omega)
    have hok : okL (upto (pri xs) k') = true := okL_upto xs k'
    rw [hall] at hb hown
    rw [hok] at hkk
    have l0 : W.cell? ⟨w.heap.size + 1 + 1, 0, none⟩ = some (.slice A' (xs.take k').length c') := (blk_cell hb 0).trans rfl
    have k0 : W.cell? ⟨w.heap.size + 1 + 1 + 1, 0, none⟩ = some (.bool true) := (blk_cell hkk 0).trans rfl
    obtain ⟨n', hn'⟩ : ∃ n', n' = (xs.take k').length := ⟨_, rfl⟩
    rw [← hn'] at hown l0
    have HA := hide hall
    have HO := hide hok
    have HN := hide hn'
    clear hall hok hn' h1
    gi_wp2
    gi_region
    all_goals gi_wp2
    have hK' : (W.drew).heap[D]? = some (.deferred (some [])) := hK
    refine ⟨by simp, .inl ⟨_, _, rfl, run_takeDeferred hK', ?_⟩⟩
    have hp := grownBy_putObj' W.drew D (.deferred none)
    have he0 : Ext (fun k => k = D) W W.drew := by (repeat (first | exact Ext.refl _ _ | assumption | apply Ext.alloc | apply Ext.drewN | apply Ext.drew | refine Ext.setCell ?_ (fun h => by first | rfl | exact absurd h (by dsimp only; omega)) _))
    have he : Ext (fun k => k = D) W (W.drew.putObj D (.deferred none)) := he0.trans ⟨hp.os, hp.tape, hp.output, hp.size, fun k hk hs => hp.block k hk (fun e => hs (Option.some.inj e))⟩ (fun _ _ h => h)
    refine ⟨_, results_tmp2 rfl _ _ _, A', n', c', rfl, ?_, ?_⟩
    · refine (hown.keep he (fun k hk e => ?_)).le (by omega)
      subst e
      obtain ⟨o, ho, hc⟩ := hown.cells hk
      rw [hK] at ho
      cases ho
      cases hc
    · exact New.of_below (((hn1.below.trans hlow).trans (he0.below (fun k hk h => by omega) (by have := hlow.size; have := hn1.size; omega))).trans (belowK_b (w := w) (Nat.le_refl _) W.drew D _ _ (by omega) hK' rfl rfl))
end Go.Proofs.Ytafeeafccbdkfaa
