/- A ring's List. -/
import Derived.Test.YtafeeafccbdkfaaQ4i
namespace Go.Proofs.Ytafeeafccbdkfaa
open Go.RowKit Go.Shelf
attribute [local go_sem] Oper.semAt_some
set_option maxRecDepth 100000

theorem stops_i (q B p : Nat) (A : Option Addr) (n c : Nat) (xs : List Int) (room : Nat) (w : World) (hB : B < w.heap.size) (hrow : ∀ k, rowAt w B k → k < w.heap.size) (hq : w.cell? ⟨q, 0, none⟩ = some (.pointer (some ⟨p, 0, none⟩))) (hring : Rngi w p A n c xs room) :
    SeqStopsK Fence.wide 9 Try.prog 43 #[.pointer (some ⟨q, 0, none⟩)] eni (KpB B w.heap.size) (fun ys => ys = upto (pri xs) n) (fun pre => ∃ k, k ≤ n ∧ pre = upto (pri xs) k) n w := fun l J Jx W hW hJ _ hY h0 => by
  have he : Ext (fun k => w.heap.size ≤ k) w W := Ext.of_below hW
  have hq' : W.cell? ⟨q, 0, none⟩ = some (.pointer (some ⟨p, 0, none⟩)) := (World.cell?_of_block (hW.block q (World.block_lt_of_cell? w _ hq))).trans hq
  refine (all1_i l q B w.heap.size p A n c xs room J Jx W hB hW.size (fun k hk => Nat.lt_of_lt_of_le (hrow k (rowAt.below hW hB hk)) hW.size) hq' (hring.keep he (by have := hring.lt; omega) (fun k hk => by have := (hring.own.at_ hk).2; omega)) hJ hY h0).mono ?_
  rintro e W' ⟨he, hj | ⟨k, hk, hj⟩⟩
  · exact ⟨he, .inl ⟨_, rfl, hj⟩⟩
  · exact ⟨he, .inr ⟨_, ⟨k, hk, rfl⟩, hj⟩⟩

/-- What has been gathered lies in box B, in a row at or beyond T. -/
def Gati (B T : Nat) (xs : List Int) (W : World) : Prop := ∃ A' c', W.heap[B]? = some (.cells #[.slice A' xs.length c'] 22) ∧ Own W T 3 1 A' xs.length c' (vsi xs)
theorem Gati.grown {B T : Nat} {xs : List Int} {W W' : World} {row : Option Nat} (h : Gati B T xs W) (hg : W.grownBy W' row) (hr : ∀ r, row = some r → ∃ o : Obj, W.heap[r]? = some o ∧ o.isCells = false) : Gati B T xs W' := by
  obtain ⟨A', c', h1, h2⟩ := h
  have he : Ext (fun k => row = some k) W W' := ⟨hg.os, hg.tape, hg.output, hg.size, fun k hk hs => hg.block k hk (fun e => hs e.symm)⟩
  refine ⟨A', c', he.keep h1 (fun e => ?_), h2.keep he (fun k hk e => ?_)⟩
  · obtain ⟨o, ho, hc⟩ := hr _ e
    rw [h1] at ho
    cases ho
    cases hc
  · obtain ⟨o, ho, hc⟩ := hr _ e
    obtain ⟨o', ho', hc'⟩ := h2.cells hk
    rw [ho'] at ho
    cases ho
    rw [hc'] at hc
    cases hc

section
variable {N : Nat} {ops : Array Oper} {rest : List Oper} {o : Oper} {a : Act} {Q : Exit → Act → World → Prop} {w : World}
theorem appIn_i (hgd : o.guard = none) (s x : Operand) (ho : o.op = .call { callee := .builtin .append, args := #[s, x], argTypes := #[22, 22] })
    (base : Nat) {A B : Option Addr} {n c m d : Nat} {xs ys : List Value} (hs : a.eval s = .slice A n c) (hx : a.eval x = .slice B m d) (hown : Own w base 3 1 A n c xs) (hr : Rd w 1 B m d ys) (hbytes : (n + m) * 8 ≤ 140737488355328) (hbase : base ≤ w.heap.size) {F : Fence}
    (h : ∀ A' c' w', Own w' base 3 1 A' (n + m) c' (xs ++ ys) → Ext (inA A) w w' → (A' = A ∨ A' = some ⟨w.heap.size, 0, none⟩) → wpListIn F N Try.prog ops Q rest (a.put o.dst (.slice A' (n + m) c')) w') :
    wpListIn F N Try.prog ops Q (o :: rest) a w :=
  wpListIn_app hgd s x _ ho base 3 (.int .i64 0) 1 8 Try.underlying22 info_i rfl (by decide) (by decide) hs hx hown hr hbytes hbase h
end
theorem upto_alli (xs : List Int) (n : Nat) (h : xs.length = n) : (upto (pri xs) n).map Prod.snd = xs := by
  subst h
  refine List.ext_getElem? (fun i => ?_)
  rw [List.getElem?_map, upto, List.getElem?_map]
  by_cases hi : i < xs.length
  · rw [List.getElem?_range hi]
    simp [pri, List.getElem?_eq_getElem hi]
  · rw [List.getElem?_eq_none (by rw [List.length_range]; omega), List.getElem?_eq_none (by omega)]
    rfl
/-- What is gathered, after one more. -/
theorem Gati.more {B T : Nat} {xs : List Int} {x : Int} {W w2 : World} {A' A2 : Option Addr} {c' c2 : Nat} {o : Obj} (hBT : B < T) (hTW : T ≤ W.heap.size) (h1 : W.heap[B]? = some (.cells #[.slice A' xs.length c'] 22)) (h2 : Own W T 3 1 A' xs.length c' (vsi xs))
    (ho : Own w2 T 3 1 A2 (xs.length + 1) c2 (vsi xs ++ [Value.int .i64 x])) (he : Ext (inA A') (W.alloc o) w2) (hA : A2 = A' ∨ A2 = some ⟨(W.alloc o).heap.size, 0, none⟩) :
    KeepsOthers W (w2.setCell ⟨B, 0, none⟩ (.slice A2 (xs.length + 1) c2)) ∧ KpB B T W (w2.setCell ⟨B, 0, none⟩ (.slice A2 (xs.length + 1) c2)) ∧ Gati B T (xs ++ [x]) (w2.setCell ⟨B, 0, none⟩ (.slice A2 (xs.length + 1) c2)) ∧ Ext (fun k => k = B ∨ T ≤ k) W (w2.setCell ⟨B, 0, none⟩ (.slice A2 (xs.length + 1) c2)) := by
  have hnB : ∀ k, inA A' k → k ≠ B := fun k hk e => by have := (h2.at_ hk).1; omega
  have hb2 : w2.heap[B]? = some (.cells #[.slice A' xs.length c'] 22) := he.keep (blk_alloc h1 _) (fun hk => hnB _ hk rfl)
  have hE : Ext (fun k => k = B ∨ inA A' k) W (w2.setCell ⟨B, 0, none⟩ (.slice A2 (xs.length + 1) c2)) :=
    (((New.alloc1 W o).to.trans (he.mono (fun k _ hk => .inr hk)) (fun _ _ h => h) : Ext (fun k => k = B ∨ inA A' k) W w2)).setCell (fun _ => .inl rfl) _
  have hb3 : (w2.setCell ⟨B, 0, none⟩ (.slice A2 (xs.length + 1) c2)).heap[B]? = some (.cells #[.slice A2 (xs.length + 1) c2] 22) := blk_set hb2 0 _
  have hcW : W.cell? ⟨B, 0, none⟩ = some (.slice A' xs.length c') := blk_cell h1 0
  refine ⟨keepsOthers_of hE ?_, ⟨hE.size, ?_, ?_⟩, ⟨A2, c2, ?_, ?_⟩, hE.mono ?_⟩
  · rintro k q (rfl | hk) hq
    · rw [h1] at hq; cases hq; rfl
    · obtain ⟨q', hq', hc⟩ := h2.cells hk
      rw [hq'] at hq; cases hq; exact hc
  · intro k q hk hr hq hc
    refine hE.keep hq ?_
    rintro (rfl | hk')
    · omega
    · exact hr ⟨A', _, _, hcW, hk'⟩
  · intro k hk hl
    obtain ⟨A3, n3, c3, h3, h4⟩ := hk
    have : (w2.setCell ⟨B, 0, none⟩ (.slice A2 (xs.length + 1) c2)).cell? ⟨B, 0, none⟩ = some (.slice A2 (xs.length + 1) c2) := blk_cell hb3 0
    rw [this] at h3
    cases h3
    rcases hA with rfl | rfl
    · exact ⟨_, _, _, hcW, h4⟩
    · have := (inA_some _ _).1 h4
      simp at this
      omega
  · rw [List.length_append]
    exact hb3
  · rw [List.length_append, vsi_append]
    refine ho.keep (((Ext.refl (fun k => k = B) w2)).setCell (fun _ => rfl) _) (fun k hk e => ?_)
    have := (ho.at_ hk).1
    omega
  · rintro k _ (rfl | hk)
    · exact .inl rfl
    · exact .inr (h2.at_ hk).1

set_option maxHeartbeats 2000000 in
theorem list_i (p : Nat) (A : Option Addr) (n c : Nat) (xs : List Int) (room : Nat) (w : World) (hring : Rngi w p A n c xs room) :
    Calls Try.prog 22 #[.pointer (some ⟨p, 0, none⟩)] w fun e w' => ∃ A' c', e = .returned (.slice A' n c') ∧ Own w' w.heap.size 3 1 A' n c' (vsi xs) ∧ New w w' := by
  refine (callsIn_wide (n := 10)).1 ?_
  refine callsIn_of_wp_marks Try.func22 rfl trivial ?_ rfl
  simp only [Try.ntmps22, List.size_toArray, List.length_cons, List.length_nil, Nat.reduceAdd, Nat.reduceSub, Array.replicate_succ, Array.replicate_zero, List.push_toArray, List.append_toArray, List.nil_append, List.cons_append]
  gi_wp2_with (refine ⟨trivial, ?_⟩; gi_at_call 32; refine (callsIn_wide.2 (all_i _ _)).mono ?_; rintro e w1 ⟨rfl, rfl⟩)
  have hlen := hring.len
  have hr2 := hring.r2
  have hle := hring.le
  have hb1 : ((w.alloc (.cells #[.slice none 0 0] 22)).alloc (.cells #[.pointer (some ⟨p, 0, none⟩)] 24)).heap[w.heap.size]? = some (.cells #[.slice none 0 0] 22) := blk_alloc (blk_new w _) _
  have hb2 : ((w.alloc (.cells #[.slice none 0 0] 22)).alloc (.cells #[.pointer (some ⟨p, 0, none⟩)] 24)).heap[w.heap.size + 1]? = some (.cells #[.pointer (some ⟨p, 0, none⟩)] 24) := by
    have := blk_new (w.alloc (.cells #[.slice none 0 0] 22)) (.cells #[.pointer (some ⟨p, 0, none⟩)] 24)
    rwa [World.size_alloc] at this
  have hn1 : New w ((w.alloc (.cells #[.slice none 0 0] 22)).alloc (.cells #[.pointer (some ⟨p, 0, none⟩)] 24)) := by (repeat (first | exact Ext.refl _ _ | assumption | apply Ext.alloc | apply Ext.drewN | apply Ext.drew | refine Ext.setCell ?_ (fun h => by first | rfl | exact absurd h (by dsimp only; omega)) _))
  have hs1 : ((w.alloc (.cells #[.slice none 0 0] 22)).alloc (.cells #[.pointer (some ⟨p, 0, none⟩)] 24)).heap.size = w.heap.size + 2 := by simp
  generalize (w.alloc (.cells #[.slice none 0 0] 22)).alloc (.cells #[.pointer (some ⟨p, 0, none⟩)] 24) = w1 at *
  refine wpIn_rangeFunc_ownF rfl (by omega) (gf := 43) (lb := #[.pointer (some ⟨w.heap.size + 1, 0, none⟩)]) rfl trivial (enters_of Try.func43 (by kernel_rfl) rfl)
    (stops_i (w.heap.size + 1) w.heap.size p A n c xs room w1 (by omega) ?hrow ((blk_cell hb2 0).trans rfl) (hring.new hn1)) (fun h k => h.trans k) (KpB.put (by omega)) (Below.refl _ _) (fun _ => rfl)
    (fun (pre : List (Nat × Int)) W => Gati w.heap.size (w.heap.size + 2) (pre.map Prod.snd) W ∧ Below w.heap.size w1 W) (fun _ _ _ => False)
    (OwnFrom.and (fun s X Y row hs hg hr => hs.grown hg (fun r e => (hr r e).2)) (ownFrom_below (by omega) (by omega))) (fun _ _ _ _ _ hs _ _ => hs)
    ⟨⟨none, 0, hb1, Own.nil _ _ _ _⟩, Below.refl _ _⟩
    (fun x => { tmps := #[.pointer (some ⟨p, 0, none⟩), undef, .slice none 0 0, .pointer (some ⟨w.heap.size, 0, none⟩), undef, Value.int .i64 x.2, .pointer (some ⟨p, 0, none⟩), .func (.func 43) #[] #[.pointer (some ⟨w.heap.size + 1, 0, none⟩)], .int .i64 (x.1 : Int), Value.int .i64 x.2, undef, undef, undef, undef, undef], defers := [] }) ?assign ?body ?done ?stop
  case hrow =>
    rintro k ⟨A3, n3, c3, h3, h4⟩
    rw [blk_cell hb1 0] at h3
    cases h3
    exact absurd h4 (inA_none k)
  case assign =>
    intro l x W K hK
    unfold eni
    gi_wp2
    exact hK
  case body =>
    rintro l pre x W ⟨⟨A', c', hb, hown⟩, hlow⟩ hpl
    obtain ⟨ys, hys⟩ : ∃ ys, ys = pre.map Prod.snd := ⟨_, rfl⟩
    have hyl : ys.length < n := by rw [hys, List.length_map]; exact hpl
    rw [← hys] at hb hown
    have HY := hide hys
    clear hys
    have hc0 : W.cell? ⟨w.heap.size, 0, none⟩ = some (.slice A' ys.length c') := (blk_cell hb 0).trans rfl
    have hT : w.heap.size + 2 ≤ W.heap.size := by have := hlow.size; omega
    gi_wp2_with (gi_at_builtin; refine appIn_i rfl _ _ rfl (w.heap.size + 2) rfl rfl (hown.new (New.alloc1 _ _)) (rd_box _ _ _ rfl) (by omega) (by simp; omega) ?_; intro A2 c2 w2 ho2 he2 hA2; have hb3 := he2.keep (blk_alloc hb _) (fun hk => by have := (hown.at_ hk).1; omega); have k0 : w2.cell? ⟨w.heap.size, 0, none⟩ = some (.slice A' ys.length c') := (blk_cell hb3 0).trans rfl; have k1 := blk_free hb3 0)
    obtain ⟨m1, m2, m3, m4⟩ := Gati.more (T := w.heap.size + 2) (by omega) hT hb hown ho2 he2 hA2
    refine ⟨m1, by rw [hs1]; exact m2, ?_, hlow.trans (m4.below (fun k hk h => by omega) (by omega))⟩
    rw [List.map_append, ← HY.out]
    exact m3
  case done =>
    rintro D ys W hD rfl ⟨⟨A', c', hb, hown⟩, hlow⟩ hK
    have hall : (upto (pri xs) n).map Prod.snd = xs := upto_alli xs n hlen
    rw [hall, hlen] at hb hown
    have hc0 : W.cell? ⟨w.heap.size, 0, none⟩ = some (.slice A' n c') := (blk_cell hb 0).trans rfl
    have HA := hide hall
    clear hall
    gi_wp2
    refine ⟨by simp, .inl ⟨_, _, rfl, run_takeDeferred hK, ?_⟩⟩
    have hp := grownBy_putObj' W D (.deferred none)
    have he : Ext (fun k => k = D) W (W.putObj D (.deferred none)) := ⟨hp.os, hp.tape, hp.output, hp.size, fun k hk hs => hp.block k hk (fun e => hs (Option.some.inj e))⟩
    refine ⟨_, results_tmp rfl _ _ _, A', c', rfl, (hown.keep he (fun k hk e => ?_)).le (by omega), ?_⟩
    · subst e
      obtain ⟨o, ho, hc⟩ := hown.cells hk
      rw [hK] at ho
      cases ho
      cases hc
    · exact New.of_below ((hn1.below.trans hlow).trans (belowK_b (w := w) (Nat.le_refl _) W D _ _ (by omega) hK rfl rfl))
  case stop =>
    rintro D c pre W _ _ h _
    exact h.elim
end Go.Proofs.Ytafeeafccbdkfaa
