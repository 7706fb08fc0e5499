/- The ring's iterator over keys: its contract. -/
import Derived.Test.YtmonhhodbinagaaK25
namespace Go.Proofs.Ytmonhhodbinagaa
open Go.RowKit Go.Shelf
attribute [local go_sem] Oper.semAt_some
set_option maxRecDepth 100000

set_option maxHeartbeats 400000 in
theorem all_k (q : Option Addr) (w : World) :
    Calls Try.prog 39 #[.pointer q] w fun e w' => e = .returned (.func (.func 48) #[] #[.pointer (some ⟨w.heap.size, 0, none⟩)]) ∧ w' = w.alloc (.cells #[.pointer q] 66) := by
  go_enter Try.func39, Try.ntmps39
  go_wp2_with fail
  go_ret
  exact ⟨rfl, rfl⟩
def prK (xs : List (Int × Int)) (j : Nat) : Nat × (Int × Int) := (j, xs[j]?.getD (0, 0))
def enK (x : Nat × (Int × Int)) : Array Value := #[.int .i64 (x.1 : Int), kV x.2]

set_option maxHeartbeats 2000000 in
theorem all1_k (l q B T p : Nat) (A : Option Addr) (n c : Nat) (xs : List (Int × Int)) (room : Nat) (J Jx : List (Nat × (Int × Int)) → World → Prop) (W : World) (hB : B < T) (hT : T ≤ W.heap.size) (hrow : ∀ k, rowAt W B k → k < W.heap.size)
    (hq : W.cell? ⟨q, 0, none⟩ = some (.pointer (some ⟨p, 0, none⟩))) (hring : Rngk W p A n c xs room) (hJ : AbidesFrom W.heap.size J)
    (hY : ∀ pre x W1, J pre W1 → pre.length < n → YieldAt Fence.wide 8 Try.prog l (enK x) W1 fun e W' => (e = .returned (.bool true) ∧ J (pre ++ [x]) W' ∧ KpB B T W1 W') ∨ (e = .returned (.bool false) ∧ Jx (pre ++ [x]) W'))
    (h0 : J [] W) :
    CallsIn Fence.wide 9 Try.prog 48 #[.func (.yield l) #[] #[], .pointer (some ⟨q, 0, none⟩)] W fun e W' => (∃ v, e = .returned v) ∧ (J (upto (prK xs) n) W' ∨ ∃ k, k ≤ n ∧ Jx (upto (prK xs) k) W') := by
  have hlen := hring.len
  have hr2 := hring.r2
  have hle := hring.le
  have c0 := hring.c0
  refine callsIn_of_wp Try.func48 rfl trivial ?_ rfl
  simp only [Try.ntmps48, List.size_toArray, List.length_cons, List.length_nil, Nat.reduceAdd, Nat.reduceSub, Array.replicate_succ, Array.replicate_zero, List.push_toArray, List.append_toArray, List.nil_append, List.cons_append]
  have HL := hide hlen
  clear hlen
  gi_wp2_with (first | (refine ⟨trivial, ?_⟩; gi_at_call 40; refine (callsIn_wide.2 (none_k p A n c xs room _ hring)).mono ?_; rintro e w1 ⟨rfl, rfl⟩) | (refine ⟨trivial, ?_⟩; gi_at_call 31; refine (callsIn_wide.2 (clone_k A n c _ _ hring.own.rd (by omega))).mono ?_; rintro e w2 ⟨A2, c2, rfl, ho2, hn2⟩))
  have hJ2 : J [] w2 := hJ _ _ _ none h0 hn2.grown (fun r e => by cases e)
  have hrow2 : ∀ k, rowAt w2 B k → k < W.heap.size := fun k hk => hrow k (rowAt.new hn2 (by omega) hk)
  gi_loopw [14] (fun s14 wr => ∃ k : Nat, k ≤ n ∧ s14 = .int .i64 k ∧ J (upto (prK xs) k) wr ∧ (∀ i, inA A2 i → wr.heap[i]? = w2.heap[i]? ∧ ¬ rowAt wr B i)) (fun i _ => n - (intOf i).toNat)
  case atStart => exact ⟨0, Nat.zero_le _, rfl, hJ2, fun i hi => ⟨rfl, fun hr => by have := hrow2 i hr; have := (ho2.at_ hi).1; omega⟩⟩
  case round =>
    obtain ⟨k, hk, rfl, hJk, hkeep⟩ := hrel
    by_cases hlt : k < n
    · obtain ⟨ad, rfl⟩ := ho2.rd.some (by omega)
      have hx : xs[k]? = some (xs[k]?.getD (0, 0)) := by
        rw [List.getElem?_eq_getElem (by rw [HL.out]; exact hlt)]; rfl
      obtain ⟨hcx2, hcx3⟩ := ho2.rd.cellk hx
      have hkb := hkeep ad.block ⟨ad, rfl, rfl⟩
      have hcx : wr.cell? (ad.add (k * 2)) = some (.int .i64 (xs[k]?.getD (0, 0)).1) := by rw [World.cell?_of_block (w := w2) (by rw [add_block]; exact hkb.1)]; exact hcx2
      have hcy : wr.cell? ⟨(ad.add (k * 2)).block, (ad.add (k * 2)).off + 1, none⟩ = some (.int .i64 (xs[k]?.getD (0, 0)).2) := by rw [World.cell?_of_block (w := w2) (by dsimp only; rw [add_block]; exact hkb.1)]; exact hcx3
      obtain ⟨fn, tmps, assign, body, hy, hR⟩ := hY _ (prK xs k) wr hJk (by rw [upto_length]; exact hlt)
      dsimp only [enK, prK] at hy
      have HX := hide hx
      clear hx
      gi_wp2
      refine hR.mono ?_
      rintro e W3 (⟨rfl, hJ3, hk3⟩ | ⟨rfl, hJx3⟩)
      · gi_wp2
        go_roundw
        case rel => exact ⟨k + 1, by omega, by simp, by rw [upto_succ]; exact hJ3, fun i hi => by
          have h1 := hkeep i hi
          obtain ⟨o, ho, hc⟩ := ho2.cells hi
          have hol : i < wr.heap.size := blk_lt (h1.1.trans ho)
          exact ⟨(hk3.same i o (by have := (ho2.at_ hi).1; omega) h1.2 (h1.1.trans ho) hc).trans ho.symm, fun hr => h1.2 (hk3.row i hr hol)⟩⟩
        case measure => simp [intOf]; omega
      · gi_wp2
        refine bodyPost_ret (results_none rfl _ _ _) rfl ?_
        exact ⟨⟨_, rfl⟩, .inr ⟨k + 1, by omega, by rw [upto_succ]; exact hJx3⟩⟩
    · obtain rfl : k = n := by omega
      gi_wp2
      go_end0
      exact ⟨⟨_, rfl⟩, .inl hJk⟩
theorem stops_k (q B p : Nat) (A : Option Addr) (n c : Nat) (xs : List (Int × Int)) (room : Nat) (w : World) (hB : B < w.heap.size) (hrow : ∀ k, rowAt w B k → k < w.heap.size) (hq : w.cell? ⟨q, 0, none⟩ = some (.pointer (some ⟨p, 0, none⟩))) (hring : Rngk w p A n c xs room) :
    SeqStopsK Fence.wide 9 Try.prog 48 #[.pointer (some ⟨q, 0, none⟩)] enK (KpB B w.heap.size) (fun ys => ys = upto (prK xs) n) (fun pre => ∃ k, k ≤ n ∧ pre = upto (prK xs) k) n w := fun l J Jx W hW hJ _ hY h0 => by
  have he : Ext (fun k => w.heap.size ≤ k) w W := Ext.of_below hW
  have hq' : W.cell? ⟨q, 0, none⟩ = some (.pointer (some ⟨p, 0, none⟩)) := (World.cell?_of_block (hW.block q (World.block_lt_of_cell? w _ hq))).trans hq
  refine (all1_k l q B w.heap.size p A n c xs room J Jx W hB hW.size (fun k hk => Nat.lt_of_lt_of_le (hrow k (rowAt.below hW hB hk)) hW.size) hq' (hring.keep he (by have := hring.lt; omega) (fun k hk => by have := (hring.own.at_ hk).2; omega)) hJ hY h0).mono ?_
  rintro e W' ⟨he, hj | ⟨k, hk, hj⟩⟩
  · exact ⟨he, .inl ⟨_, rfl, hj⟩⟩
  · exact ⟨he, .inr ⟨_, ⟨k, hk, rfl⟩, hj⟩⟩

/-- What has been gathered lies in box B, in a row at or beyond T. -/
def GatK (B T : Nat) (xs : List (Int × Int)) (W : World) : Prop := ∃ A' c', W.heap[B]? = some (.cells #[.slice A' xs.length c'] 39) ∧ Own W T 30 2 A' xs.length c' (kcs xs)
theorem GatK.grown {B T : Nat} {xs : List (Int × Int)} {W W' : World} {row : Option Nat} (h : GatK B T xs W) (hg : W.grownBy W' row) (hr : ∀ r, row = some r → ∃ o : Obj, W.heap[r]? = some o ∧ o.isCells = false) : GatK B T xs W' := by
  obtain ⟨A', c', h1, h2⟩ := h
  have he : Ext (fun k => row = some k) W W' := ⟨hg.os, hg.tape, hg.output, hg.size, fun k hk hs => hg.block k hk (fun e => hs e.symm)⟩
  refine ⟨A', c', he.keep h1 (fun e => ?_), h2.keep he (fun k hk e => ?_)⟩
  · obtain ⟨o, ho, hc⟩ := hr _ e
    rw [h1] at ho
    cases ho
    cases hc
  · obtain ⟨o, ho, hc⟩ := hr _ e
    obtain ⟨o', ho', hc'⟩ := h2.cells hk
    rw [ho'] at ho
    cases ho
    rw [hc'] at hc
    cases hc

section
variable {N : Nat} {ops : Array Oper} {rest : List Oper} {o : Oper} {a : Act} {Q : Exit → Act → World → Prop} {w : World}
theorem appIn_k (hgd : o.guard = none) (s x : Operand) (ho : o.op = .call { callee := .builtin .append, args := #[s, x], argTypes := #[39, 39] })
    (base : Nat) {A B : Option Addr} {n c m d : Nat} {xs ys : List Value} (hs : a.eval s = .slice A n c) (hx : a.eval x = .slice B m d) (hown : Own w base 30 2 A n c xs) (hr : Rd w 2 B m d ys) (hbytes : (n + m) * 16 ≤ 140737488355328) (hbase : base ≤ w.heap.size) {F : Fence}
    (h : ∀ A' c' w', Own w' base 30 2 A' (n + m) c' (xs ++ ys) → Ext (inA A) w w' → (A' = A ∨ A' = some ⟨w.heap.size, 0, none⟩) → wpListIn F N Try.prog ops Q rest (a.put o.dst (.slice A' (n + m) c')) w') :
    wpListIn F N Try.prog ops Q (o :: rest) a w :=
  wpListIn_app hgd s x _ ho base 30 (.agg #[.int .i64 0, .int .i64 0]) 2 16 Try.underlying39 info_k rfl (by decide) (by decide) hs hx hown hr hbytes hbase h
end
theorem upto_allK (xs : List (Int × Int)) (n : Nat) (h : xs.length = n) : (upto (prK xs) n).map Prod.snd = xs := by
  subst h
  refine List.ext_getElem? (fun i => ?_)
  rw [List.getElem?_map, upto, List.getElem?_map]
  by_cases hi : i < xs.length
  · rw [List.getElem?_range hi]
    simp [prK, List.getElem?_eq_getElem hi]
  · rw [List.getElem?_eq_none (by rw [List.length_range]; omega), List.getElem?_eq_none (by omega)]
    rfl
/-- What is gathered, after one more. -/
theorem GatK.more {B T : Nat} {xs : List (Int × Int)} {x : (Int × Int)} {W w2 : World} {A' A2 : Option Addr} {c' c2 : Nat} {o : Obj} (hBT : B < T) (hTW : T ≤ W.heap.size) (h1 : W.heap[B]? = some (.cells #[.slice A' xs.length c'] 39)) (h2 : Own W T 30 2 A' xs.length c' (kcs xs))
    (ho : Own w2 T 30 2 A2 (xs.length + 1) c2 (kcs xs ++ kcs [x])) (he : Ext (inA A') (W.alloc o) w2) (hA : A2 = A' ∨ A2 = some ⟨(W.alloc o).heap.size, 0, none⟩) :
    KeepsOthers W (w2.setCell ⟨B, 0, none⟩ (.slice A2 (xs.length + 1) c2)) ∧ KpB B T W (w2.setCell ⟨B, 0, none⟩ (.slice A2 (xs.length + 1) c2)) ∧ GatK B T (xs ++ [x]) (w2.setCell ⟨B, 0, none⟩ (.slice A2 (xs.length + 1) c2)) ∧ Ext (fun k => k = B ∨ T ≤ k) W (w2.setCell ⟨B, 0, none⟩ (.slice A2 (xs.length + 1) c2)) := by
  have hnB : ∀ k, inA A' k → k ≠ B := fun k hk e => by have := (h2.at_ hk).1; omega
  have hb2 : w2.heap[B]? = some (.cells #[.slice A' xs.length c'] 39) := he.keep (blk_alloc h1 _) (fun hk => hnB _ hk rfl)
  have hE : Ext (fun k => k = B ∨ inA A' k) W (w2.setCell ⟨B, 0, none⟩ (.slice A2 (xs.length + 1) c2)) :=
    (((New.alloc1 W o).to.trans (he.mono (fun k _ hk => .inr hk)) (fun _ _ h => h) : Ext (fun k => k = B ∨ inA A' k) W w2)).setCell (fun _ => .inl rfl) _
  have hb3 : (w2.setCell ⟨B, 0, none⟩ (.slice A2 (xs.length + 1) c2)).heap[B]? = some (.cells #[.slice A2 (xs.length + 1) c2] 39) := blk_set hb2 0 _
  have hcW : W.cell? ⟨B, 0, none⟩ = some (.slice A' xs.length c') := blk_cell h1 0
  refine ⟨keepsOthers_of hE ?_, ⟨hE.size, ?_, ?_⟩, ⟨A2, c2, ?_, ?_⟩, hE.mono ?_⟩
  · rintro k q (rfl | hk) hq
    · rw [h1] at hq; cases hq; rfl
    · obtain ⟨q', hq', hc⟩ := h2.cells hk
      rw [hq'] at hq; cases hq; exact hc
  · intro k q hk hr hq hc
    refine hE.keep hq ?_
    rintro (rfl | hk')
    · omega
    · exact hr ⟨A', _, _, hcW, hk'⟩
  · intro k hk hl
    obtain ⟨A3, n3, c3, h3, h4⟩ := hk
    have : (w2.setCell ⟨B, 0, none⟩ (.slice A2 (xs.length + 1) c2)).cell? ⟨B, 0, none⟩ = some (.slice A2 (xs.length + 1) c2) := blk_cell hb3 0
    rw [this] at h3
    cases h3
    rcases hA with rfl | rfl
    · exact ⟨_, _, _, hcW, h4⟩
    · have := (inA_some _ _).1 h4
      simp at this
      omega
  · rw [List.length_append]
    exact hb3
  · rw [List.length_append, kcs_append]
    refine ho.keep (((Ext.refl (fun k => k = B) w2)).setCell (fun _ => rfl) _) (fun k hk e => ?_)
    have := (ho.at_ hk).1
    omega
  · rintro k _ (rfl | hk)
    · exact .inl rfl
    · exact .inr (h2.at_ hk).1

end Go.Proofs.Ytmonhhodbinagaa
