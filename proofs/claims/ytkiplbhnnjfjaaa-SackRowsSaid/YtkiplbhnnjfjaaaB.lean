/- Small facts on worlds, blocks, rows and calls that the walks of this seat use; nothing of the program is claimed here. -/
import Derived.WalkSpells
import Derived.WalkLawsBesides
import Derived.BigQuiet
import Derived.Deep.QuietTactic
import Derived.Deep.LoopGhost
import Derived.Deep.RegionHeld3
import Derived.Deep.CutBlock
import Derived.KernelRfl
import Derived.ProofKit
import Derived.Handy
import Derived.OpenShut
import Derived.SizedLaws
import Derived.ChangeSlices
namespace Go.Proofs.Ytkiplbhnnjfjaaa
set_option linter.unusedVariables false
set_option linter.unusedSimpArgs false
open Go.RowKit

theorem hide {p : Prop} (h : p) : Hid p := h
/-- w' is w but for the blocks that S names, and for new blocks. -/
structure Ext (S : Nat → Prop) (w w' : World) : Prop where
  os : w'.os = w.os
  tape : w'.tape = w.tape
  output : w'.output = w.output
  size : w.heap.size ≤ w'.heap.size
  block : ∀ k, k < w.heap.size → ¬ S k → w'.heap[k]? = w.heap[k]?

theorem Ext.refl (S : Nat → Prop) (w : World) : Ext S w w := ⟨rfl, rfl, rfl, Nat.le_refl _, fun _ _ _ => rfl⟩
theorem Ext.trans {S T : Nat → Prop} {a b c : World} (h : Ext S a b) (k : Ext T b c) (hT : ∀ i, i < a.heap.size → T i → S i) : Ext S a c :=
  ⟨k.os.trans h.os, k.tape.trans h.tape, k.output.trans h.output, Nat.le_trans h.size k.size,
    fun i hi hs => (k.block i (Nat.lt_of_lt_of_le hi h.size) (fun ht => hs (hT i hi ht))).trans (h.block i hi hs)⟩
theorem Ext.mono {S T : Nat → Prop} {a b : World} (h : Ext S a b) (hT : ∀ i, i < a.heap.size → S i → T i) : Ext T a b :=
  ⟨h.os, h.tape, h.output, h.size, fun i hi hs => h.block i hi (fun ht => hs (hT i hi ht))⟩
theorem Ext.alloc {S : Nat → Prop} {a w : World} (h : Ext S a w) (o : Obj) : Ext S a (w.alloc o) :=
  ⟨h.os, h.tape, h.output, Nat.le_trans h.size (by simp), fun k hk hs => (Below.heap_alloc _ _ _ (Nat.lt_of_lt_of_le hk h.size)).trans (h.block k hk hs)⟩
theorem Ext.drew {S : Nat → Prop} {a w : World} (h : Ext S a w) : Ext S a w.drew := ⟨h.os, h.tape, h.output, h.size, h.block⟩
theorem Ext.drewN {S : Nat → Prop} {a w : World} (h : Ext S a w) (n : Nat) : Ext S a (w.drewN n) := ⟨h.os, h.tape, h.output, h.size, h.block⟩
theorem Ext.setCell {S : Nat → Prop} {a w : World} (h : Ext S a w) {p : Addr} (hp : p.block < a.heap.size → S p.block) (u : Value) : Ext S a (w.setCell p u) :=
  ⟨h.os, h.tape, h.output, Nat.le_trans h.size (by simp [World.setCell]), fun k hk hs => (Below.heap_setCell _ _ _ _ (fun e => hs (by subst e; exact hp hk))).trans (h.block k hk hs)⟩
theorem Ext.set {S : Nat → Prop} {a w : World} (h : Ext S a w) {p i : Nat} {u : Value} (hp : S p) : Ext S a (w.setCell ⟨p, i, none⟩ u) := h.setCell (fun _ => hp) u
theorem Ext.grown {S : Nat → Prop} {a w w' : World} {row : Option Nat} (h : Ext S a w) (hg : w.grownBy w' row) (hr : ∀ k, row = some k → k < a.heap.size → S k) : Ext S a w' :=
  ⟨hg.os.trans h.os, hg.tape.trans h.tape, hg.output.trans h.output, Nat.le_trans h.size hg.size,
    fun k hk hs => (hg.block k (Nat.lt_of_lt_of_le hk h.size) (fun e => hs (hr k e.symm hk))).trans (h.block k hk hs)⟩
theorem Ext.of_below {B : Nat} {w w' : World} (h : Below B w w') : Ext (fun k => B ≤ k) w w' :=
  ⟨h.os, h.tape, h.output, h.size, fun k _ hs => h.block k (by omega)⟩
theorem Ext.below {S : Nat → Prop} {B : Nat} {w w' : World} (h : Ext S w w') (hS : ∀ k, k < B → ¬ S k) (hB : B ≤ w.heap.size) : Below B w w' :=
  ⟨h.os, h.tape, h.output, h.size, fun k hk => h.block k (Nat.lt_of_lt_of_le hk hB) (hS k hk)⟩
/-- Nothing that was there has turned. -/
abbrev New (w w' : World) : Prop := Ext (fun _ => False) w w'
theorem New.below {w w' : World} (h : New w w') : Below w.heap.size w w' := Ext.below h (fun _ _ h => h) (Nat.le_refl _)
theorem New.of_below {w w' : World} (h : Below w.heap.size w w') : New w w' := (Ext.of_below h).mono (fun _ h k => absurd k (by omega))
theorem Ext.keep {S : Nat → Prop} {w w' : World} (h : Ext S w w') {k : Nat} {o : Obj} (hk : w.heap[k]? = some o) (hs : ¬ S k) : w'.heap[k]? = some o :=
  (h.block k (Array.getElem?_eq_some_iff.1 hk).1 hs).trans hk
theorem New.keep {w w' : World} (h : New w w') {k : Nat} {o : Obj} (hk : w.heap[k]? = some o) : w'.heap[k]? = some o := Ext.keep h hk (fun h => h)
theorem New.then {a b c : World} (h : New a b) (k : New b c) : New a c := h.trans k (fun _ _ h => h)
theorem New.ext {S : Nat → Prop} {a b c : World} (h : New a b) (k : Ext S b c) : Ext S a c := (h.mono (fun _ _ h => h.elim)).trans k (fun _ _ h => h)
theorem New.alloc1 (w : World) (o : Obj) : New w (w.alloc o) := (Ext.refl _ w).alloc o
theorem New.to {S : Nat → Prop} {w w' : World} (h : New w w') : Ext S w w' := h.mono (fun _ _ h => h.elim)

theorem snoc_ind {α : Type} {p : List α → Prop} (h0 : p []) (h1 : ∀ l x, p l → p (l ++ [x])) (l : List α) : p l := by
  have : ∀ r : List α, p r.reverse := by
    intro r
    induction r with
    | nil => exact h0
    | cons x r ih => rw [List.reverse_cons]; exact h1 _ _ ih
  have h := this l.reverse
  rwa [List.reverse_reverse] at h

/-! ### blocks -/
theorem blk_lt {w : World} {p : Nat} {o : Obj} (h : w.heap[p]? = some o) : p < w.heap.size := (Array.getElem?_eq_some_iff.1 h).1
theorem blk_cell {w : World} {p : Nat} {cs : Array Value} {t : TypeId} {fr : Nat × Nat} (h : w.heap[p]? = some (.cells cs t fr)) (i : Nat) : w.cell? ⟨p, i, none⟩ = cs[i]? := by
  simp [World.cell?, h]
theorem blk_free {w : World} {p : Nat} {cs : Array Value} {t : TypeId} (h : w.heap[p]? = some (.cells cs t)) (i : Nat) : w.frozen? ⟨p, i, none⟩ = false := by
  simp [World.frozen?, h]
theorem blk_set {w : World} {p : Nat} {cs : Array Value} {t : TypeId} (h : w.heap[p]? = some (.cells cs t)) (i : Nat) (v : Value) :
    (w.setCell ⟨p, i, none⟩ v).heap[p]? = some (.cells (cs.setIfInBounds i v) t) := by
  simp [World.setCell, Array.getElem?_modify, h]
theorem blk_new (w : World) (o : Obj) : (w.alloc o).heap[w.heap.size]? = some o := by
  show (w.heap.push o)[w.heap.size]? = _
  simp
theorem blk_alloc {w : World} {k : Nat} {o : Obj} (h : w.heap[k]? = some o) (o' : Obj) : (w.alloc o').heap[k]? = some o :=
  (Below.heap_alloc _ _ _ (blk_lt h)).trans h
theorem blk_other {w : World} {k : Nat} {o : Obj} (h : w.heap[k]? = some o) {p : Addr} (hp : k ≠ p.block) (v : Value) : (w.setCell p v).heap[k]? = some o :=
  (Below.heap_setCell _ _ _ _ hp).trans h

/-! ### rows that are read -/
/-- Block k is the one in which the slice's cells lie. -/
def inA (A : Option Addr) (k : Nat) : Prop := ∃ ad, A = some ad ∧ ad.block = k
theorem inA_none (k : Nat) : ¬ inA none k := fun ⟨_, h, _⟩ => by cases h
theorem inA_some (ad : Addr) (k : Nat) : inA (some ad) k ↔ ad.block = k := ⟨fun ⟨_, h, e⟩ => by cases h; exact e, fun e => ⟨ad, rfl, e⟩⟩
theorem add_block (ad : Addr) (j : Nat) : (ad.add j).block = ad.block := by unfold Addr.add; split <;> rfl
theorem add_at (g o j : Nat) : (⟨g, o, none⟩ : Addr).add j = ⟨g, o + j, none⟩ := by unfold Addr.add; split <;> simp_all

/-- The n elements, of sz cells each, of a slice value: xs. -/
structure Rd (w : World) (sz : Nat) (A : Option Addr) (n c : Nat) (xs : List Value) : Prop where
  len : xs.length = n * sz
  cap : n ≤ c
  top : c ≤ 9223372036854775807
  none_ : A = none → c = 0
  one : ∀ u ∈ xs, u.oneCell' = true
  cell : ∀ ad, A = some ad → ∀ j u, xs[j]? = some u → w.cell? (ad.add j) = some u
theorem Rd.nil (w : World) (sz : Nat) : Rd w sz none 0 0 [] := ⟨by simp, by omega, by omega, fun _ => rfl, (fun _ h => by cases h), (fun _ h => by cases h)⟩
theorem Rd.keep {S : Nat → Prop} {w w' : World} {sz n c : Nat} {A : Option Addr} {xs : List Value} (h : Rd w sz A n c xs) (he : Ext S w w') (hs : ∀ k, inA A k → ¬ S k) : Rd w' sz A n c xs :=
  ⟨h.len, h.cap, h.top, h.none_, h.one, fun ad e j u hu => by
    have hc := h.cell ad e j u hu
    rw [World.cell?_of_block (w := w)]
    · exact hc
    · exact he.block _ (World.block_lt_of_cell? w _ hc) (by rw [add_block]; exact hs _ ⟨ad, e, rfl⟩)⟩
theorem Rd.new {w w' : World} {sz n c : Nat} {A : Option Addr} {xs : List Value} (h : Rd w sz A n c xs) (he : New w w') : Rd w' sz A n c xs := h.keep he (fun _ _ h => h)
theorem Rd.n0 {w : World} {sz n c : Nat} {A : Option Addr} {xs : List Value} (h : Rd w sz A n c xs) (e : A = none) : n = 0 := by have := h.none_ e; have := h.cap; omega
theorem Rd.lt {w : World} {sz n c : Nat} {A : Option Addr} {xs : List Value} (h : Rd w sz A n c xs) (hn : 0 < n) (hz : 0 < sz) {k : Nat} (hk : inA A k) : k < w.heap.size := by
  obtain ⟨ad, rfl, rfl⟩ := hk
  have hl : 0 < xs.length := by rw [h.len]; exact Nat.mul_pos hn hz
  have := World.block_lt_of_cell? w _ (h.cell ad rfl 0 _ (List.getElem?_eq_getElem hl))
  rwa [add_block] at this
/-- Where a slice of a slice begins. -/
def sl (A : Option Addr) (c l sz : Nat) : Option Addr := if c = l then A else A.map (·.add (l * sz))
theorem sl_in {A : Option Addr} {c l sz k : Nat} (h : inA (sl A c l sz) k) : inA A k := by
  unfold sl at h
  split at h
  · exact h
  · obtain ⟨ad, e, hb⟩ := h
    cases A with
    | none => cases e
    | some a => cases e; exact ⟨a, rfl, by rw [← hb, add_block]⟩
theorem sl_zero (A : Option Addr) (c sz : Nat) : sl A c 0 sz = A := by
  unfold sl
  split
  · rfl
  · cases A with
    | none => rfl
    | some a => simp [Addr.add]
theorem add_add (a : Addr) (i j : Nat) : (a.add i).add j = a.add (i + j) := by
  unfold Addr.add
  by_cases hi : i = 0
  · simp [hi]
  · by_cases hj : j = 0
    · simp [hj]
    · rw [if_neg hi, if_neg hj, if_neg (by omega)]; simp [Nat.add_assoc]
theorem Rd.sub {w : World} {sz n c : Nat} {A : Option Addr} {xs : List Value} (h : Rd w sz A n c xs) (l k : Nat) (hlk : l ≤ k) (hk : k ≤ n) :
    Rd w sz (sl A c l sz) (k - l) (c - l) ((xs.drop (l * sz)).take ((k - l) * sz)) := by
  have hc := h.cap
  have ht := h.top
  refine ⟨?_, by omega, by omega, ?_, ?_, ?_⟩
  · rw [List.length_take, List.length_drop, h.len, ← Nat.sub_mul, Nat.min_eq_left (Nat.mul_le_mul_right _ (by omega))]
  · intro e
    unfold sl at e
    split at e
    · omega
    · cases A with
      | none => have := h.none_ rfl; omega
      | some a => cases e
  · intro u hu
    exact h.one u (List.mem_of_mem_drop (List.mem_of_mem_take hu))
  · intro ad e j u hu
    rw [List.getElem?_take] at hu
    split at hu
    · rename_i hj
      rw [List.getElem?_drop] at hu
      unfold sl at e
      split at e
      · have : k - l = 0 := by omega
        rw [this] at hj
        omega
      · cases A with
        | none => cases e
        | some a =>
          cases e
          rw [add_add]
          exact h.cell a rfl _ u hu
    · cases hu
theorem Rd.drop {w : World} {sz n c : Nat} {A : Option Addr} {xs : List Value} (h : Rd w sz A n c xs) (l : Nat) (hl : l ≤ n) : Rd w sz (sl A c l sz) (n - l) (c - l) (xs.drop (l * sz)) := by
  have := h.sub l n hl (Nat.le_refl _)
  rwa [List.take_of_length_le (by rw [List.length_drop, h.len, Nat.sub_mul]; exact Nat.le_refl _)] at this
theorem Rd.take {w : World} {sz n c : Nat} {A : Option Addr} {xs : List Value} (h : Rd w sz A n c xs) (k : Nat) (hk : k ≤ n) : Rd w sz A k c (xs.take (k * sz)) := by
  have := h.sub 0 k (Nat.zero_le _) hk
  simpa [sl_zero] using this
section
variable {P : Program}
theorem run_cut (t e sz : Nat) (ht : P.underlying t = some (.slice e)) (hi : (P.info? e).map (fun i => i.size) = some sz) (A : Option Addr) (n c : Nat) (lo hi' : Int) (l k : Nat) (e1 : lo = l) (e2 : hi' = k) (h1 : l ≤ k) (h2 : k ≤ c) (kl kh : IntKind) :
    ∀ W : World, (Instr.slice t (.slice A n c) (some (.int kl lo)) (some (.int kh hi')) none).run P W = .ok (.slice (sl A c l sz) (k - l) (c - l)) W := by
  intro W
  obtain ⟨i, hj, hz⟩ := Option.map_eq_some_iff.1 hi
  subst hz; subst e1; subst e2
  simp [Instr.slice, Instr.sliceBounds, Instr.sliceBound, run_underlying ht, sizeOf, typeInfo, hj, asIntOf, h1, h2, sl]
theorem run_cut_h (t e sz : Nat) (ht : P.underlying t = some (.slice e)) (hi : (P.info? e).map (fun i => i.size) = some sz) (A : Option Addr) (n c : Nat) (hi' : Int) (k : Nat) (e2 : hi' = k) (h2 : k ≤ c) (kh : IntKind) :
    ∀ W : World, (Instr.slice t (.slice A n c) none (some (.int kh hi')) none).run P W = .ok (.slice A k c) W := by
  intro W
  obtain ⟨i, hj, hz⟩ := Option.map_eq_some_iff.1 hi
  subst hz; subst e2
  have := sl_zero A c i.size
  unfold sl at this
  simp only [Nat.zero_mul] at this
  simp [Instr.slice, Instr.sliceBounds, Instr.sliceBound, run_underlying ht, sizeOf, typeInfo, hj, asIntOf, h2, this]
theorem run_cut_l (t e sz : Nat) (ht : P.underlying t = some (.slice e)) (hi : (P.info? e).map (fun i => i.size) = some sz) (A : Option Addr) (n c : Nat) (lo : Int) (l : Nat) (e1 : lo = l) (h1 : l ≤ n) (kl : IntKind) :
    ∀ W : World, (Instr.slice t (.slice A n c) (some (.int kl lo)) none none).run P W = .ok (.slice (sl A c l sz) (n - l) (c - l)) W := by
  intro W
  obtain ⟨i, hj, hz⟩ := Option.map_eq_some_iff.1 hi
  subst hz; subst e1
  simp [Instr.slice, Instr.sliceBounds, Instr.sliceBound, run_underlying ht, sizeOf, typeInfo, hj, asIntOf, h1, sl]
end
theorem Rd.some {w : World} {sz n c : Nat} {A : Option Addr} {xs : List Value} (h : Rd w sz A n c xs) (hn : 0 < n) : ∃ ad, A = some ad := by
  cases A with
  | none => have := h.n0 rfl; omega
  | some ad => exact ⟨ad, rfl⟩
/-- A box of one cell behind a slice of one element. -/
theorem rd_box (w : World) (t : TypeId) (u : Value) (h : u.oneCell' = true) : Rd (w.alloc (.cells #[u] t)) 1 (some ⟨w.heap.size, 0, none⟩) 1 1 [u] :=
  ⟨rfl, Nat.le_refl _, by omega, (fun h => by cases h), (fun v hv => by cases List.mem_singleton.1 hv; exact h), fun ad e j v hv => by
    cases e
    match j, hv with
    | 0, hv => cases hv; rw [add_at, blk_cell (blk_new w _)]; rfl⟩
/-- A row of the call's own, whole: nobody else's, and free to be written. -/
structure Own (w : World) (base : Nat) (e : TypeId) (sz : Nat) (A : Option Addr) (n c : Nat) (xs : List Value) : Prop where
  row : w.ownsRow base e sz (.slice A n c) n xs
  one : ∀ u ∈ xs, u.oneCell' = true
section
variable {w : World} {base n c : Nat} {e : TypeId} {sz : Nat} {A : Option Addr} {xs : List Value}
theorem Own.nil (w : World) (base : Nat) (e : TypeId) (sz : Nat) : Own w base e sz none 0 0 [] := ⟨World.ownsRow_nil w base e sz, (fun _ h => by cases h)⟩
theorem Own.lit (w : World) (base : Nat) (e : TypeId) (sz n : Nat) (cs : Array Value) (hb : base ≤ w.heap.size) (hn : n ≤ 9223372036854775807) (hs : cs.size = n * sz) (h1 : ∀ u ∈ cs.toList, u.oneCell' = true) :
    Own (w.alloc (.cells cs e)) base e sz (some ⟨w.heap.size, 0, none⟩) n n cs.toList :=
  ⟨⟨by rw [Array.length_toList]; exact hs, .inr ⟨w.heap.size, n, cs, rfl, hb, blk_new w _, Nat.le_refl _, hn, hs, by rw [← hs, ← Array.length_toList]; exact List.take_length⟩⟩, h1⟩
theorem Own.lit0 (w : World) (base : Nat) (e : TypeId) (sz : Nat) (hb : base ≤ w.heap.size) : Own (w.alloc (.cells #[] e)) base e sz (some ⟨w.heap.size, 0, none⟩) 0 0 [] :=
  Own.lit w base e sz 0 #[] hb (by omega) (by simp) (fun _ h => by cases h)
theorem Own.rd (h : Own w base e sz A n c xs) : Rd w sz A n c xs := by
  obtain ⟨hl, hh | ⟨g, cap, cur, hv, hb, hg, hn, hm, hs, ht⟩⟩ := h.row
  · obtain ⟨hv, rfl⟩ := hh
    cases hv
    exact ⟨hl, by omega, by omega, fun _ => rfl, h.one, (fun _ h => by cases h)⟩
  · cases hv
    refine ⟨hl, hn, by simp only [maxLen] at hm; omega, (fun h => by cases h), h.one, ?_⟩
    intro ad e j u hu
    cases e
    exact h.row.cells (g := g) rfl j u hu
theorem Own.at_ (h : Own w base e sz A n c xs) {k : Nat} (hk : inA A k) : base ≤ k ∧ k < w.heap.size := by
  obtain ⟨ad, rfl, rfl⟩ := hk
  exact h.row.lt _ rfl
theorem Own.keep {S : Nat → Prop} {w' : World} (h : Own w base e sz A n c xs) (he : Ext S w w') (hs : ∀ k, inA A k → ¬ S k) : Own w' base e sz A n c xs := by
  refine ⟨⟨h.row.1, ?_⟩, h.one⟩
  rcases h.row.2 with hn | ⟨g, cap, cur, hv, hb, hgg, rest⟩
  · exact .inl hn
  · cases hv
    exact .inr ⟨g, c, cur, rfl, hb, he.keep hgg (hs g ⟨_, rfl, rfl⟩), rest⟩
theorem Own.new {w' : World} (h : Own w base e sz A n c xs) (he : New w w') : Own w' base e sz A n c xs := h.keep he (fun _ _ h => h)
theorem Own.rebase {base' : Nat} (h : Own w base e sz A n c xs) (hb : ∀ k, inA A k → base' ≤ k) : Own w base' e sz A n c xs := by
  refine ⟨⟨h.row.1, ?_⟩, h.one⟩
  rcases h.row.2 with hn | ⟨g, cap, cur, hv, hb', hgg, rest⟩
  · exact .inl hn
  · cases hv
    exact .inr ⟨g, c, cur, rfl, hb g ⟨_, rfl, rfl⟩, hgg, rest⟩
theorem Own.le {base' : Nat} (h : Own w base e sz A n c xs) (hb : base' ≤ base) : Own w base' e sz A n c xs := h.rebase (fun _ hk => Nat.le_trans hb (h.at_ hk).1)
theorem Own.to {w' : World} (h : Own w base e sz A n c xs) {S : Nat → Prop} (he : Ext S w w') (hs : ∀ k, base ≤ k → k < w.heap.size → ¬ S k) : Own w' base e sz A n c xs := h.keep he (fun k hk => hs k (h.at_ hk).1 (h.at_ hk).2)
end

/-- What is appended to a row of one's own: nothing elder has turned. -/
theorem new_app {w wr w2 : World} {e : TypeId} {sz n c : Nat} {A : Option Addr} {xs : List Value} (hn : New w wr) (ho : Own wr w.heap.size e sz A n c xs) (o : Obj) (he : Ext (inA A) (wr.alloc o) w2) : New w w2 :=
  (hn.alloc o).trans he (fun _ hi h => by have := (ho.at_ h).1; omega)
theorem new_app0 {w wr w2 : World} {e : TypeId} {sz n c : Nat} {A : Option Addr} {xs : List Value} (hn : New w wr) (ho : Own wr w.heap.size e sz A n c xs) (he : Ext (inA A) wr w2) : New w w2 :=
  hn.trans he (fun _ hi h => by have := (ho.at_ h).1; omega)

theorem new_lit {w w2 : World} {o : Obj} (he : Ext (inA (some ⟨w.heap.size, 0, none⟩)) (w.alloc o) w2) : New w w2 :=
  (New.alloc1 w o).trans he (fun i hi h => by have h := (inA_some _ _).1 h; have h : w.heap.size = i := h; omega)

/-! ### append -/
section
variable {P : Program}
theorem run_app (w : World) (base : Nat) (t ty e : TypeId) (z : Value) (sz bytes : Nat) (ht : P.underlying t = some (.slice e)) (hinfo : (P.info? e).map (fun i => (i.zero, i.size, i.bytes)) = some (some z, sz, bytes)) (hzs : z.cells.size = sz) (hsz : 0 < sz) (hb0 : 0 < bytes)
    {A B : Option Addr} {n c m d : Nat} {xs ys : List Value} (hown : Own w base e sz A n c xs) (hr : Rd w sz B m d ys) (hbytes : (n + m) * bytes ≤ 140737488355328) (hbase : base ≤ w.heap.size) :
    ∃ A' c' w', (Builtin.append_ #[t, t] ty #[.slice A n c, .slice B m d]).run P w = .ok (.slice A' (n + m) c') w' ∧ Own w' base e sz A' (n + m) c' (xs ++ ys) ∧ Ext (inA A) w w' ∧ (A' = A ∨ A' = some ⟨w.heap.size, 0, none⟩) := by
  obtain ⟨i, hi, hzz⟩ := Option.map_eq_some_iff.1 hinfo
  simp only [Prod.mk.injEq] at hzz
  obtain ⟨hz, hsize, hby⟩ := hzz
  have hlen : n + m ≤ 140737488355328 := Nat.le_trans (Nat.le_mul_of_pos_right _ hb0) hbytes
  have hone : ∀ u ∈ xs ++ ys, u.oneCell' = true := fun u hu => (List.mem_append.1 hu).elim (hown.one u) (hr.one u)
  rcases B with _ | ad
  · obtain rfl : m = 0 := hr.n0 rfl
    obtain rfl : ys = [] := List.eq_nil_of_length_eq_zero (by simpa using hr.len)
    refine ⟨A, c, w, ?_, by simpa using hown, Ext.refl _ _, .inl rfl⟩
    have hc := hown.rd.cap
    cases A <;> simp [Builtin.append_, run_underlying ht, sizeOf, typeInfo, hi, Builtin.lenOf, Builtin.firstCells, hc, storeCells]
  · obtain ⟨v', w', hrun, ho, hg, _, hat⟩ := run_append_own_at (P := P) w base t ty e i z sz bytes ht hi hz hsize hby hzs hsz (.slice A n c) n xs hown.row ad m d ys hr.len (hr.cell ad rfl) hr.one (by simp only [maxLen]; omega) hbytes hbase
    have hA : ∃ A' c', v' = .slice A' (n + m) c' ∧ (A' = A ∨ A' = some ⟨w.heap.size, 0, none⟩) := by
      rcases ho.2 with ⟨rfl, h0⟩ | ⟨g, cap, cur, rfl, _⟩
      · refine ⟨none, 0, by rw [h0], ?_⟩
        rcases hat with hat | hat
        · cases A with
          | none => exact .inl rfl
          | some a => simp [Value.ownBlock] at hat
        · simp [Value.ownBlock] at hat
      · refine ⟨_, _, rfl, ?_⟩
        rcases hat with hat | hat
        · cases A with
          | none => simp [Value.ownBlock] at hat
          | some a =>
            rcases hown.row.2 with ⟨hv, _⟩ | ⟨g', cap', cur', hv, _⟩
            · cases hv
            · cases hv
              simp [Value.ownBlock] at hat
              exact .inl (by rw [hat])
        · simp [Value.ownBlock] at hat
          exact .inr (by rw [hat])
    obtain ⟨A', c', rfl, hA'⟩ := hA
    refine ⟨A', c', w', hrun, ⟨ho, hone⟩, ⟨hg.os, hg.tape, hg.output, hg.size, fun k hk hs => hg.block k hk (fun e => hs ?_)⟩, hA'⟩
    cases A with
    | none => simp [Value.ownBlock] at e
    | some a => simp [Value.ownBlock] at e; exact ⟨a, rfl, e.symm⟩
theorem wpList_app {w : World} {ops : Array Oper} {rest : List Oper} {o : Oper} {a : Act} {Q : Exit → Act → World → Prop} (hgd : o.guard = none) (s x : Operand) (t : TypeId)
    (ho : o.op = .call { callee := .builtin .append, args := #[s, x], argTypes := #[t, t] })
    (base : Nat) (e : TypeId) (z : Value) (sz bytes : Nat) (ht : P.underlying t = some (.slice e)) (hinfo : (P.info? e).map (fun i => (i.zero, i.size, i.bytes)) = some (some z, sz, bytes)) (hzs : z.cells.size = sz) (hsz : 0 < sz) (hb0 : 0 < bytes)
    {A B : Option Addr} {n c m d : Nat} {xs ys : List Value} (hs : a.eval s = .slice A n c) (hx : a.eval x = .slice B m d) (hown : Own w base e sz A n c xs) (hr : Rd w sz B m d ys) (hbytes : (n + m) * bytes ≤ 140737488355328) (hbase : base ≤ w.heap.size)
    (h : ∀ A' c' w', Own w' base e sz A' (n + m) c' (xs ++ ys) → Ext (inA A) w w' → (A' = A ∨ A' = some ⟨w.heap.size, 0, none⟩) → wpList P ops Q rest (a.put o.dst (.slice A' (n + m) c')) w') :
    wpList P ops Q (o :: rest) a w := by
  refine wpList_plain hgd fun K hK => ?_
  obtain ⟨A', c', w', hrun, h2, h3, h4⟩ := run_app (P := P) w base t o.type e z sz bytes ht hinfo hzs hsz hb0 hown hr hbytes hbase
  unfold Oper.wp execOp
  simp only [ho, resolve, invoke, builtin, Sem.run_bind, Sem.run_pure, Result.andThen_ok, List.map_toArray, List.map_cons, List.map_nil, hs, hx, hrun]
  exact hK _ _ (h A' c' w' h2 h3 h4)
end

/-! ### single operations -/
section
variable {P : Program} {w : World} {ops : Array Oper} {rest : List Oper} {o : Oper} {a : Act} {Q : Exit → Act → World → Prop}
theorem wpList_value (hw : Region.wanted o (yielded ops a.tmps) = true) {v : Value} {w' : World} (hrun : (execOp a.eval o).run P w = .ok (.value v) w') (h : wpList P ops Q rest (a.put o.dst v) w') : wpList P ops Q (o :: rest) a w := by
  unfold wpList
  rw [if_pos hw]
  refine .inl ?_
  unfold Oper.wp
  rw [hrun]
  exact h
theorem wpList_app_g (hw : Region.wanted o (yielded ops a.tmps) = true) (s x : Operand) (t : TypeId)
    (ho : o.op = .call { callee := .builtin .append, args := #[s, x], argTypes := #[t, t] })
    (base : Nat) (e : TypeId) (z : Value) (sz bytes : Nat) (ht : P.underlying t = some (.slice e)) (hinfo : (P.info? e).map (fun i => (i.zero, i.size, i.bytes)) = some (some z, sz, bytes)) (hzs : z.cells.size = sz) (hsz : 0 < sz) (hb0 : 0 < bytes)
    {A B : Option Addr} {n c m d : Nat} {xs ys : List Value} (hs : a.eval s = .slice A n c) (hx : a.eval x = .slice B m d) (hown : Own w base e sz A n c xs) (hr : Rd w sz B m d ys) (hbytes : (n + m) * bytes ≤ 140737488355328) (hbase : base ≤ w.heap.size)
    (h : ∀ A' c' w', Own w' base e sz A' (n + m) c' (xs ++ ys) → Ext (inA A) w w' → (A' = A ∨ A' = some ⟨w.heap.size, 0, none⟩) → wpList P ops Q rest (a.put o.dst (.slice A' (n + m) c')) w') :
    wpList P ops Q (o :: rest) a w := by
  obtain ⟨A', c', w', hrun, h2, h3, h4⟩ := run_app (P := P) w base t o.type e z sz bytes ht hinfo hzs hsz hb0 hown hr hbytes hbase
  refine wpList_value hw (v := .slice A' (n + m) c') (w' := w') ?_ (h A' c' w' h2 h3 h4)
  unfold execOp
  simp only [ho, resolve, invoke, builtin, Sem.run_bind, Sem.run_pure, Result.andThen_ok, List.map_toArray, List.map_cons, List.map_nil, hs, hx, hrun]
/-- Cells of bytes. -/
def bts (l : List Int) : List Value := l.map fun x => .int .u8 x
theorem bts_length (l : List Int) : (bts l).length = l.length := by simp [bts]
theorem bts_append (l l' : List Int) : bts (l ++ l') = bts l ++ bts l' := by simp [bts]
theorem bts_take (l : List Int) (k : Nat) : (bts l).take k = bts (l.take k) := by simp [bts]
theorem bts_drop (l : List Int) (k : Nat) : (bts l).drop k = bts (l.drop k) := by simp [bts]
theorem bts_one (l : List Int) : ∀ u ∈ bts l, u.oneCell' = true := by
  intro u hu
  obtain ⟨_, _, rfl⟩ := List.mem_map.1 hu
  rfl
theorem bts_snoc (l : List Int) (x : Int) : bts l ++ [.int .u8 x] = bts (l ++ [x]) := by simp [bts]
theorem bts_get (l : List Int) (k : Nat) (h : k < l.length) : (bts l)[k]? = some (.int .u8 (l.getD k 0)) := by
  simp [bts, List.getElem?_eq_getElem h, List.getD_eq_getElem?_getD]
theorem run_str (src e dst : TypeId) (hs : P.underlying src = some (.slice e)) (he : P.underlying e = some (.int .u8)) (hd : P.underlying dst = some .string) {A : Option Addr} {n c : Nat} {l : List Int} (hr : Rd w 1 A n c (bts l)) :
    (convert src dst (.slice A n c)).run P w = .ok (.string (strOfNums l)) w := by
  have hl : l.length = n := by have := hr.len; rw [bts_length] at this; omega
  cases A with
  | none =>
    obtain rfl := hr.n0 rfl
    obtain rfl : l = [] := List.eq_nil_of_length_eq_zero hl
    exact run_convert_bytes_nil w src e hs he 0 c dst hd
  | some ad =>
    have hld : (loadCells ad n).run P w = .ok (l.map (Value.int .u8)).toArray w := by
      have := run_loadCells_list (P := P) w ad (l.map (Value.int .u8)) (fun j v hj => hr.cell ad rfl j v hj)
      simpa [hl] using this
    rw [run_convert_bytes_string w src dst e ad n c hs he hd, run_bytesToString w ad n c l hld, foldl_push_bytes]
    simp [strOfNums, ByteArray.empty, ByteArray.emptyWithCapacity]
    rfl
theorem wpList_str (hw : Region.wanted o (yielded ops a.tmps) = true) (src dst : TypeId) (x : Operand) (ho : o.op = .convert src dst x) (e : TypeId)
    (hs : P.underlying src = some (.slice e)) (he : P.underlying e = some (.int .u8)) (hd : P.underlying dst = some .string) {A : Option Addr} {n c : Nat} (hx : a.eval x = .slice A n c) (l : List Int) (hr : Rd w 1 A n c (bts l))
    (h : wpList P ops Q rest (a.put o.dst (.string (strOfNums l))) w) : wpList P ops Q (o :: rest) a w := by
  refine wpList_value hw ?_ h
  unfold execOp
  simp only [ho, hx, Sem.run_bind, run_str src e dst hs he hd hr, Result.andThen_ok, Sem.run_pure]
end
theorem rd_lit (w : World) (e : TypeId) (sz n : Nat) (cs : Array Value) (hn : n ≤ 9223372036854775807) (hs : cs.size = n * sz) (h1 : ∀ u ∈ cs.toList, u.oneCell' = true) : Rd (w.alloc (.cells cs e)) sz (some ⟨w.heap.size, 0, none⟩) n n cs.toList :=
  (Own.lit w 0 e sz n cs (Nat.zero_le _) hn hs h1).rd
/-- A written-out row of bytes. -/
theorem rd_bytes (w : World) (e : TypeId) (l : List Int) (hn : l.length ≤ 9223372036854775807) : Rd (w.alloc (.cells (bts l).toArray e)) 1 (some ⟨w.heap.size, 0, none⟩) l.length l.length (bts l) :=
  rd_lit w e 1 l.length (bts l).toArray hn (by simp [bts]) (bts_one l)

/-! ### an argument that is a slice of numbers -/
open Go.ChangeShapes Go.WideShapes in
theorem open_numbers {H : Type} {enc : TypeId × Value → H} {P : Program} {W : World} {t0 e : TypeId} {k : IntKind} {a : Option Addr} {len cap : Nat} {d : DataW H} {ps : List MemPlace} {ts : List TypeId} {ds : List (DataW H)}
    (hu : P.underlying t0 = some (.slice e)) (he : P.underlying e = some (.int k)) (hc : P.cellsOf e = 1) {B : Nat} (hB : P.bytesOf e = B) {j : Nat} {t : TypeId}
    (hsz : (DataW.weightsEach P ts ds).all (· ≤ reachBytes) = true) (ht : ts[j]? = some t0) (hd : ds[j]? = some d) (h : DataW.Trod enc P W 0 (fun _ => true) true t0 (.slice a len cap) d ps) :
    ∃ l : List Int, Rd W 1 a len cap (l.map (Value.int k)) ∧ (∀ x ∈ l, (Lit.int k x).wf = true) ∧ len * B ≤ 140737488351232 := by
  obtain ⟨fuel, hf⟩ := h
  rcases open_ints hu he hc hf with ⟨hcs, _⟩ | ⟨x, l, c, zs, hcs, _, hl, hm, hz, hx, hcell, hwf⟩
  · simp [Value.cells] at hcs
    obtain ⟨rfl, rfl, rfl⟩ := hcs
    exact ⟨[], Rd.nil W 1, (fun _ h => by cases h), by omega⟩
  · simp [Value.cells] at hcs
    obtain ⟨rfl, rfl, rfl⟩ := hcs
    obtain ⟨hx, _⟩ := Prod.mk.inj hx
    subst hx
    have z := sized_slice hsz ht hd hu
    rw [hB] at z
    have hz' : zs.length = cap := by simpa using hz
    have h1 : (lits (H := H) k (zs.take len)).length + (lits (H := H) k (zs.drop len)).length = zs.length := by
      simp [lits]
      omega
    rw [h1, hz'] at z
    refine ⟨zs.take len, ⟨by simp; omega, hl, by simp only [maxLen] at hm; omega, (fun h => by cases h), ?_, ?_⟩, fun y hy => hwf y (List.mem_of_mem_take hy), Nat.le_trans (Nat.mul_le_mul_right _ hl) z⟩
    · intro u hu
      obtain ⟨_, _, rfl⟩ := List.mem_map.1 hu
      rfl
    · intro ad e j u hu
      cases e
      rw [List.getElem?_map] at hu
      obtain ⟨y, hy, rfl⟩ := Option.map_eq_some_iff.1 hu
      rw [List.getElem?_take] at hy
      split at hy
      · rename_i hj
        rw [hcell j (by omega), List.getD_eq_getElem?_getD, hy]
        rfl
      · cases hy
end Go.Proofs.Ytkiplbhnnjfjaaa
