/- Walks: Extents, Lates: what is told of each. -/
import Derived.Test.YtconaojkonjheaaT9
namespace Go.Proofs.Ytconaojkonjheaa
open Go.RowKit Go.Maps
set_option maxRecDepth 100000

theorem info_i : (Try.prog.info? 3).map (fun i => (i.zero, i.size, i.bytes)) = some (some (.int .i64 0), 1, 8) := by kernel_rfl
theorem vsi_append (l k : List Int) : vsi (l ++ k) = vsi l ++ vsi k := by simp [vsi]
section
variable {ops : Array Oper} {rest : List Oper} {o : Oper} {a : Act} {Q : Exit → Act → World → Prop} {w : World}
theorem app_i (hgd : o.guard = none) (s x : Operand) (ho : o.op = .call { callee := .builtin .append, args := #[s, x], argTypes := #[22, 22] })
    (base : Nat) {A B : Option Addr} {n c m d : Nat} {xs ys : List Value} (hs : a.eval s = .slice A n c) (hx : a.eval x = .slice B m d) (hown : Own w base 3 1 A n c xs) (hr : Rd w 1 B m d ys) (hbytes : (n + m) * 8 ≤ 140737488355328) (hbase : base ≤ w.heap.size)
    (h : ∀ A' c' w', Own w' base 3 1 A' (n + m) c' (xs ++ ys) → Ext (inA A) w w' → (A' = A ∨ A' = some ⟨w.heap.size, 0, none⟩) → wpList Try.prog ops Q rest (a.put o.dst (.slice A' (n + m) c')) w') :
    wpList Try.prog ops Q (o :: rest) a w :=
  wpList_app hgd s x _ ho base 3 (.int .i64 0) 1 8 Try.underlying22 info_i rfl (by decide) (by decide) hs hx hown hr hbytes hbase h
end
/-- What g tells of each, by those ahead of it. -/
def gs (g : List Int → Int → Int) (l : List Int) : List Int := (l.foldl (fun s x => (s.1 ++ [x], s.2 ++ [g s.1 x])) (([], []) : List Int × List Int)).2
theorem gs_snoc (g : List Int → Int → Int) (l : List Int) (x : Int) : gs g (l ++ [x]) = gs g l ++ [g l x] := by
  have h : ∀ l : List Int, (l.foldl (fun s x => (s.1 ++ [x], s.2 ++ [g s.1 x])) (([], []) : List Int × List Int)).1 = l := fun l => by
    induction l using snoc_ind with
    | h0 => rfl
    | h1 l x ih => rw [List.foldl_append]; show _ ++ [x] = _; rw [ih]
  unfold gs
  rw [List.foldl_append]
  show _ ++ [g _ x] = _
  rw [h]
theorem gs_len (g : List Int → Int → Int) (l : List Int) : (gs g l).length = l.length := by
  induction l using snoc_ind with
  | h0 => rfl
  | h1 l x ih => rw [gs_snoc]; simp [ih]

/-- A meter, and a row of the call's own beside it. -/
structure Bes (w wr : World) (p b : Nat) (A : Option Addr) (n c : Nat) (l : List Int) (hs : List (Int × Int)) (Ao : Option Addr) (m co : Nat) (out : List Int) : Prop where
  ms : MS wr p b A n c l hs
  ow : Own wr w.heap.size 3 1 Ao m co (vsi out)
  dj : ∀ k, inA Ao k → ¬ Tm p b A k
  hp : w.heap.size ≤ p
  hb : w.heap.size ≤ b
  hA : ∀ k, inA A k → w.heap.size ≤ k
  nw : New w wr
theorem Tm.lt {w : World} {p b : Nat} {A : Option Addr} {n c : Nat} {l : List Int} {hs : List (Int × Int)} (h : MS w p b A n c l hs) : ∀ k, Tm p b A k → k < w.heap.size := by
  rintro k (rfl | rfl | hk)
  · exact h.met.blk.lt
  · exact h.met.set.lt
  · exact (h.met.own.at_ hk).2
namespace Bes
variable {w wr w' : World} {p b : Nat} {A : Option Addr} {n c : Nat} {l : List Int} {hs : List (Int × Int)} {Ao : Option Addr} {m co : Nat} {out : List Int}
theorem add (h : Bes w wr p b A n c l hs Ao m co out) {A' : Option Addr} {n' c' : Nat} {l' : List Int} {hs' : List (Int × Int)} (hm : MS w' p b A' n' c' l' hs') (he : Ext (Tm p b A) wr w') (hf : ∀ k, inA A' k → inA A k ∨ wr.heap.size ≤ k) : Bes w w' p b A' n' c' l' hs' Ao m co out := by
  have hlow := h.ms.low h.hp h.hb h.hA
  refine ⟨hm, h.ow.keep he h.dj, fun k hk ht => ?_, h.hp, h.hb, (fun j hj => (hf j hj).elim (h.hA j) (fun h1 => Nat.le_trans h.nw.size h1)), h.nw.trans he (fun k hk ht => by have := hlow k ht; omega)⟩
  rcases ht with e | e | e
  · exact h.dj k hk (.inl e)
  · exact h.dj k hk (.inr (.inl e))
  · rcases hf k e with h1 | h1
    · exact h.dj k hk (.inr (.inr h1))
    · have := (h.ow.at_ hk).2; omega
theorem app (h : Bes w wr p b A n c l hs Ao m co out) {A' : Option Addr} {m' c' : Nat} {out' : List Int} {o : Obj} (ho : Own w' w.heap.size 3 1 A' m' c' (vsi out')) (he : Ext (inA Ao) (wr.alloc o) w') (hA : A' = Ao ∨ A' = some ⟨(wr.alloc o).heap.size, 0, none⟩) : Bes w w' p b A n c l hs A' m' c' out' := by
  have he' : Ext (inA Ao) wr w' := (New.alloc1 wr o).to.trans he (fun _ _ h => h)
  have hlt := Tm.lt h.ms
  refine ⟨⟨⟨h.ms.met.blk.keep he' (fun hk => h.dj _ hk (.inl rfl)), h.ms.met.set.keep he' (fun hk => h.dj _ hk (.inr (.inl rfl))), h.ms.met.own.keep he' (fun k hk hj => h.dj k hj (.inr (.inr hk))), h.ms.met.np, h.ms.met.ris⟩, h.ms.hs_, h.ms.le⟩, ho, fun k hk ht => ?_, h.hp, h.hb, h.hA, h.nw.trans he' (fun k hk hj => by have := (h.ow.at_ hj).1; omega)⟩
  rcases hA with rfl | rfl
  · exact h.dj k hk ht
  · have h1 := (inA_some _ _).1 hk
    have h1 : (wr.alloc o).heap.size = k := h1
    have := hlt k ht
    simp at h1
    omega
end Bes
end Go.Proofs.Ytconaojkonjheaa
