/- Walks: a packet of bytes. -/
import Derived.Test.YtdgleplmmbkgfaaV10
namespace Go.Proofs.Ytdgleplmmbkgfaa
open Go.RowKit
set_option maxRecDepth 100000

abbrev zeroP (t : TypeId) : Obj := .cells #[.int .i64 0, .int .i64 0, .int .i64 0, .int .i64 0, .int .i64 0, .int .i64 0, .int .i64 0, .int .i64 0, .slice none 0 0] t
theorem nine {α : Type} {cs : Array α} (h : cs.size = 9) : ∃ b0 b1 b2 b3 b4 b5 b6 b7 b8, cs = #[b0, b1, b2, b3, b4, b5, b6, b7, b8] := by
  obtain ⟨l⟩ := cs
  match l, h with
  | [b0, b1, b2, b3, b4, b5, b6, b7, b8], _ => exact ⟨b0, b1, b2, b3, b4, b5, b6, b7, b8, rfl⟩
theorem set9 {w : World} {X : Nat} {cs : Array Value} {t : TypeId} (h : w.heap[X]? = some (.cells cs t)) (hc : cs.size = 9) (a0 a1 a2 a3 a4 a5 a6 a7 a8 : Value) :
    ∃ w', w' = ((((((((w.setCell ⟨X, 0, none⟩ a0).setCell ⟨X, 1, none⟩ a1).setCell ⟨X, 2, none⟩ a2).setCell ⟨X, 3, none⟩ a3).setCell ⟨X, 4, none⟩ a4).setCell ⟨X, 5, none⟩ a5).setCell ⟨X, 6, none⟩ a6).setCell ⟨X, 7, none⟩ a7).setCell ⟨X, 8, none⟩ a8 ∧ w'.heap[X]? = some (.cells #[a0, a1, a2, a3, a4, a5, a6, a7, a8] t) ∧ Ext (fun j => j = X) w w' := by
  refine ⟨_, rfl, ?_, ?_⟩
  · have h0 := blk_set h 0 a0
    have h1 := blk_set h0 1 a1
    have h2 := blk_set h1 2 a2
    have h3 := blk_set h2 3 a3
    have h4 := blk_set h3 4 a4
    have h5 := blk_set h4 5 a5
    have h6 := blk_set h5 6 a6
    have h7 := blk_set h6 7 a7
    have h8 := blk_set h7 8 a8
    clear h h0 h1 h2 h3 h4 h5 h6 h7
    rw [h8]
    clear h8
    obtain ⟨b0, b1, b2, b3, b4, b5, b6, b7, b8, rfl⟩ := nine hc
    simp
  · iterate 9 refine Ext.set (S := fun j => j = X) ?_ (show (fun j => j = X) X from rfl)
    exact Ext.refl _ w
/-- Where Decode stands: q the reader, F its box, R the result. -/
structure DS (w wr : World) (q F R : Nat) (A : Option Addr) (n : Nat) (l : List Int) (k : Nat) : Prop where
  rd : RdAt wr q A n l k
  f : wr.heap[F]? = some (.cells #[.pointer (some ⟨q, 0, none⟩)] 54)
  r : wr.heap[R]? = some (zeroP 25)
  n : New w wr
  qlo : w.heap.size ≤ q
  flo : w.heap.size ≤ F
  rlo : w.heap.size ≤ R
  qF : F ≠ q
  qR : R ≠ q
  qlt : q < wr.heap.size
  qA : ∀ j, inA A j → j ≠ q
  lA : ∀ j, inA A j → j < w.heap.size
namespace DS
variable {w wr wr' : World} {q F R : Nat} {A : Option Addr} {n : Nat} {l : List Int} {k k' : Nat}
theorem step (h : DS w wr q F R A n l k) (hr : RdAt wr' q A n l k') (he : Ext (fun j => j = q) wr wr') : DS w wr' q F R A n l k' :=
  ⟨hr, he.keep h.f h.qF, he.keep h.r h.qR, h.n.trans he (fun j hj e => by have := h.qlo; omega), h.qlo, h.flo, h.rlo, h.qF, h.qR, Nat.lt_of_lt_of_le h.qlt he.size, h.qA, h.lA⟩
theorem new (h : DS w wr q F R A n l k) (he : New wr wr') : DS w wr' q F R A n l k :=
  ⟨h.rd.new he, he.keep h.f, he.keep h.r, h.n.then he, h.qlo, h.flo, h.rlo, h.qF, h.qR, Nat.lt_of_lt_of_le h.qlt he.size, h.qA, h.lA⟩
theorem keepX (h : DS w wr q F R A n l k) {X : Nat} (he : Ext (fun j => j = X) wr wr') (hX : w.heap.size ≤ X) (hq : X ≠ q) (hF : X ≠ F) (hR : X ≠ R) : DS w wr' q F R A n l k :=
  ⟨h.rd.keep he (fun e => hq e.symm) (fun j hj e => by have := h.lA j hj; omega), he.keep h.f (fun e => hF e.symm), he.keep h.r (fun e => hR e.symm), h.n.trans he (fun j hj e => by omega), h.qlo, h.flo, h.rlo, h.qF, h.qR, Nat.lt_of_lt_of_le h.qlt he.size, h.qA, h.lA⟩
theorem cf (h : DS w wr q F R A n l k) : wr.cell? ⟨F, 0, none⟩ = some (.pointer (some ⟨q, 0, none⟩)) := (blk_cell h.f 0).trans rfl
theorem flt (h : DS w wr q F R A n l k) : F < wr.heap.size := blk_lt h.f
theorem rlt (h : DS w wr q F R A n l k) : R < wr.heap.size := blk_lt h.r
end DS
end Go.Proofs.Ytdgleplmmbkgfaa
