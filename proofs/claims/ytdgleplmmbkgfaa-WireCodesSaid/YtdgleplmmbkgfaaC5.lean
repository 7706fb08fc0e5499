/- Walks: a reader of bytes. -/
import Derived.Test.YtdgleplmmbkgfaaC4
namespace Go.Proofs.Ytdgleplmmbkgfaa
open Go.RowKit
set_option maxRecDepth 100000

/-- Block p is a reader that has the slice A m c left. -/
def Rdr (w : World) (p : Nat) (A : Option Addr) (m c : Nat) (g : Bool) : Prop := w.heap[p]? = some (.cells #[.slice A m c, .bool g] 74)
theorem Rdr.c0 {w : World} {p : Nat} {A : Option Addr} {m c : Nat} {g : Bool} (h : Rdr w p A m c g) : w.cell? ⟨p, 0, none⟩ = some (.slice A m c) := (blk_cell h 0).trans rfl
theorem Rdr.c1 {w : World} {p : Nat} {A : Option Addr} {m c : Nat} {g : Bool} (h : Rdr w p A m c g) : w.cell? ⟨p, 1, none⟩ = some (.bool g) := (blk_cell h 1).trans rfl
theorem Rdr.f {w : World} {p : Nat} {A : Option Addr} {m c : Nat} {g : Bool} (h : Rdr w p A m c g) (i : Nat) : w.frozen? ⟨p, i, none⟩ = false := blk_free h i
theorem Rdr.keep {S : Nat → Prop} {w w' : World} {p : Nat} {A : Option Addr} {m c : Nat} {g : Bool} (h : Rdr w p A m c g) (he : Ext S w w') (hs : ¬ S p) : Rdr w' p A m c g := Ext.keep he h hs

set_option maxHeartbeats 400000 in
theorem bad_any (p : Nat) (A : Option Addr) (m c : Nat) (g : Bool) (w : World) (h : Rdr w p A m c g) :
    Calls Try.prog 47 #[.pointer (some ⟨p, 0, none⟩)] w fun e w' => e = .returned (.tuple #[]) ∧ Rdr w' p none 0 0 false ∧ Ext (fun k => k = p) w w' := by
  have c0 := h.c0
  have c1 := h.c1
  have f0 := h.f 0
  have f1 := h.f 1
  go_enter Try.func47, Try.ntmps47
  go_wp2
  go_end0
  exact ⟨rfl, blk_set (blk_set h 0 _) 1 _, ((Ext.refl _ w).set (by rfl)).set (by rfl)⟩

set_option maxHeartbeats 400000 in
theorem isBad_any (p : Nat) (A : Option Addr) (m c : Nat) (g : Bool) (w : World) (h : Rdr w p A m c g) :
    Calls Try.prog 45 #[.pointer (some ⟨p, 0, none⟩)] w fun e w' => e = .returned (.bool !g) ∧ w = w' := by
  have c1 := h.c1
  go_enter Try.func45, Try.ntmps45
  go_wp2
  go_ret
  exact ⟨rfl, rfl⟩
set_option maxHeartbeats 400000 in
theorem isBad_nil (w : World) : Calls Try.prog 45 #[.pointer none] w fun e w' => e = .returned (.bool true) ∧ w = w' := by
  go_enter Try.func45, Try.ntmps45
  go_wp2
  go_ret
  exact ⟨rfl, rfl⟩

set_option maxHeartbeats 400000 in
theorem number_yes (p : Nat) (A : Option Addr) (m c : Nat) (l : List Int) (size : Nat) (w : World) (h : Rdr w p A m c true) (hr : Rd w 1 A m c (bts l)) (hl : isB l) (hm : size ≤ m) (h1 : 1 ≤ size) (h8 : size ≤ 8) :
    Calls Try.prog 27 #[.pointer (some ⟨p, 0, none⟩), .int .i64 size] w fun e w' => e = .returned (.int .u64 (getN (l.take size))) ∧ Rdr w' p (sl A c size 1) (m - size) (c - size) true ∧ Ext (fun k => k = p) w w' := by
  have c0 := h.c0
  have f0 := h.f 0
  go_enter Try.func27, Try.ntmps27
  go_wp2_with (first | (go_at_call 45; refine (isBad_any p A m c true _ h).mono ?_; rintro e w1 ⟨rfl, rfl⟩) | (go_at_call 46; refine (get_yes A m c l size _ hr hl hm h1 h8).mono ?_; rintro e w1 ⟨rfl, nd, rfl⟩))
  go_ret
  exact ⟨rfl, blk_set (w := w.drewN nd) h 0 _, ((Ext.refl _ w).drewN nd).set (by rfl)⟩

set_option maxHeartbeats 400000 in
theorem number_no (p : Nat) (A : Option Addr) (m c : Nat) (size : Int) (w : World) (h : Rdr w p A m c true) (hs : size < 1 ∨ 8 < size ∨ m < size) :
    Calls Try.prog 27 #[.pointer (some ⟨p, 0, none⟩), .int .i64 size] w fun e w' => e = .returned (.int .u64 0) ∧ Rdr w' p none 0 0 false ∧ Ext (fun k => k = p) w w' := by
  have c0 := h.c0
  go_enter Try.func27, Try.ntmps27
  go_wp2_with (first | (go_at_call 45; refine (isBad_any p A m c true _ h).mono ?_; rintro e w1 ⟨rfl, rfl⟩) | (go_at_call 46; refine (get_no A m c size _ hs).mono ?_; rintro e w1 ⟨rfl, rfl⟩) | (go_at_call 47; refine (bad_any p A m c true _ h).mono ?_; rintro e w1 ⟨rfl, hb1, he1⟩))
  go_ret
  exact ⟨rfl, hb1, he1⟩

set_option maxHeartbeats 400000 in
theorem number_bad (p : Nat) (A : Option Addr) (m c : Nat) (size : Int) (w : World) (h : Rdr w p A m c false) :
    Calls Try.prog 27 #[.pointer (some ⟨p, 0, none⟩), .int .i64 size] w fun e w' => e = .returned (.int .u64 0) ∧ w = w' := by
  go_enter Try.func27, Try.ntmps27
  go_wp2_with (go_at_call 45; refine (isBad_any p A m c false _ h).mono ?_; rintro e w1 ⟨rfl, rfl⟩)
  go_ret
  exact ⟨rfl, rfl⟩
set_option maxHeartbeats 400000 in
theorem number_nil (size : Int) (w : World) : Calls Try.prog 27 #[.pointer none, .int .i64 size] w fun e w' => e = .returned (.int .u64 0) ∧ w = w' := by
  go_enter Try.func27, Try.ntmps27
  go_wp2_with (go_at_call 45; refine (isBad_nil _).mono ?_; rintro e w1 ⟨rfl, rfl⟩)
  go_ret
  exact ⟨rfl, rfl⟩

set_option maxHeartbeats 400000 in
theorem take_yes (p : Nat) (A : Option Addr) (m c : Nat) (xs : List Value) (k : Nat) (w : World) (h : Rdr w p A m c true) (hr : Rd w 1 A m c xs) (hk : k ≤ m) (hm : m ≤ 140737488355328) :
    Calls Try.prog 28 #[.pointer (some ⟨p, 0, none⟩), .int .i64 k] w fun e w' => ∃ A' c', e = .returned (.slice A' k c') ∧ Own w' w.heap.size 5 1 A' k c' (xs.take k) ∧ Rdr w' p (sl A c k 1) (m - k) (c - k) true ∧ Ext (fun k => k = p) w w' := by
  have c0 := h.c0
  have f0 := h.f 0
  have b1 : decide (m < k) = false := decide_eq_false (by omega)
  have s1 := run_cut_h (P := Try.prog) 23 5 1 Try.underlying23 size_u8 A m c k k rfl (by have := hr.cap; omega) .i64
  have s2 := run_cut_l (P := Try.prog) 23 5 1 Try.underlying23 size_u8 A m c k k rfl hk .i64
  have hr' := hr.take k hk
  rw [Nat.mul_one] at hr'
  go_enter Try.func28, Try.ntmps28
  go_wp2_with (first | (go_at_call 45; refine (isBad_any p A m c true _ h).mono ?_; rintro e w1 ⟨rfl, rfl⟩) | (go_at_call 41; refine (clone_any A k c _ _ hr' (by omega)).mono ?_; rintro e w1 ⟨A1, c1, rfl, ho1, hn1⟩; have h' := h.keep hn1 (fun h => h); have c0' := h'.c0; have f0' := h'.f 0))
  go_ret
  exact ⟨A1, c1, rfl, ho1.keep ((Ext.refl (fun k => k = p) w1).setCell (fun _ => rfl) _) (fun i hi e => by have := (ho1.at_ hi).1; have := blk_lt h; omega), blk_set h' 0 _, (hn1.to).set (by rfl)⟩

set_option maxHeartbeats 400000 in
theorem take_no (p : Nat) (A : Option Addr) (m c : Nat) (k : Int) (w : World) (h : Rdr w p A m c true) (hk : k < 0 ∨ m < k) :
    Calls Try.prog 28 #[.pointer (some ⟨p, 0, none⟩), .int .i64 k] w fun e w' => e = .returned (.slice none 0 0) ∧ Rdr w' p none 0 0 false ∧ Ext (fun k => k = p) w w' := by
  have c0 := h.c0
  by_cases h0 : k < 0
  · go_enter Try.func28, Try.ntmps28
    go_wp2_with (first | (go_at_call 45; refine (isBad_any p A m c true _ h).mono ?_; rintro e w1 ⟨rfl, rfl⟩) | (go_at_call 47; refine (bad_any p A m c true _ h).mono ?_; rintro e w1 ⟨rfl, hb1, he1⟩))
    go_ret
    exact ⟨rfl, hb1, he1⟩
  · have b0 : decide (k < 0) = false := decide_eq_false h0
    have b1 : decide ((m : Int) < k) = true := decide_eq_true (by omega)
    go_enter Try.func28, Try.ntmps28
    go_wp2_with (first | (go_at_call 45; refine (isBad_any p A m c true _ h).mono ?_; rintro e w1 ⟨rfl, rfl⟩) | (go_at_call 47; refine (bad_any p A m c true _ h).mono ?_; rintro e w1 ⟨rfl, hb1, he1⟩))
    go_ret
    exact ⟨rfl, hb1, he1⟩

set_option maxHeartbeats 400000 in
theorem take_bad (p : Nat) (A : Option Addr) (m c : Nat) (k : Int) (w : World) (h : Rdr w p A m c false) :
    Calls Try.prog 28 #[.pointer (some ⟨p, 0, none⟩), .int .i64 k] w fun e w' => e = .returned (.slice none 0 0) ∧ w = w' := by
  go_enter Try.func28, Try.ntmps28
  go_wp2_with (go_at_call 45; refine (isBad_any p A m c false _ h).mono ?_; rintro e w1 ⟨rfl, rfl⟩)
  go_ret
  exact ⟨rfl, rfl⟩

set_option maxHeartbeats 400000 in
theorem new_any (A : Option Addr) (m c : Nat) (w : World) :
    Calls Try.prog 25 #[.slice A m c] w fun e w' => ∃ p, e = .returned (.pointer (some ⟨p, 0, none⟩)) ∧ w.heap.size ≤ p ∧ Rdr w' p A m c true ∧ New w w' := by
  go_enter Try.func25, Try.ntmps25
  go_wp2
  go_ret
  exact ⟨w.heap.size, rfl, Nat.le_refl _, blk_new w _, New.alloc1 w _⟩
end Go.Proofs.Ytdgleplmmbkgfaa
