/- Walks: a ring of ints: Pop, Len. -/
import Derived.Test.YtafeeafccbdkfaaQ1i
namespace Go.Proofs.Ytafeeafccbdkfaa
open Go.RowKit
set_option maxRecDepth 100000

set_option maxHeartbeats 800000 in
theorem pop_i (p : Nat) (A : Option Addr) (n c : Nat) (x : Int) (xs : List Int) (room : Nat) (w : World) (h : Rngi w p A n c (x :: xs) room) :
    Calls Try.prog 25 #[.pointer (some ⟨p, 0, none⟩)] w fun e w' => ∃ A' c', e = .returned (.tuple #[Value.int .i64 x, .bool true]) ∧ Rngi w' p A' (n - 1) c' xs room ∧ Ext (Tch p A) w w' ∧ Frs w A A' := by
  have c0 := h.c0
  have hlen := h.len
  have hr2 := h.r2
  have hle := h.le
  have hpl := h.lt
  have h1n : 1 ≤ n := by rw [← hlen]; simp
  have s1 := run_cut_l (P := Try.prog) 22 3 1 Try.underlying22 size_i A n c 1 1 rfl h1n .i64
  have HL := hide hlen
  clear hlen
  go_enter Try.func25, Try.ntmps25
  go_wp2_with fail
  refine (peek_i p A n c (x :: xs) room 0 x _ h rfl).mono ?_
  rintro e w1 ⟨rfl, rfl⟩
  go_wp2_with fail
  have hd := h.own.rd.dropi 1 h1n
  refine (clone_i _ (n - 1) _ _ _ hd (by omega)).mono ?_
  rintro e w2 ⟨A2, c2, rfl, ho2, hn2⟩
  have hp2 := hn2.keep h.blk
  have k0 : w2.cell? ⟨p, 0, none⟩ = some (.slice A n c) := blk_cell hp2 0
  have k1 := blk_free hp2 0
  go_wp2_with fail
  go_ret2
  have hs2 := ((Ext.refl (fun k => k = p) w2).set (by rfl) : Ext (fun k => k = p) w2 (w2.setCell ⟨p, 0, none⟩ (.slice A2 (n - 1) c2)))
  refine ⟨A2, c2, rfl, ⟨blk_set hp2 0 _, ?_, h.r1, h.r2, by omega⟩, ?_, ?_⟩
  · exact (ho2.keep hs2 (fun k hk e => by have := (ho2.at_ hk).1; omega)).rebase (fun k hk => by have := (ho2.at_ hk).1; omega)
  · exact (hn2.to).trans (hs2.mono (fun k _ hk => .inl hk)) (fun _ _ h => h)
  · intro k hk
    exact .inr (ho2.at_ hk).1

set_option maxHeartbeats 800000 in
theorem pop_no_i (p : Nat) (A : Option Addr) (c : Nat) (room : Nat) (w : World) (h : Rngi w p A 0 c [] room) :
    Calls Try.prog 25 #[.pointer (some ⟨p, 0, none⟩)] w fun e w' => e = .returned (.tuple #[(.int .i64 0), .bool false]) ∧ w = w' := by
  go_enter Try.func25, Try.ntmps25
  go_wp2_with fail
  refine (peek_no_i p A 0 c [] room 0 _ h (.inr (by omega))).mono ?_
  rintro e w1 ⟨rfl, rfl⟩
  go_wp2_with fail
  go_ret2
  exact ⟨rfl, rfl⟩

set_option maxHeartbeats 800000 in
theorem len_i (p : Nat) (A : Option Addr) (n c : Nat) (xs : List Int) (room : Nat) (w : World) (h : Rngi w p A n c xs room) :
    Calls Try.prog 23 #[.pointer (some ⟨p, 0, none⟩)] w fun e w' => e = .returned (.int .i64 n) ∧ w = w' := by
  have c0 := h.c0
  go_enter Try.func23, Try.ntmps23
  go_wp2_with fail
  refine (none_i p A n c xs room _ h).mono ?_
  rintro e w1 ⟨rfl, rfl⟩
  go_wp2_with fail
  go_ret
  exact ⟨rfl, rfl⟩

set_option maxHeartbeats 400000 in
/-- The iterator, made: a box that holds the ring's pointer; the closure has captured it. -/
theorem all_i (q : Option Addr) (w : World) :
    Calls Try.prog 32 #[.pointer q] w fun e w' => e = .returned (.func (.func 43) #[] #[.pointer (some ⟨w.heap.size, 0, none⟩)]) ∧ w' = w.alloc (.cells #[.pointer q] 24) := by
  go_enter Try.func32, Try.ntmps32
  go_wp2_with fail
  go_ret
  exact ⟨rfl, rfl⟩
end Go.Proofs.Ytafeeafccbdkfaa
