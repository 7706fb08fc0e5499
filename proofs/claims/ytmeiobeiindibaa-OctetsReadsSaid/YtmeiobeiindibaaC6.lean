/- Walks: the example. -/
import Derived.Test.YtmeiobeiindibaaC5
namespace Go.Proofs.Ytmeiobeiindibaa
open Go.RowKit
set_option maxRecDepth 100000

theorem put_lit (A : Option Addr) (m c : Nat) (xs : List Value) (sz : Int) (size : Nat) (n : Int) (w : World) (e : sz = size) (hr : Rd w 1 A m c xs) (hn : m ≤ 140737488355000) (h1 : 1 ≤ size) (h8 : size ≤ 8) :
    Calls Try.prog 6 #[.slice A m c, .int .i64 sz, .int .u64 n] w fun e w' => ∃ A' c', e = .returned (.slice A' (m + size) c') ∧ Own w' w.heap.size 5 1 A' (m + size) c' (xs ++ bts (putL size n size)) ∧ New w w' := by
  subst e
  exact put_yes A m c xs size n w hr hn h1 h8
theorem get_lit (A : Option Addr) (m c : Nat) (l : List Int) (sz : Int) (size : Nat) (w : World) (e : sz = size) (hr : Rd w 1 A m c (bts l)) (hl : isB l) (hm : size ≤ m) (h1 : 1 ≤ size) (h8 : size ≤ 8) :
    Calls Try.prog 7 #[.slice A m c, .int .i64 sz] w fun e w' => e = .returned (.tuple #[.int .u64 (getN (l.take size)), .slice (sl A c size 1) (m - size) (c - size), .bool true]) ∧ ∃ nd, w' = w.drewN nd := by
  subst e
  exact get_yes A m c l size w hr hl hm h1 h8
theorem number_lit (p : Nat) (A : Option Addr) (m c : Nat) (l : List Int) (sz : Int) (size : Nat) (w : World) (e : sz = size) (h : Rdr w p A m c true) (hr : Rd w 1 A m c (bts l)) (hl : isB l) (hm : size ≤ m) (h1 : 1 ≤ size) (h8 : size ≤ 8) :
    Calls Try.prog 15 #[.pointer (some ⟨p, 0, none⟩), .int .i64 sz] w fun e w' => e = .returned (.int .u64 (getN (l.take size))) ∧ Rdr w' p (sl A c size 1) (m - size) (c - size) true ∧ Ext (fun k => k = p) w w' := by
  subst e
  exact number_yes p A m c l size w h hr hl hm h1 h8

set_option maxHeartbeats 1000000 in
theorem awake_any (w : World) : Calls Try.prog 10 #[] w fun e w' => e = .returned (.bool true) ∧ New w w' := by
  go_enter Try.func10, Try.ntmps10
  go_wp2_with fail
  refine (put_lit none 0 0 [] 3 3 258 _ rfl (Rd.nil _ _) (by omega) (by omega) (by omega)).mono ?_
  rintro e w1 ⟨A1, c1, rfl, ho1, hn1⟩
  simp only [Nat.zero_add, List.nil_append] at ho1
  go_wp2_with fail
  refine (get_lit _ 4 4 [0, 1, 2, 9] 3 3 _ rfl (rd_bytes w1 _ [0, 1, 2, 9] (by decide)) (by intro x hx; simp at hx; omega) (by omega) (by omega) (by omega)).mono ?_
  rintro e w2 ⟨rfl, nd, rfl⟩
  go_wp2_with fail
  refine (new_any _ 1 1 _).mono ?_
  rintro e w3 ⟨p, rfl, hp3, hr3, hn3⟩
  have hn13 : New w1 w3 := New.then (by (repeat (first | exact Ext.refl _ _ | assumption | apply Ext.alloc | apply Ext.drewN | apply Ext.drew))) hn3
  have ho3 := ho1.new hn13
  have hl7 := (rd_bytes _ 5 [7] (by decide)).new hn3
  simp only [World.size_alloc, World.heap_drewN, World.size_drew, List.length_cons, List.length_nil, Nat.zero_add] at hl7
  have e1 : strOfNums (putL 3 258 3) = ⟨#[0, 1, 2]⟩ := by decide +kernel
  have e2 : getN [0, 1, 2] = 258 := by decide +kernel
  go_wp2_with (refine wpList_str rfl _ _ _ rfl 5 Try.underlying22 Try.underlying5 Try.underlying9 rfl (putL 3 258 3) ho3.rd ?_)
  refine (number_lit p _ 1 1 [7] 1 1 _ rfl hr3 hl7 (by intro x hx; simp at hx; omega) (by omega) (by omega) (by omega)).mono ?_
  rintro e w4 ⟨rfl, hr4, he4⟩
  have e3 : getN (List.take 1 [7]) = 7 := by decide +kernel
  go_wp2_with fail
  refine (isBad_any p _ _ _ _ _ hr4).mono ?_
  rintro e w5 ⟨rfl, rfl⟩
  go_wp2_with fail
  refine (number_no p _ _ _ 1 _ hr4 (by omega)).mono ?_
  rintro e w6 ⟨rfl, hr6, he6⟩
  go_wp2_with fail
  refine (isBad_any p _ _ _ _ _ hr6).mono ?_
  rintro e w7 ⟨rfl, rfl⟩
  go_wp2_with fail
  go_ret
  refine ⟨rfl, ?_⟩
  have h16 : Ext (fun k => k = p) w w6 := (New.ext (hn1.then hn13) he4).trans he6 (fun _ _ h => h)
  exact h16.mono (fun i hi h => by subst h; have := hn1.size; simp at hp3; omega)
end Go.Proofs.Ytmeiobeiindibaa
