/- Walks: a ring of ints: made, pushed into, looked at. -/
import Derived.Test.YtafeeafccbdkfaaQ0
namespace Go.Proofs.Ytafeeafccbdkfaa
open Go.RowKit
set_option maxRecDepth 100000

theorem info_i : (Try.prog.info? 3).map (fun i => (i.zero, i.size, i.bytes)) = some (some (.int .i64 0), 1, 8) := by kernel_rfl
theorem size_i : (Try.prog.info? 3).map (fun i => i.size) = some 1 := by kernel_rfl
def vsi (l : List Int) : List Value := l.map (Value.int .i64)
theorem vsi_len (l : List Int) : (vsi l).length = l.length := by simp [vsi]
theorem vsi_append (l k : List Int) : vsi (l ++ k) = vsi l ++ vsi k := by simp [vsi]
theorem vsi_take (l : List Int) (k : Nat) : (vsi l).take k = vsi (l.take k) := by simp [vsi]
theorem vsi_drop (l : List Int) (k : Nat) : (vsi l).drop k = vsi (l.drop k) := by simp [vsi]
theorem Rd.leni {w : World} {A : Option Addr} {n c : Nat} {l : List Int} (h : Rd w 1 A n c (vsi l)) : l.length = n := by
  have := h.len
  rw [vsi_len] at this
  omega
theorem Rd.celli {w : World} {ad : Addr} {n c : Nat} {l : List Int} (h : Rd w 1 (Option.some ad) n c (vsi l)) {k : Nat} {x : Int} (hx : l[k]? = Option.some x) : w.cell? (ad.add k) = Option.some (Value.int .i64 x) :=
  h.cell ad rfl k _ (by rw [vsi, List.getElem?_map, hx]; rfl)
theorem Rd.takei {w : World} {A : Option Addr} {n c : Nat} {l : List Int} (h : Rd w 1 A n c (vsi l)) (k : Nat) (hk : k ≤ n) : Rd w 1 A k c (vsi (l.take k)) := by
  have := h.take k hk
  rwa [Nat.mul_one, vsi_take] at this
theorem Rd.dropi {w : World} {A : Option Addr} {n c : Nat} {l : List Int} (h : Rd w 1 A n c (vsi l)) (k : Nat) (hk : k ≤ n) : Rd w 1 (sl A c k 1) (n - k) (c - k) (vsi (l.drop k)) := by
  have := h.drop k hk
  rwa [Nat.mul_one, vsi_drop] at this
section
variable {ops : Array Oper} {rest : List Oper} {o : Oper} {a : Act} {Q : Exit → Act → World → Prop} {w : World}
theorem app_i (hgd : o.guard = none) (s x : Operand) (ho : o.op = .call { callee := .builtin .append, args := #[s, x], argTypes := #[22, 22] })
    (base : Nat) {A B : Option Addr} {n c m d : Nat} {xs ys : List Value} (hs : a.eval s = .slice A n c) (hx : a.eval x = .slice B m d) (hown : Own w base 3 1 A n c xs) (hr : Rd w 1 B m d ys) (hbytes : (n + m) * 8 ≤ 140737488355328) (hbase : base ≤ w.heap.size)
    (h : ∀ A' c' w', Own w' base 3 1 A' (n + m) c' (xs ++ ys) → Ext (inA A) w w' → (A' = A ∨ A' = some ⟨w.heap.size, 0, none⟩) → wpList Try.prog ops Q rest (a.put o.dst (.slice A' (n + m) c')) w') :
    wpList Try.prog ops Q (o :: rest) a w :=
  wpList_app hgd s x _ ho base 3 (.int .i64 0) 1 8 Try.underlying22 info_i rfl (by decide) (by decide) hs hx hown hr hbytes hbase h
end

set_option maxHeartbeats 400000 in
theorem clone_i (A : Option Addr) (n c : Nat) (xs : List Value) (w : World) (hr : Rd w 1 A n c xs) (hn : n * 8 ≤ 140737488355328) :
    Calls Try.prog 41 #[.slice A n c] w fun e w' => ∃ A' c', e = .returned (.slice A' n c') ∧ Own w' w.heap.size 3 1 A' n c' xs ∧ New w w' := by
  have q1 := fun (W : World) => Lib.run_eql_slice_nil (P := Try.prog) W 22 3 A n c 0 0 Try.underlying22
  go_enter Try.func41, Try.ntmps41
  by_cases hA : A = none
  · have hn0 := hr.n0 hA
    subst hA
    subst hn0
    obtain rfl : xs = [] := List.eq_nil_of_length_eq_zero (by simpa using hr.len)
    go_wp2
    go_ret
    exact ⟨none, 0, rfl, Own.nil _ _ _ _, Ext.refl _ _⟩
  · have hi : A.isNone = false := by cases A <;> simp_all
    go_wp2_with (at_builtin; refine app_i rfl _ _ rfl w.heap.size rfl rfl (Own.lit0 _ _ _ _ (Nat.le_refl _)) (hr.new (New.alloc1 _ _)) (by omega) (by simp) ?_; intro A' c' w' ho he hA')
    go_ret
    exact ⟨A', c', by simp, by simpa using ho, (New.alloc1 _ _).trans he (fun i hi h => by have := (inA_some _ _).1 h; simp at this; omega)⟩

/-- Block p is a ring. -/
structure Rngi (w : World) (p : Nat) (A : Option Addr) (n c : Nat) (xs : List Int) (room : Nat) : Prop where
  blk : w.heap[p]? = some (.cells #[.slice A n c, .int .i64 room] 60)
  own : Own w (p + 1) 3 1 A n c (vsi xs)
  r1 : 1 ≤ room
  r2 : room ≤ 1024
  le : n ≤ room
namespace Rngi
variable {w w' : World} {p : Nat} {A : Option Addr} {n c : Nat} {xs : List Int} {room : Nat}
theorem c0 (h : Rngi w p A n c xs room) : w.cell? ⟨p, 0, none⟩ = some (.slice A n c) := (blk_cell h.blk 0).trans rfl
theorem c1 (h : Rngi w p A n c xs room) : w.cell? ⟨p, 1, none⟩ = some (.int .i64 room) := (blk_cell h.blk 1).trans rfl
theorem fr (h : Rngi w p A n c xs room) (i : Nat) : w.frozen? ⟨p, i, none⟩ = false := blk_free h.blk i
theorem lt (h : Rngi w p A n c xs room) : p < w.heap.size := blk_lt h.blk
theorem nin (h : Rngi w p A n c xs room) : ¬ inA A p := fun k => by have := (h.own.at_ k).1; omega
theorem len (h : Rngi w p A n c xs room) : xs.length = n := h.own.rd.leni
theorem keep {S : Nat → Prop} (h : Rngi w p A n c xs room) (he : Ext S w w') (hp : ¬ S p) (hs : ∀ k, inA A k → ¬ S k) : Rngi w' p A n c xs room := ⟨he.keep h.blk hp, h.own.keep he hs, h.r1, h.r2, h.le⟩
theorem new (h : Rngi w p A n c xs room) (he : New w w') : Rngi w' p A n c xs room := h.keep he (fun h => h) (fun _ _ h => h)
end Rngi
set_option maxHeartbeats 400000 in
theorem none_i (p : Nat) (A : Option Addr) (n c : Nat) (xs : List Int) (room : Nat) (w : World) (h : Rngi w p A n c xs room) :
    Calls Try.prog 30 #[.pointer (some ⟨p, 0, none⟩)] w fun e w' => e = .returned (.bool false) ∧ w = w' := by
  have c1 := h.c1
  have hz : ((room : Int) == 0) = false := by have := h.r1; simp; omega
  go_enter Try.func30, Try.ntmps30
  go_wp2
  go_ret
  exact ⟨rfl, rfl⟩

set_option maxHeartbeats 400000 in
theorem new_i (room : Nat) (w : World) (h1 : 1 ≤ room) (h2 : room ≤ 1024) :
    Calls Try.prog 8 #[.int .i64 room] w fun e w' => e = .returned (.tuple #[.pointer (some ⟨w.heap.size, 0, none⟩), .int .i64 0]) ∧ Rngi w' w.heap.size none 0 0 [] room ∧ New w w' := by
  have d1 : decide ((room : Int) < 1) = false := decide_eq_false (by omega)
  have d2 : decide (1024 < (room : Int)) = false := decide_eq_false (by omega)
  go_enter Try.func8, Try.ntmps8
  go_wp2
  go_ret2
  exact ⟨rfl, ⟨blk_new w _, Own.nil _ _ _ _, h1, h2, by omega⟩, New.alloc1 w _⟩
set_option maxHeartbeats 400000 in
theorem new_no_i (room : Int) (w : World) (h : room < 1 ∨ 1024 < room) :
    Calls Try.prog 8 #[.int .i64 room] w fun e w' => e = .returned (.tuple #[.pointer none, .int .i64 40]) ∧ w = w' := by
  by_cases h1 : room < 1
  · have d1 : decide (room < 1) = true := decide_eq_true h1
    go_enter Try.func8, Try.ntmps8
    go_wp2
    go_ret2
    exact ⟨rfl, rfl⟩
  · have d1 : decide (room < 1) = false := decide_eq_false h1
    have d2 : decide (1024 < room) = true := decide_eq_true (by omega)
    go_enter Try.func8, Try.ntmps8
    go_wp2
    go_ret2
    exact ⟨rfl, rfl⟩

set_option maxHeartbeats 800000 in
theorem push_i (p : Nat) (A : Option Addr) (n c : Nat) (xs : List Int) (room : Nat) (B : Option Addr) (m d : Nat) (l : List Int) (w : World) (h : Rngi w p A n c xs room) (hl : Rd w 1 B m d (vsi l)) (hr : n + m ≤ room) :
    Calls Try.prog 9 #[.pointer (some ⟨p, 0, none⟩), .slice B m d] w fun e w' => ∃ A' c', e = .returned (.int .i64 0) ∧ Rngi w' p A' (n + m) c' (xs ++ l) room ∧ Ext (Tch p A) w w' ∧ Frs w A A' := by
  have c0 := h.c0
  have c1 := h.c1
  have hr2 := h.r2
  have hpl := h.lt
  have d1 : decide ((room : Int) - n < m) = false := decide_eq_false (by omega)
  go_enter Try.func9, Try.ntmps9
  go_wp2_with fail
  refine (none_i p A n c xs room _ h).mono ?_
  rintro e w1 ⟨rfl, rfl⟩
  go_wp2_with fail
  go_quiet (fail)
  have hn1 := new_draw w nq
  have h' := h.new hn1
  have hl' := hl.new hn1
  have c0' := h'.c0
  have hsz : w.heap.size ≤ (w.drewN nq).heap.size := hn1.size
  clear c0 c1
  generalize w.drewN nq = w1 at *
  go_wp2_with (at_builtin; refine app_i rfl _ _ rfl (p + 1) rfl rfl h'.own hl' (by omega) h'.lt ?_; intro A2 c2 w2 ho2 he2 hA2; have hp2 := he2.keep h'.blk h'.nin; have k0 : w2.cell? ⟨p, 0, none⟩ = some (.slice A n c) := blk_cell hp2 0; have k1 := blk_free hp2 0)
  go_ret
  have hs2 := ((Ext.refl (fun k => k = p) w2).set (by rfl) : Ext (fun k => k = p) w2 (w2.setCell ⟨p, 0, none⟩ (.slice A2 (n + m) c2)))
  refine ⟨A2, c2, rfl, ⟨blk_set hp2 0 _, ?_, h.r1, h.r2, hr⟩, ?_, ?_⟩
  · rw [vsi_append]
    exact ho2.keep hs2 (fun k hk e => by have := (ho2.at_ hk).1; omega)
  · exact (hn1.to.trans (he2.mono (fun k _ hk => .inr hk)) (fun _ _ h => h)).trans (hs2.mono (fun k _ hk => .inl hk)) (fun _ _ h => h)
  · intro k hk
    rcases hA2 with rfl | rfl
    · exact .inl hk
    · obtain ⟨ad, h1, h2⟩ := hk
      cases h1
      exact .inr (by have : w1.heap.size = k := h2; omega)

set_option maxHeartbeats 800000 in
theorem push_no_i (p : Nat) (A : Option Addr) (n c : Nat) (xs : List Int) (room : Nat) (B : Option Addr) (m d : Nat) (w : World) (h : Rngi w p A n c xs room) (hr : ¬ n + m ≤ room) (hm : m ≤ 9223372036854775807) :
    Calls Try.prog 9 #[.pointer (some ⟨p, 0, none⟩), .slice B m d] w fun e w' => e = .returned (.int .i64 8) ∧ ∃ nd, w' = w.drewN nd := by
  have c0 := h.c0
  have c1 := h.c1
  have hr2 := h.r2
  have hle := h.le
  have d1 : decide ((room : Int) - n < m) = true := decide_eq_true (by omega)
  go_enter Try.func9, Try.ntmps9
  go_wp2_with fail
  refine (none_i p A n c xs room _ h).mono ?_
  rintro e w1 ⟨rfl, rfl⟩
  go_wp2_with fail
  go_quiet (fail)
  go_wp2_with fail
  go_ret
  exact ⟨rfl, nq, rfl⟩

set_option maxHeartbeats 800000 in
theorem peek_i (p : Nat) (A : Option Addr) (n c : Nat) (xs : List Int) (room : Nat) (i : Nat) (x : Int) (w : World) (h : Rngi w p A n c xs room) (hx : xs[i]? = some x) :
    Calls Try.prog 26 #[.pointer (some ⟨p, 0, none⟩), .int .i64 i] w fun e w' => e = .returned (.tuple #[Value.int .i64 x, .bool true]) ∧ w = w' := by
  have c0 := h.c0
  have hlen := h.len
  have hin : i < n := by have := (List.getElem?_eq_some_iff.1 hx).1; omega
  have d1 : decide ((i : Int) < 0) = false := decide_eq_false (by omega)
  have d2 : decide ((n : Int) ≤ i) = false := decide_eq_false (by omega)
  have d3 : decide (n ≤ i) = false := decide_eq_false (by omega)
  obtain ⟨ad, rfl⟩ := h.own.rd.some (by omega)
  have hc := h.own.rd.celli hx
  have HX := hide hx
  have HL := hide hlen
  clear hx hlen
  go_enter Try.func26, Try.ntmps26
  go_wp2_with fail
  refine (none_i p _ n c xs room _ h).mono ?_
  rintro e w1 ⟨rfl, rfl⟩
  go_wp2_with fail
  go_ret2
  exact ⟨rfl, rfl⟩
set_option maxHeartbeats 800000 in
theorem peek_no_i (p : Nat) (A : Option Addr) (n c : Nat) (xs : List Int) (room : Nat) (i : Int) (w : World) (h : Rngi w p A n c xs room) (hi : i < 0 ∨ n ≤ i) :
    Calls Try.prog 26 #[.pointer (some ⟨p, 0, none⟩), .int .i64 i] w fun e w' => e = .returned (.tuple #[(.int .i64 0), .bool false]) ∧ w = w' := by
  have c0 := h.c0
  by_cases h1 : i < 0
  · have d1 : decide (i < 0) = true := decide_eq_true h1
    go_enter Try.func26, Try.ntmps26
    go_wp2_with fail
    refine (none_i p _ n c xs room _ h).mono ?_
    rintro e w1 ⟨rfl, rfl⟩
    go_wp2_with fail
    go_ret2
    exact ⟨rfl, rfl⟩
  · have d1 : decide (i < 0) = false := decide_eq_false h1
    have d2 : decide ((n : Int) ≤ i) = true := decide_eq_true (by omega)
    go_enter Try.func26, Try.ntmps26
    go_wp2_with fail
    refine (none_i p _ n c xs room _ h).mono ?_
    rintro e w1 ⟨rfl, rfl⟩
    go_wp2_with fail
    go_ret2
    exact ⟨rfl, rfl⟩
end Go.Proofs.Ytafeeafccbdkfaa
