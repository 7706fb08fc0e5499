/- Walks: a ring of keys: made, pushed into, looked at, popped. -/
import Derived.Test.YtmonhhodbinagaaChecked
import Derived.Test.YtmonhhodbinagaaB2
import Derived.Test.YtmonhhodbinagaaM3
import Derived.Test.YtmonhhodbinagaaR2
import Derived.Deep.DeepCutAuto
namespace Go.Proofs.Ytmonhhodbinagaa
open Go.RowKit
set_option maxRecDepth 100000

/-- What a call on a ring may turn. -/
def Tch (p : Nat) (A : Option Addr) (k : Nat) : Prop := k = p ∨ inA A k
/-- Where the row lies that a call leaves. -/
def Frs (w : World) (A A' : Option Addr) : Prop := ∀ k, inA A' k → inA A k ∨ w.heap.size ≤ k

theorem info_k : (Try.prog.info? 30).map (fun i => (i.zero, i.size, i.bytes)) = some (some (.agg #[.int .i64 0, .int .i64 0]), 2, 16) := by kernel_rfl
theorem size_k : (Try.prog.info? 30).map (fun i => i.size) = some 2 := by kernel_rfl
/-- Cells of keys. -/
def kcs (l : List (Int × Int)) : List Value := l.flatMap fun a => [.int .i64 a.1, .int .i64 a.2]
theorem kcs_append (l k : List (Int × Int)) : kcs (l ++ k) = kcs l ++ kcs k := by simp [kcs]
theorem kcs_len (l : List (Int × Int)) : (kcs l).length = l.length * 2 := flat_len (sz := 2) (fun _ => rfl) l
theorem kcs_drop (l : List (Int × Int)) (k : Nat) : (kcs l).drop (k * 2) = kcs (l.drop k) := by
  induction k generalizing l with
  | zero => rfl
  | succ k ih =>
    cases l with
    | nil => simp [kcs]
    | cons a r =>
      rw [List.drop_succ_cons, ← ih r, Nat.succ_mul]
      show (kcs (a :: r)).drop (k * 2 + 2) = _
      unfold kcs
      rw [List.flatMap_cons]
      rfl
theorem Rd.lenk {w : World} {A : Option Addr} {n c : Nat} {l : List (Int × Int)} (h : Rd w 2 A n c (kcs l)) : l.length = n := by
  have := h.len
  rw [kcs_len] at this
  omega
theorem Rd.cellk {w : World} {ad : Addr} {n c : Nat} {l : List (Int × Int)} (h : Rd w 2 (Option.some ad) n c (kcs l)) {k : Nat} {x : Int × Int} (hx : l[k]? = Option.some x) : w.cell? (ad.add (k * 2)) = Option.some (.int .i64 x.1) ∧ w.cell? ⟨(ad.add (k * 2)).block, (ad.add (k * 2)).off + 1, none⟩ = Option.some (.int .i64 x.2) := by
  have g := fun j u (hj : j < 2) (hu : ([.int .i64 x.1, .int .i64 x.2] : List Value)[j]? = Option.some u) => h.cell ad rfl (k * 2 + j) u (by rw [kcs, flat_get (E := fun a : Int × Int => [.int .i64 a.1, .int .i64 a.2]) (sz := 2) (fun _ => rfl) l k j x hx hj]; exact hu)
  have e1 : ad.add (k * 2 + 1) = ⟨(ad.add (k * 2)).block, (ad.add (k * 2)).off + 1, none⟩ := by
    rw [← add_add]
    unfold Addr.add
    rw [if_neg (by omega)]
  exact ⟨g 0 _ (by omega) rfl, by rw [← e1]; exact g 1 _ (by omega) rfl⟩
theorem Rd.dropk {w : World} {A : Option Addr} {n c : Nat} {l : List (Int × Int)} (h : Rd w 2 A n c (kcs l)) (k : Nat) (hk : k ≤ n) : Rd w 2 (sl A c k 2) (n - k) (c - k) (kcs (l.drop k)) := by
  have := h.drop k hk
  rwa [kcs_drop] at this
section
variable {ops : Array Oper} {rest : List Oper} {o : Oper} {a : Act} {Q : Exit → Act → World → Prop} {w : World}
theorem app_k (hgd : o.guard = none) (s x : Operand) (ho : o.op = .call { callee := .builtin .append, args := #[s, x], argTypes := #[39, 39] })
    (base : Nat) {A B : Option Addr} {n c m d : Nat} {xs ys : List Value} (hs : a.eval s = .slice A n c) (hx : a.eval x = .slice B m d) (hown : Own w base 30 2 A n c xs) (hr : Rd w 2 B m d ys) (hbytes : (n + m) * 16 ≤ 140737488355328) (hbase : base ≤ w.heap.size)
    (h : ∀ A' c' w', Own w' base 30 2 A' (n + m) c' (xs ++ ys) → Ext (inA A) w w' → (A' = A ∨ A' = some ⟨w.heap.size, 0, none⟩) → wpList Try.prog ops Q rest (a.put o.dst (.slice A' (n + m) c')) w') :
    wpList Try.prog ops Q (o :: rest) a w :=
  wpList_app hgd s x _ ho base 30 (.agg #[.int .i64 0, .int .i64 0]) 2 16 Try.underlying39 info_k rfl (by decide) (by decide) hs hx hown hr hbytes hbase h
end

set_option maxHeartbeats 400000 in
theorem clone_k (A : Option Addr) (n c : Nat) (xs : List Value) (w : World) (hr : Rd w 2 A n c xs) (hn : n * 16 ≤ 140737488355328) :
    Calls Try.prog 31 #[.slice A n c] w fun e w' => ∃ A' c', e = .returned (.slice A' n c') ∧ Own w' w.heap.size 30 2 A' n c' xs ∧ New w w' := by
  have q1 := fun (W : World) => Lib.run_eql_slice_nil (P := Try.prog) W 39 30 A n c 0 0 Try.underlying39
  go_enter Try.func31, Try.ntmps31
  by_cases hA : A = none
  · have hn0 := hr.n0 hA
    subst hA
    subst hn0
    obtain rfl : xs = [] := List.eq_nil_of_length_eq_zero (by simpa using hr.len)
    go_wp2
    go_ret
    exact ⟨none, 0, rfl, Own.nil _ _ _ _, Ext.refl _ _⟩
  · have hi : A.isNone = false := by cases A <;> simp_all
    go_wp2_with (at_builtin; refine app_k rfl _ _ rfl w.heap.size rfl rfl (Own.lit0 _ _ _ _ (Nat.le_refl _)) (hr.new (New.alloc1 _ _)) (by omega) (by simp) ?_; intro A' c' w' ho he hA')
    go_ret
    exact ⟨A', c', by simp, by simpa using ho, (New.alloc1 _ _).trans he (fun i hi h => by have := (inA_some _ _).1 h; simp at this; omega)⟩

/-- Block p is a ring of keys. -/
structure Rngk (w : World) (p : Nat) (A : Option Addr) (n c : Nat) (xs : List (Int × Int)) (room : Nat) : Prop where
  blk : w.heap[p]? = some (.cells #[.slice A n c, .int .i64 room] 94)
  own : Own w (p + 1) 30 2 A n c (kcs xs)
  r1 : 1 ≤ room
  r2 : room ≤ 1024
  le : n ≤ room
namespace Rngk
variable {w w' : World} {p : Nat} {A : Option Addr} {n c : Nat} {xs : List (Int × Int)} {room : Nat}
theorem c0 (h : Rngk w p A n c xs room) : w.cell? ⟨p, 0, none⟩ = some (.slice A n c) := (blk_cell h.blk 0).trans rfl
theorem c1 (h : Rngk w p A n c xs room) : w.cell? ⟨p, 1, none⟩ = some (.int .i64 room) := (blk_cell h.blk 1).trans rfl
theorem fr (h : Rngk w p A n c xs room) (i : Nat) : w.frozen? ⟨p, i, none⟩ = false := blk_free h.blk i
theorem lt (h : Rngk w p A n c xs room) : p < w.heap.size := blk_lt h.blk
theorem nin (h : Rngk w p A n c xs room) : ¬ inA A p := fun k => by have := (h.own.at_ k).1; omega
theorem len (h : Rngk w p A n c xs room) : xs.length = n := h.own.rd.lenk
theorem keep {S : Nat → Prop} (h : Rngk w p A n c xs room) (he : Ext S w w') (hp : ¬ S p) (hs : ∀ k, inA A k → ¬ S k) : Rngk w' p A n c xs room := ⟨he.keep h.blk hp, h.own.keep he hs, h.r1, h.r2, h.le⟩
theorem new (h : Rngk w p A n c xs room) (he : New w w') : Rngk w' p A n c xs room := h.keep he (fun h => h) (fun _ _ h => h)
end Rngk
set_option maxHeartbeats 400000 in
theorem none_k (p : Nat) (A : Option Addr) (n c : Nat) (xs : List (Int × Int)) (room : Nat) (w : World) (h : Rngk w p A n c xs room) :
    Calls Try.prog 40 #[.pointer (some ⟨p, 0, none⟩)] w fun e w' => e = .returned (.bool false) ∧ w = w' := by
  have c1 := h.c1
  have hz : ((room : Int) == 0) = false := by have := h.r1; simp; omega
  go_enter Try.func40, Try.ntmps40
  go_wp2
  go_ret
  exact ⟨rfl, rfl⟩

set_option maxHeartbeats 400000 in
theorem new_k (room : Nat) (w : World) (h1 : 1 ≤ room) (h2 : room ≤ 1024) :
    Calls Try.prog 26 #[.int .i64 room] w fun e w' => e = .returned (.tuple #[.pointer (some ⟨w.heap.size, 0, none⟩), .int .i64 0]) ∧ Rngk w' w.heap.size none 0 0 [] room ∧ New w w' := by
  have d1 : decide ((room : Int) < 1) = false := decide_eq_false (by omega)
  have d2 : decide (1024 < (room : Int)) = false := decide_eq_false (by omega)
  go_enter Try.func26, Try.ntmps26
  go_wp2
  go_ret2
  exact ⟨rfl, ⟨blk_new w _, Own.nil _ _ _ _, h1, h2, by omega⟩, New.alloc1 w _⟩

set_option maxHeartbeats 800000 in
theorem push_k (p : Nat) (A : Option Addr) (n c : Nat) (xs : List (Int × Int)) (room : Nat) (B : Option Addr) (m d : Nat) (l : List (Int × Int)) (w : World) (h : Rngk w p A n c xs room) (hl : Rd w 2 B m d (kcs l)) (hr : n + m ≤ room) :
    Calls Try.prog 28 #[.pointer (some ⟨p, 0, none⟩), .slice B m d] w fun e w' => ∃ A' c', e = .returned (.int .i64 0) ∧ Rngk w' p A' (n + m) c' (xs ++ l) room ∧ Ext (Tch p A) w w' ∧ Frs w A A' := by
  have c0 := h.c0
  have c1 := h.c1
  have hr2 := h.r2
  have hpl := h.lt
  have d1 : decide ((room : Int) - n < m) = false := decide_eq_false (by omega)
  go_enter Try.func28, Try.ntmps28
  go_wp2_with fail
  refine (none_k p A n c xs room _ h).mono ?_
  rintro e w1 ⟨rfl, rfl⟩
  go_wp2_with fail
  go_quiet (fail)
  have hn1 := new_draw w nq
  have h' := h.new hn1
  have hl' := hl.new hn1
  have c0' := h'.c0
  have hsz : w.heap.size ≤ (w.drewN nq).heap.size := hn1.size
  clear c0 c1
  generalize w.drewN nq = w1 at *
  go_wp2_with (at_builtin; refine app_k rfl _ _ rfl (p + 1) rfl rfl h'.own hl' (by omega) h'.lt ?_; intro A2 c2 w2 ho2 he2 hA2; have hp2 := he2.keep h'.blk h'.nin; have k0 : w2.cell? ⟨p, 0, none⟩ = some (.slice A n c) := blk_cell hp2 0; have k1 := blk_free hp2 0)
  go_ret
  have hs2 := ((Ext.refl (fun k => k = p) w2).set (by rfl) : Ext (fun k => k = p) w2 (w2.setCell ⟨p, 0, none⟩ (.slice A2 (n + m) c2)))
  refine ⟨A2, c2, rfl, ⟨blk_set hp2 0 _, ?_, h.r1, h.r2, hr⟩, ?_, ?_⟩
  · rw [kcs_append]
    exact ho2.keep hs2 (fun k hk e => by have := (ho2.at_ hk).1; omega)
  · exact (hn1.to.trans (he2.mono (fun k _ hk => .inr hk)) (fun _ _ h => h)).trans (hs2.mono (fun k _ hk => .inl hk)) (fun _ _ h => h)
  · intro k hk
    rcases hA2 with rfl | rfl
    · exact .inl hk
    · obtain ⟨ad, h1, h2⟩ := hk
      cases h1
      exact .inr (by have : w1.heap.size = k := h2; omega)

/-- A key, as a value. -/
abbrev kV (x : Int × Int) : Value := .agg #[.int .i64 x.1, .int .i64 x.2]
set_option maxHeartbeats 800000 in
theorem peek_k (p : Nat) (A : Option Addr) (n c : Nat) (xs : List (Int × Int)) (room : Nat) (i : Nat) (x : Int × Int) (w : World) (h : Rngk w p A n c xs room) (hx : xs[i]? = some x) :
    Calls Try.prog 42 #[.pointer (some ⟨p, 0, none⟩), .int .i64 i] w fun e w' => e = .returned (.tuple #[kV x, .bool true]) ∧ New w w' := by
  have hw1 := h.new (New.alloc1 w (.cells #[.int .i64 0, .int .i64 0] 30))
  have c0 := hw1.c0
  have hlen := h.len
  have hin : i < n := by have := (List.getElem?_eq_some_iff.1 hx).1; omega
  have d1 : decide ((i : Int) < 0) = false := decide_eq_false (by omega)
  have d2 : decide ((n : Int) ≤ i) = false := decide_eq_false (by omega)
  have d3 : decide (n ≤ i) = false := decide_eq_false (by omega)
  obtain ⟨ad, rfl⟩ := h.own.rd.some (by omega)
  obtain ⟨g0, g1⟩ := hw1.own.rd.cellk hx
  have HX := hide hx
  have HL := hide hlen
  clear hx hlen
  go_enter Try.func42, Try.ntmps42
  go_wp2_with fail
  refine (none_k p _ n c xs room _ hw1).mono ?_
  rintro e w1 ⟨rfl, rfl⟩
  go_wp2_with fail
  refine bodyPost_ret (v := .tuple #[kV x, .bool true]) (by simp [results, Try.results42, go_sem]) rfl ⟨rfl, by (repeat (first | exact Ext.refl _ _ | assumption | apply Ext.alloc | apply Ext.drewN | apply Ext.drew | refine Ext.setCell ?_ (fun h => by first | rfl | exact absurd h (by dsimp only; omega)) _))⟩

set_option maxHeartbeats 800000 in
theorem pop_k (p : Nat) (A : Option Addr) (n c : Nat) (x : Int × Int) (xs : List (Int × Int)) (room : Nat) (w : World) (h : Rngk w p A n c (x :: xs) room) :
    Calls Try.prog 30 #[.pointer (some ⟨p, 0, none⟩)] w fun e w' => ∃ A' c', e = .returned (.tuple #[kV x, .bool true]) ∧ Rngk w' p A' (n - 1) c' xs room ∧ Ext (Tch p A) w w' ∧ Frs w A A' := by
  have hlen := h.len
  have hr2 := h.r2
  have hle := h.le
  have hpl := h.lt
  have h1n : 1 ≤ n := by rw [← hlen]; simp
  have s1 := run_cut_l (P := Try.prog) 39 30 2 Try.underlying39 size_k A n c 1 1 rfl h1n .i64
  have HL := hide hlen
  clear hlen
  go_enter Try.func30, Try.ntmps30
  have hw1 := h.new (New.alloc1 w (.cells #[.int .i64 0, .int .i64 0] 30))
  have hbr := blk_new w (.cells #[.int .i64 0, .int .i64 0] 30)
  go_wp2_with fail
  refine (peek_k p A n c (x :: xs) room 0 x _ hw1 rfl).mono ?_
  rintro e w2 ⟨rfl, hn2⟩
  have hn3 := hn2.then (New.alloc1 w2 (.cells #[.int .i64 x.1, .int .i64 x.2] 30))
  have hw3 := hw1.new hn3
  have hbr3 := hn3.keep hbr
  have hbx := blk_new w2 (.cells #[.int .i64 x.1, .int .i64 x.2] 30)
  have c0 := hw3.c0
  have hsz3 := hn3.size
  have hnw3 := (New.alloc1 w (.cells #[.int .i64 0, .int .i64 0] 30)).then hn3
  go_wp2_with fail
  have hd := hw3.own.rd.dropk 1 h1n
  refine (clone_k _ (n - 1) _ _ _ hd (by omega)).mono ?_
  rintro e w4 ⟨A4, c4, rfl, ho4, hn4⟩
  have hp4 := hn4.keep hw3.blk
  have hbr4 := hn4.keep hbr3
  have hbx4 := hn4.keep hbx
  have k0 : w4.cell? ⟨p, 0, none⟩ = some (.slice A n c) := blk_cell hp4 0
  have k1 := blk_free hp4 0
  have x0 := (blk_cell hbx4 0).trans rfl
  have x1 := (blk_cell hbx4 1).trans rfl
  have r0 := (blk_cell hbr4 0).trans rfl
  have r1 := (blk_cell hbr4 1).trans rfl
  have f0 := blk_free hbr4 0
  have f1 := blk_free hbr4 1
  have hne1 : p ≠ w2.heap.size := by have := hn2.size; simp at this; omega
  have hne2 : p ≠ w.heap.size := by omega
  clear c0
  go_wp2_with fail
  have e5 : Ext (fun k => k = p ∨ k = w.heap.size) w4 (((w4.setCell ⟨p, 0, none⟩ (.slice A4 (n - 1) c4)).setCell ⟨w.heap.size, 0, none⟩ (.int .i64 x.1)).setCell ⟨w.heap.size, 1, none⟩ (.int .i64 x.2)) := (((Ext.refl _ w4).set (.inl rfl)).set (.inr rfl)).set (.inr rfl)
  have hb5 := blk_set (blk_set ((((Ext.refl (fun k => k = p) w4).set (by rfl) : Ext (fun k => k = p) w4 (w4.setCell ⟨p, 0, none⟩ (.slice A4 (n - 1) c4)))).keep hbr4 (by omega)) 0 (.int .i64 x.1)) 1 (.int .i64 x.2)
  have g0 := (blk_cell hb5 0).trans rfl
  have g1 := (blk_cell hb5 1).trans rfl
  have hp5 := (((Ext.refl (fun k => k = w.heap.size) (w4.setCell ⟨p, 0, none⟩ (.slice A4 (n - 1) c4))).set (by rfl)).set (by rfl) : Ext (fun k => k = w.heap.size) (w4.setCell ⟨p, 0, none⟩ (.slice A4 (n - 1) c4)) (((w4.setCell ⟨p, 0, none⟩ (.slice A4 (n - 1) c4)).setCell ⟨w.heap.size, 0, none⟩ (.int .i64 x.1)).setCell ⟨w.heap.size, 1, none⟩ (.int .i64 x.2))).keep (blk_set hp4 0 (.slice A4 (n - 1) c4)) (by omega)
  have hlow : ∀ k, inA A4 k → w2.heap.size + 1 ≤ k := fun k hk => by have := (ho4.at_ hk).1; simpa using this
  have hsz2 := hn2.size
  rw [World.size_alloc] at hsz2
  refine bodyPost_ret (v := .tuple #[kV x, .bool true]) (by simp [results, Try.results30, go_sem, g0, g1]) rfl ⟨A4, c4, rfl, ⟨hp5, ?_, h.r1, h.r2, by omega⟩, ?_, fun k hk => .inr (by have := hlow k hk; omega)⟩
  · exact (ho4.keep e5 (fun k hk e => by have := hlow k hk; omega)).rebase (fun k hk => by have := hlow k hk; omega)
  · exact (((hnw3.then hn4).to.trans (T := fun k => k = p ∨ k = w.heap.size) (S := fun k => Tch p A k ∨ w.heap.size ≤ k) e5 (fun k _ e => e.elim (fun e => .inl (.inl e)) (fun e => .inr (by omega))))).mono (fun k hk e => e.elim id (fun e => absurd hk (by omega)))

set_option maxHeartbeats 800000 in
theorem len_k (p : Nat) (A : Option Addr) (n c : Nat) (xs : List (Int × Int)) (room : Nat) (w : World) (h : Rngk w p A n c xs room) :
    Calls Try.prog 41 #[.pointer (some ⟨p, 0, none⟩)] w fun e w' => e = .returned (.int .i64 n) ∧ w = w' := by
  have c0 := h.c0
  go_enter Try.func41, Try.ntmps41
  go_wp2_with fail
  refine (none_k p A n c xs room _ h).mono ?_
  rintro e w1 ⟨rfl, rfl⟩
  go_wp2_with fail
  go_ret
  exact ⟨rfl, rfl⟩
end Go.Proofs.Ytmonhhodbinagaa
