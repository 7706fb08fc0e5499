/- The document's pacer: its rows, what may be a key, where a key stands. -/
import Derived.Test.YtmonhhodbinagaaK23
namespace Go.Proofs.Ytmonhhodbinagaa
open Go.RowKit Go.Maps
set_option maxRecDepth 100000

/-- Cells of what is known of keys. -/
def kns (L : List Kn) : List Value := L.flatMap fun x => [.int .i64 x.k.1, .int .i64 x.k.2, .int .i64 x.cls, .int .i64 x.pend, .int .i64 x.iss]
theorem kns_append (l k : List Kn) : kns (l ++ k) = kns l ++ kns k := by simp [kns]
theorem kns_len (l : List Kn) : (kns l).length = l.length * 5 := flat_len (sz := 5) (fun _ => rfl) l
theorem kns_drop (l : List Kn) (k : Nat) : (kns l).drop (k * 5) = kns (l.drop k) := by
  induction k generalizing l with
  | zero => rfl
  | succ k ih =>
    cases l with
    | nil => simp [kns]
    | cons a r =>
      rw [List.drop_succ_cons, ← ih r, Nat.succ_mul]
      show (kns (a :: r)).drop (k * 5 + 5) = _
      unfold kns
      rw [List.flatMap_cons]
      rfl
theorem kns_take (l : List Kn) (k : Nat) : (kns l).take (k * 5) = kns (l.take k) := by
  induction k generalizing l with
  | zero => rw [Nat.zero_mul]; rfl
  | succ k ih =>
    cases l with
    | nil => simp [kns]
    | cons a r =>
      rw [List.take_succ_cons, Nat.succ_mul]
      show (kns (a :: r)).take (k * 5 + 5) = _
      have := ih r
      unfold kns at this ⊢
      rw [List.flatMap_cons, List.flatMap_cons, ← this]
      rfl
theorem Rd.len5 {w : World} {A : Option Addr} {n c : Nat} {l : List Kn} (h : Rd w 5 A n c (kns l)) : l.length = n := by
  have := h.len
  rw [kns_len] at this
  omega
theorem Rd.cell5 {w : World} {ad : Addr} {n c : Nat} {l : List Kn} (h : Rd w 5 (Option.some ad) n c (kns l)) {k : Nat} {x : Kn} (hx : l[k]? = Option.some x) :
    w.cell? (ad.add (k * 5)) = Option.some (.int .i64 x.k.1) ∧ w.cell? ⟨(ad.add (k * 5)).block, (ad.add (k * 5)).off + 1, none⟩ = Option.some (.int .i64 x.k.2) ∧ w.cell? ⟨(ad.add (k * 5)).block, (ad.add (k * 5)).off + 2, none⟩ = Option.some (.int .i64 x.cls) ∧ w.cell? ⟨(ad.add (k * 5)).block, (ad.add (k * 5)).off + 3, none⟩ = Option.some (.int .i64 x.pend) ∧ w.cell? ⟨(ad.add (k * 5)).block, (ad.add (k * 5)).off + 4, none⟩ = Option.some (.int .i64 x.iss) := by
  have g := fun j u (hj : j < 5) (hu : ([.int .i64 x.k.1, .int .i64 x.k.2, .int .i64 x.cls, .int .i64 x.pend, .int .i64 x.iss] : List Value)[j]? = Option.some u) => h.cell ad rfl (k * 5 + j) u (by rw [kns, flat_get (E := fun x : Kn => [.int .i64 x.k.1, .int .i64 x.k.2, .int .i64 x.cls, .int .i64 x.pend, .int .i64 x.iss]) (sz := 5) (fun _ => rfl) l k j x hx hj]; exact hu)
  have e1 : ∀ j, j ≠ 0 → ad.add (k * 5 + j) = ⟨(ad.add (k * 5)).block, (ad.add (k * 5)).off + j, none⟩ := fun j hj => by
    rw [← add_add]
    unfold Addr.add
    rw [if_neg hj]
  exact ⟨g 0 _ (by omega) rfl, by rw [← e1 1 (by omega)]; exact g 1 _ (by omega) rfl, by rw [← e1 2 (by omega)]; exact g 2 _ (by omega) rfl, by rw [← e1 3 (by omega)]; exact g 3 _ (by omega) rfl, by rw [← e1 4 (by omega)]; exact g 4 _ (by omega) rfl⟩
/-- The document's pacer: s, and where its rows lie. -/
structure DA where
  s : PS
  a0 : Option Addr
  n0 : Nat
  c0 : Nat
  a1 : Option Addr
  n1 : Nat
  c1 : Nat
  a2 : Option Addr
  n2 : Nat
  c2 : Nat
abbrev DA.v (x : DA) : Value := .agg #[.slice x.a0 x.n0 x.c0, .slice x.a1 x.n1 x.c1, .slice x.a2 x.n2 x.c2, .int .i64 x.s.most, .int .i64 x.s.run, .int .i64 x.s.total]
abbrev DA.o (x : DA) : Array Value := #[.slice x.a0 x.n0 x.c0, .slice x.a1 x.n1 x.c1, .slice x.a2 x.n2 x.c2, .int .i64 x.s.most, .int .i64 x.s.run, .int .i64 x.s.total]
/-- A row's block stands, and is none of T. -/
def Out (T : Nat → Prop) (w : World) (A : Option Addr) : Prop := ∀ k, inA A k → ¬ T k ∧ k < w.heap.size
theorem Out.new {T : Nat → Prop} {w w' : World} {A : Option Addr} (h : Out T w A) (hn : New w w') : Out T w' A := fun k hk => ⟨(h k hk).1, Nat.lt_of_lt_of_le (h k hk).2 hn.size⟩
structure DA.ok (x : DA) (T : Nat → Prop) (w : World) : Prop where
  r0 : Rd w 5 x.a0 x.n0 x.c0 (kns x.s.L)
  r1 : Rd w 2 x.a1 x.n1 x.c1 (kcs (x.s.u 0))
  r2 : Rd w 2 x.a2 x.n2 x.c2 (kcs (x.s.u 1))
  t0 : Out T w x.a0
  t1 : Out T w x.a1
  t2 : Out T w x.a2
theorem DA.ok.new {x : DA} {T : Nat → Prop} {w w' : World} (h : x.ok T w) (hn : New w w') : x.ok T w' := ⟨h.r0.new hn, h.r1.new hn, h.r2.new hn, h.t0.new hn, h.t1.new hn, h.t2.new hn⟩
theorem DA.ok.keep {S T : Nat → Prop} {x : DA} {w w' : World} (h : x.ok T w) (he : Ext S w w') (hs : ∀ k, S k → T k ∨ w.heap.size ≤ k) : x.ok T w' := by
  have hh : ∀ A, Out T w A → ∀ k, inA A k → ¬ S k := fun A hA k hk hk2 => (hs k hk2).elim (hA k hk).1 (fun e => by have := (hA k hk).2; omega)
  exact ⟨h.r0.keep he (hh _ h.t0), h.r1.keep he (hh _ h.t1), h.r2.keep he (hh _ h.t2), fun k hk => ⟨(h.t0 k hk).1, Nat.lt_of_lt_of_le (h.t0 k hk).2 he.size⟩, fun k hk => ⟨(h.t1 k hk).1, Nat.lt_of_lt_of_le (h.t1 k hk).2 he.size⟩, fun k hk => ⟨(h.t2 k hk).1, Nat.lt_of_lt_of_le (h.t2 k hk).2 he.size⟩⟩
/-- None of T, and none of what is new. -/
theorem DA.ok.wide {T S : Nat → Prop} {x : DA} {w : World} (h : x.ok T w) (hs : ∀ k, S k → T k ∨ w.heap.size ≤ k) : x.ok S w := by
  have hh : ∀ A, Out T w A → Out S w A := fun A hA k hk => ⟨fun hk2 => (hs k hk2).elim (hA k hk).1 (fun e => by have := (hA k hk).2; omega), (hA k hk).2⟩
  exact ⟨h.r0, h.r1, h.r2, hh _ h.t0, hh _ h.t1, hh _ h.t2⟩
theorem DA.ok.l0 {x : DA} {T : Nat → Prop} {w : World} (h : x.ok T w) : x.s.L.length = x.n0 := h.r0.len5
theorem DA.ok.l1 {x : DA} {T : Nat → Prop} {w : World} (h : x.ok T w) : (x.s.u 0).length = x.n1 := h.r1.lenk
theorem DA.ok.l2 {x : DA} {T : Nat → Prop} {w : World} (h : x.ok T w) : (x.s.u 1).length = x.n2 := h.r2.lenk
/-- Where a key stands. -/
structure Pos (L : List Kn) (k : Int × Int) (r : Int) : Prop where
  i : ∀ (j : Nat) (y : Kn), L[j]? = some y → (y.k = k ↔ (j : Int) = r)
  r : r = -1 ∨ ∃ i : Nat, i < L.length ∧ r = i
theorem Pos.no {L : List Kn} {k : Int × Int} (h : fnd L k = none) : Pos L k (-1) :=
  ⟨fun j y hy => ⟨fun e => absurd e (fnd_none.1 h y (List.mem_of_getElem? hy)), fun e => by omega⟩, .inl rfl⟩
theorem Pos.yes {L : List Kn} (hn : (L.map Kn.k).Nodup) {x : Kn} (hx : x ∈ L) : ∃ i : Nat, Pos L x.k i ∧ L[i]? = some x ∧ i < L.length := by
  obtain ⟨i, hi, e⟩ := List.getElem_of_mem hx
  refine ⟨i, ⟨fun j y hy => ⟨fun e2 => ?_, fun e2 => ?_⟩, .inr ⟨i, hi, rfl⟩⟩, by rw [List.getElem?_eq_getElem hi, e], hi⟩
  · obtain ⟨hj, e3⟩ := List.getElem?_eq_some_iff.1 hy
    have h1 : (L.map Kn.k)[j]'(by simpa using hj) = (L.map Kn.k)[i]'(by simpa using hi) := by
      rw [List.getElem_map, List.getElem_map, e3, e, e2]
    have hpw := List.pairwise_iff_getElem.1 hn
    rcases Nat.lt_trichotomy j i with h | h | h
    · exact absurd h1 (hpw j i _ _ h)
    · rw [h]
    · exact absurd h1.symm (hpw i j _ _ h)
  · obtain rfl : j = i := by omega
    rw [List.getElem?_eq_getElem hi, e] at hy
    cases hy
    rfl

set_option maxHeartbeats 800000 in
theorem may_d (k : Int × Int) (b : Bool) (w : World) (h : decide (may k) = b) : Calls Try.prog 43 #[kV k] w fun e w' => e = .returned (.bool b) ∧ New w w' := by
  have hn := New.alloc1 w (.cells #[.int .i64 k.1, .int .i64 k.2] 49)
  have HB := hide h
  unfold may at h
  clear h
  by_cases c0 : 0 ≤ k.1
  · have d0 : decide (0 ≤ k.1) = true := decide_eq_true c0
    by_cases c1 : k.1 ≤ 7
    · have d1 : decide (k.1 ≤ 7) = true := decide_eq_true c1
      by_cases c2 : 1 ≤ k.2
      · have d2 : decide (1 ≤ k.2) = true := decide_eq_true c2
        by_cases c3 : k.2 ≤ 1073741824
        · have d3 : decide (k.2 ≤ 1073741824) = true := decide_eq_true c3
          have HC := hide (show true = b by rw [← HB.out]; exact (decide_eq_true ⟨c0, c1, c2, c3⟩).symm)
          clear c0 c1 c2 c3
          go_enter Try.func43, Try.ntmps43
          go_wp2_with fail
          go_ret
          exact ⟨by rw [← HC.out]; rfl, hn⟩
        · have d3 : decide (k.2 ≤ 1073741824) = false := decide_eq_false c3
          have HC := hide (show false = b by rw [← HB.out]; exact (decide_eq_false (fun h => c3 h.2.2.2)).symm)
          clear c0 c1 c2 c3
          go_enter Try.func43, Try.ntmps43
          go_wp2_with fail
          go_ret
          exact ⟨by rw [← HC.out]; rfl, hn⟩
      · have d2 : decide (1 ≤ k.2) = false := decide_eq_false c2
        have HC := hide (show false = b by rw [← HB.out]; exact (decide_eq_false (fun h => c2 h.2.2.1)).symm)
        clear c0 c1 c2
        go_enter Try.func43, Try.ntmps43
        go_wp2_with fail
        go_ret
        exact ⟨by rw [← HC.out]; rfl, hn⟩
    · have d1 : decide (k.1 ≤ 7) = false := decide_eq_false c1
      have HC := hide (show false = b by rw [← HB.out]; exact (decide_eq_false (fun h => c1 h.2.1)).symm)
      clear c0 c1
      go_enter Try.func43, Try.ntmps43
      go_wp2_with fail
      go_ret
      exact ⟨by rw [← HC.out]; rfl, hn⟩
  · have d0 : decide (0 ≤ k.1) = false := decide_eq_false c0
    have HC := hide (show false = b by rw [← HB.out]; exact (decide_eq_false (fun h => c0 h.1)).symm)
    clear c0
    go_enter Try.func43, Try.ntmps43
    go_wp2_with fail
    go_ret
    exact ⟨by rw [← HC.out]; rfl, hn⟩

set_option maxHeartbeats 1600000 in
theorem find_d (x : DA) (k : Int × Int) (r : Int) (w : World) (h : Rd w 5 x.a0 x.n0 x.c0 (kns x.s.L)) (hs : x.n0 ≤ 1000) (hp : Pos x.s.L k r) :
    Calls Try.prog 38 #[x.v, kV k] w fun e w' => e = .returned (.int .i64 r) ∧ New w w' := by
  obtain ⟨w0, hw0, b1, b2, hn0, hz0⟩ := twoNew w x.o #[.int .i64 k.1, .int .i64 k.2] 46 49
  have HP := hide hp
  have hlen := h.len5
  have HL := hide hlen
  clear hp hlen
  go_enter Try.func38, Try.ntmps38
  go_upto_region 1 with (fail)
  rw [← hw0]
  clear hw0
  have h0 := h.new hn0
  go_wp2_with fail
  have q0 := (blk_cell b1 0).trans rfl
  have k0 := (blk_cell b2 0).trans rfl
  have k1 := (blk_cell b2 1).trans rfl
  go_loopw [5] (fun s5 wr => New w0 wr ∧ ∃ j : Nat, j ≤ x.n0 ∧ s5 = .int .i64 j ∧ ∀ i : Nat, r = i → j ≤ i) (fun s _ => x.n0 - (intOf s).toNat)
  case atStart => exact ⟨Ext.refl _ _, 0, Nat.zero_le _, rfl, fun _ _ => Nat.zero_le _⟩
  case round =>
    obtain ⟨hnw, j, hj, rfl, hji⟩ := hrel
    have p0 : wr.cell? ⟨w.heap.size, 0, none⟩ = some (.slice x.a0 x.n0 x.c0) := (blk_cell (hnw.keep b1) 0).trans rfl
    have p1 := (blk_cell (hnw.keep b2) 0).trans rfl
    have p2 := (blk_cell (hnw.keep b2) 1).trans rfl
    clear q0 k0 k1
    by_cases hjn : j < x.n0
    · have d1 : decide ((j : Int) < x.n0) = true := decide_eq_true (by omega)
      have d2 : decide (j < x.n0) = true := decide_eq_true hjn
      obtain ⟨ad, hA⟩ := h0.some (by omega)
      have h0' := h0
      rw [hA] at h0' p0
      obtain ⟨y, hy⟩ : ∃ y, x.s.L[j]? = some y := ⟨_, List.getElem?_eq_getElem (by have := HL.out; omega)⟩
      obtain ⟨z0, z1, _⟩ := (h0'.new hnw).cell5 hy
      have hi := HP.out.i j y hy
      have hd := key_dec y.k k
      cases e1 : (y.k.1 == k.1) <;> cases e2 : (y.k.2 == k.2) <;> rw [e1, e2] at hd
      case true.true =>
        have hr : (j : Int) = r := hi.1 (of_decide_eq_true hd)
        have HR := hide hr
        clear hr hd hi hy
        go_wp2_with fail
        go_quiet (fail)
        have hnd := new_draw wr nq
        go_wp2_with fail
        go_ret
        exact ⟨by rw [← HR.out]; rfl, hn0.then (hnw.then hnd)⟩
      all_goals
        have hr : (j : Int) ≠ r := fun e => absurd (hi.2 e) (of_decide_eq_false hd)
        have HR := hide hr
        clear hr hd hi hy
        go_wp2_with fail
        go_quiet (fail)
        have hnd := new_draw wr nq
        go_wp2_with fail
        go_roundw
        case rel =>
          refine ⟨hnw.then hnd, j + 1, by omega, by go_num, fun i hi => ?_⟩
          have h1 := hji i hi
          have h2 := HR.out
          omega
        case measure => simp [intOf]; omega
    · have d1 : decide ((j : Int) < x.n0) = false := decide_eq_false (by omega)
      have d2 : decide (j < x.n0) = false := decide_eq_false hjn
      have hr : r = -1 := by
        rcases HP.out.r with e | ⟨i, hi, e⟩
        · exact e
        · have := hji i e
          have := HL.out
          omega
      have HR := hide hr
      clear hr
      go_wp2_with fail
      go_ret
      exact ⟨by rw [HR.out]; rfl, hn0.then hnw⟩
end Go.Proofs.Ytmonhhodbinagaa
