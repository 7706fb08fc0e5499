/- Walks: few; the example. -/
import Derived.Test.YtkcdpnmdhmihaaaP9
import Derived.Lib.SlBytesConst
namespace Go.Proofs.Ytkcdpnmdhmihaaa
open Go.RowKit
set_option maxRecDepth 100000

theorem info_row : (Try.prog.info? 23).map (fun i => (i.zero, i.size, i.bytes)) = some (some (.slice none 0 0), 1, 24) := by kernel_rfl
section
variable {ops : Array Oper} {rest : List Oper} {o : Oper} {a : Act} {Q : Exit → Act → World → Prop} {w : World}
theorem app_row (hgd : o.guard = none) (s x : Operand) (ho : o.op = .call { callee := .builtin .append, args := #[s, x], argTypes := #[22, 22] })
    (base : Nat) {A B : Option Addr} {n c m d : Nat} {xs ys : List Value} (hs : a.eval s = .slice A n c) (hx : a.eval x = .slice B m d) (hown : Own w base 23 1 A n c xs) (hr : Rd w 1 B m d ys) (hbytes : (n + m) * 24 ≤ 140737488355328) (hbase : base ≤ w.heap.size)
    (h : ∀ A' c' w', Own w' base 23 1 A' (n + m) c' (xs ++ ys) → Ext (inA A) w w' → (A' = A ∨ A' = some ⟨w.heap.size, 0, none⟩) → wpList Try.prog ops Q rest (a.put o.dst (.slice A' (n + m) c')) w') :
    wpList Try.prog ops Q (o :: rest) a w :=
  wpList_app hgd s x _ ho base 23 (.slice none 0 0) 1 24 Try.underlying22 info_row rfl (by decide) (by decide) hs hx hown hr hbytes hbase h
end

def cutP (p : Pc) : Pc := ⟨p.a, min p.n 1030, p.c, p.b.take 1030⟩
theorem cutP_v {p : Pc} (h : p.n ≤ 1030) : (cutP p).v = .slice p.a p.n p.c := by simp [cutP, Pc.v, Nat.min_eq_left h]
theorem cutP_v' {p : Pc} (h : ¬ p.n ≤ 1030) : (cutP p).v = .slice p.a 1030 p.c := by simp [cutP, Pc.v, Nat.min_eq_right (show 1030 ≤ p.n by omega)]
theorem cutP_ok {w : World} {p : Pc} (h : Rd w 1 p.a p.n p.c (bts p.b) ∧ isB p.b) : Rd w 1 (cutP p).a (cutP p).n (cutP p).c (bts (cutP p).b) ∧ isB (cutP p).b := by
  refine ⟨?_, h.2.take _⟩
  show Rd w 1 p.a (min p.n 1030) p.c (bts (p.b.take 1030))
  by_cases hn : p.n ≤ 1030
  · rw [Nat.min_eq_left hn, List.take_of_length_le (by rw [h.1.blen]; exact hn)]
    exact h.1
  · rw [Nat.min_eq_right (by omega)]
    exact h.1.btake 1030 (by omega)

set_option maxHeartbeats 800000 in
theorem few_any (A : Option Addr) (n c : Nat) (L : List Pc) (w : World) (h : Rows w A n c L) :
    Calls Try.prog 9 #[.slice A n c] w fun e w' => ∃ A' c', e = .returned (.slice A' (min n 20) c') ∧ Own w' w.heap.size 23 1 A' (min n 20) c' (((L.take 20).map cutP).map Pc.v) ∧ Rows w' A' (min n 20) c' ((L.take 20).map cutP) ∧ New w w' := by
  have hlen := h.len
  have hcap := h.rd.cap
  have htop := h.rd.top
  go_enter Try.func9, Try.ntmps9
  go_wp2_with fail
  go_loopw [3, 4] (fun s3 s4 wr => ∃ (k : Nat) (A' : Option Addr) (c' : Nat), k ≤ n ∧ k ≤ 20 ∧ s4 = .int .i64 k ∧ s3 = .slice A' k c' ∧ Own wr w.heap.size 23 1 A' k c' (((L.take k).map cutP).map Pc.v) ∧ New w wr) (fun _ v _ => n - (intOf v).toNat)
  case atStart => exact ⟨0, none, 0, Nat.zero_le _, by omega, rfl, rfl, Own.nil _ _ _ _, Ext.refl _ _⟩
  case round =>
    obtain ⟨k, A', c', hk, hk20, rfl, rfl, ho, hnw⟩ := hrel
    have hwr := hnw.size
    by_cases hgo : k < n ∧ k < 20
    · obtain ⟨hkn, hk2⟩ := hgo
      have hz : decide ((k : Int) < n) = true := decide_eq_true (by omega)
      have hz6 : decide ((k : Int) < 20) = true := decide_eq_true (by omega)
      obtain ⟨ad, p, rfl, hp, hc, hr, hB, hpn⟩ := (h.new hnw).at_ hkn
      have hts : ((L.take (k + 1)).map cutP).map Pc.v = ((L.take k).map cutP).map Pc.v ++ [(cutP p).v] := by rw [take_snoc L k p hp]; simp
      have HP := hide hp
      have HN := hide hpn
      have HT := hide hts
      have hpc := hr.cap
      clear hp hpn hts
      by_cases hb : p.n ≤ 1030
      · have d : decide (1030 < (p.n : Int)) = false := decide_eq_false (by omega)
        go_wp2_with (at_builtin; refine app_row rfl _ _ rfl w.heap.size rfl rfl (ho.new (New.alloc1 _ _)) (rd_box _ _ _ rfl) (by omega) (by simp; omega) ?_; intro A2 c2 w2 ho2 he2 hA2)
        go_roundw
        case rel => exact ⟨k + 1, A2, c2, by omega, by omega, by go_num, rfl, by rw [HT.out, cutP_v hb]; exact ho2, new_app hnw ho _ he2⟩
        case measure => simp [intOf]; omega
      · have d : decide (1030 < (p.n : Int)) = true := decide_eq_true (by omega)
        have s1 := run_cut_h (P := Try.prog) 23 5 1 Try.underlying23 size_u8 p.a p.n p.c 1030 1030 rfl (by omega) .i64
        go_wp2_with (at_builtin; refine app_row rfl _ _ rfl w.heap.size rfl rfl (ho.new (New.alloc1 _ _)) (rd_box _ _ _ rfl) (by omega) (by simp; omega) ?_; intro A2 c2 w2 ho2 he2 hA2)
        go_roundw
        case rel => exact ⟨k + 1, A2, c2, by omega, by omega, by go_num, rfl, by rw [HT.out, cutP_v' hb]; exact ho2, new_app hnw ho _ he2⟩
        case measure => simp [intOf]; omega
    · have hmin : min n 20 = k := by omega
      have htk : L.take 20 = L.take k := by
        by_cases h2 : k = 20
        · rw [h2]
        · obtain rfl : k = n := by omega
          rw [List.take_of_length_le (by omega), List.take_of_length_le (by omega)]
      have HM := hide hmin
      have HT := hide htk
      clear hmin htk
      by_cases hkn : k < n
      · have hz : decide ((k : Int) < n) = true := decide_eq_true (by omega)
        have hz6 : decide ((k : Int) < 20) = false := decide_eq_false (by omega)
        go_wp2_with fail
        go_ret
        rw [HM.out, HT.out]
        exact ⟨A', c', rfl, ho, ⟨ho.rd, fun q hq => by
          obtain ⟨p, hp, rfl⟩ := List.mem_map.1 hq
          exact cutP_ok ((h.new hnw).one p (List.mem_of_mem_take hp))⟩, hnw⟩
      · have hz : decide ((k : Int) < n) = false := decide_eq_false (by omega)
        go_wp2_with fail
        go_ret
        rw [HM.out, HT.out]
        exact ⟨A', c', rfl, ho, ⟨ho.rd, fun q hq => by
          obtain ⟨p, hp, rfl⟩ := List.mem_map.1 hq
          exact cutP_ok ((h.new hnw).one p (List.mem_of_mem_take hp))⟩, hnw⟩

theorem conv0 (w : World) (C : Array Value) (n c : Nat) : (convert 23 23 (.slice (some ⟨w.heap.size, 0, none⟩) n c)).run Try.prog (w.alloc (.cells C 5)) = .ok (.slice (some ⟨w.heap.size, 0, none⟩) n c) (w.alloc (.cells C 5 (C.size, C.size + 1))) :=
  Lib.run_convert_bytes_const (P := Try.prog) w 23 5 C n c Try.underlying23 Try.underlying5
theorem conv1 (w : World) (o : Obj) (C : Array Value) (n c : Nat) : (convert 23 23 (.slice (some ⟨w.heap.size + 1, 0, none⟩) n c)).run Try.prog ((w.alloc o).alloc (.cells C 5)) = .ok (.slice (some ⟨w.heap.size + 1, 0, none⟩) n c) ((w.alloc o).alloc (.cells C 5 (C.size, C.size + 1))) := by
  have := conv0 (w.alloc o) C n c
  rwa [World.size_alloc] at this
/-- A written-out row of bytes, marked or not. -/
theorem rd_marked (w : World) (e : TypeId) (l : List Int) (fr : Nat × Nat) (hn : l.length ≤ 9223372036854775807) : Rd (w.alloc (.cells (bts l).toArray e fr)) 1 (some ⟨w.heap.size, 0, none⟩) l.length l.length (bts l) :=
  ⟨by simp [bts], Nat.le_refl _, hn, (fun h => by cases h), bts_one l, fun ad e' j v hv => by
    cases e'
    rw [add_at, blk_cell (blk_new w _)]
    simpa using hv⟩

/-- Two written-out pieces, and one. -/
theorem rows_two (w : World) : Rows (((w.alloc (.cells #[.int .u8 97, .int .u8 98] 5 (2, 3))).alloc (.cells #[.int .u8 99] 5 (1, 2))).alloc (.cells #[.slice (some ⟨w.heap.size, 0, none⟩) 2 2, .slice (some ⟨w.heap.size + 1, 0, none⟩) 1 1] 23)) (some ⟨w.heap.size + 1 + 1, 0, none⟩) 2 2
    [⟨some ⟨w.heap.size, 0, none⟩, 2, 2, [97, 98]⟩, ⟨some ⟨w.heap.size + 1, 0, none⟩, 1, 1, [99]⟩] := by
  refine ⟨?_, ?_⟩
  · have := rd_lit ((w.alloc (.cells #[.int .u8 97, .int .u8 98] 5 (2, 3))).alloc (.cells #[.int .u8 99] 5 (1, 2))) 23 1 2 #[.slice (some ⟨w.heap.size, 0, none⟩) 2 2, .slice (some ⟨w.heap.size + 1, 0, none⟩) 1 1] (by omega) rfl (by simp [Value.oneCell'])
    rw [World.size_alloc, World.size_alloc] at this
    exact this
  · intro p hp
    rcases List.mem_cons.1 hp with rfl | hp
    · exact ⟨(rd_marked w _ [97, 98] (2, 3) (by decide)).new (by (repeat (first | exact Ext.refl _ _ | assumption | apply Ext.alloc | apply Ext.drewN | apply Ext.drew | refine Ext.setCell ?_ (fun h => by first | rfl | exact absurd h (by dsimp only; omega)) _))), by intro x hx; simp at hx; omega⟩
    · obtain rfl := List.mem_singleton.1 hp
      have := (rd_marked (w.alloc (.cells #[.int .u8 97, .int .u8 98] 5 (2, 3))) 5 [99] (1, 2) (by decide)).new (show New _ (((w.alloc (.cells #[.int .u8 97, .int .u8 98] 5 (2, 3))).alloc (.cells #[.int .u8 99] 5 (1, 2))).alloc (.cells #[.slice (some ⟨w.heap.size, 0, none⟩) 2 2, .slice (some ⟨w.heap.size + 1, 0, none⟩) 1 1] 23)) by (repeat (first | exact Ext.refl _ _ | assumption | apply Ext.alloc | apply Ext.drewN | apply Ext.drew | refine Ext.setCell ?_ (fun h => by first | rfl | exact absurd h (by dsimp only; omega)) _)))
      rw [World.size_alloc] at this
      exact ⟨this, by intro x hx; simp at hx; omega⟩
theorem rows_one (w : World) : Rows ((w.alloc (.cells #[.int .u8 99] 5 (1, 2))).alloc (.cells #[.slice (some ⟨w.heap.size, 0, none⟩) 1 1] 23)) (some ⟨w.heap.size + 1, 0, none⟩) 1 1 [⟨some ⟨w.heap.size, 0, none⟩, 1, 1, [99]⟩] := by
  refine ⟨?_, ?_⟩
  · have := rd_lit (w.alloc (.cells #[.int .u8 99] 5 (1, 2))) 23 1 1 #[.slice (some ⟨w.heap.size, 0, none⟩) 1 1] (by omega) rfl (by simp [Value.oneCell'])
    rw [World.size_alloc] at this
    exact this
  · intro p hp
    obtain rfl := List.mem_singleton.1 hp
    exact ⟨(rd_marked w 5 [99] (1, 2) (by decide)).new (by (repeat (first | exact Ext.refl _ _ | assumption | apply Ext.alloc | apply Ext.drewN | apply Ext.drew | refine Ext.setCell ?_ (fun h => by first | rfl | exact absurd h (by dsimp only; omega)) _))), by intro x hx; simp at hx; omega⟩
theorem ok_lit : okA [0, 3, 2, 98] [[99]] := by
  have e : xorN [0, 3, 2, 98] [[99]] = 2 := by decide +kernel
  refine ⟨⟨by decide, by rw [e]; decide, by decide⟩, fun j h1 h2 => ?_⟩
  rw [e] at h2
  simp at h1
  omega

set_option maxHeartbeats 1000000 in
theorem awake_any (w : World) : Calls Try.prog 16 #[] w fun e w' => e = .returned (.bool true) ∧ New w w' := by
  have kc0 := conv0
  have kc1 := conv1
  go_enter Try.func16, Try.ntmps16
  go_wp2_with fail
  have p1 : isP [⟨some ⟨w.heap.size, 0, none⟩, 2, 2, [97, 98]⟩, ⟨some ⟨w.heap.size + 1, 0, none⟩, 1, 1, [99]⟩] := ⟨by simp, by simp, by show longOf [[97, 98], [99]] ≤ 1024; decide⟩
  refine (make_yes _ 2 2 _ _ (rows_two w) p1).mono ?_
  rintro e w1 ⟨A1, c1, rfl, ho1, hn1⟩
  have e1 : makeOf (byt [⟨some ⟨w.heap.size, 0, none⟩, 2, 2, [97, 98]⟩, ⟨some ⟨w.heap.size + 1, 0, none⟩, 1, 1, [99]⟩]) = [0, 3, 2, 98] := by show makeOf [[97, 98], [99]] = _; decide +kernel
  have e2 : longOf (byt [⟨some ⟨w.heap.size, 0, none⟩, 2, 2, [97, 98]⟩, ⟨some ⟨w.heap.size + 1, 0, none⟩, 1, 1, [99]⟩]) = 2 := by show longOf [[97, 98], [99]] = _; decide +kernel
  rw [e1, e2] at ho1
  rw [e2]
  clear e1 e2 p1
  have hn01 : New w w1 := New.then (by (repeat (first | exact Ext.refl _ _ | assumption | apply Ext.alloc | apply Ext.drewN | apply Ext.drew | refine Ext.setCell ?_ (fun h => by first | rfl | exact absurd h (by dsimp only; omega)) _))) hn1
  go_wp2_with fail
  refine (find_h A1 4 c1 [0, 3, 2, 98] _ 1 1 _ _ (ho1.rd.new (by (repeat (first | exact Ext.refl _ _ | assumption | apply Ext.alloc | apply Ext.drewN | apply Ext.drew | refine Ext.setCell ?_ (fun h => by first | rfl | exact absurd h (by dsimp only; omega)) _)))) (by intro x hx; simp at hx; omega) (rows_one w1) ok_lit.1.1).mono ?_
  rintro e w2 ⟨A2, c2, he2, hn2⟩
  have hn12 : New w1 w2 := New.then (by (repeat (first | exact Ext.refl _ _ | assumption | apply Ext.alloc | apply Ext.drewN | apply Ext.drew | refine Ext.setCell ?_ (fun h => by first | rfl | exact absurd h (by dsimp only; omega)) _))) hn2
  rcases he2 with ⟨_, rfl, hr2⟩ | ⟨hno, _⟩
  case inr => exact absurd ok_lit hno
  have e3 : xorN [0, 3, 2, 98] (byt [⟨some ⟨w1.heap.size, 0, none⟩, 1, 1, [99]⟩]) = 2 := by show xorN [0, 3, 2, 98] [[99]] = _; decide +kernel
  have e4 : outOf [0, 3, 2, 98] (byt [⟨some ⟨w1.heap.size, 0, none⟩, 1, 1, [99]⟩]) = [97, 98] := by show outOf [0, 3, 2, 98] [[99]] = _; decide +kernel
  rw [e3, e4] at hr2
  rw [e3]
  clear e3 e4
  have q1 : (convert 23 9 (.slice A1 4 c1)).run Try.prog w2 = .ok (.string (strOfNums [0, 3, 2, 98])) w2 := Str.of (ho1.rd.new hn12)
  have q2 : (convert 23 9 (.slice A2 2 c2)).run Try.prog w2 = .ok (.string (strOfNums [97, 98])) w2 := Str.of hr2
  have r1 : strOfNums [0, 3, 2, 98] = ⟨#[0, 3, 2, 98]⟩ := by decide +kernel
  have r2 : strOfNums [97, 98] = ⟨#[97, 98]⟩ := by decide +kernel
  rw [r1] at q1
  rw [r2] at q2
  clear r1 r2
  go_wp2_with fail
  refine (check_any A1 4 c1 [0, 3, 2, 98] _ 2 2 _ _ (ho1.rd.new (hn12.then (by (repeat (first | exact Ext.refl _ _ | assumption | apply Ext.alloc | apply Ext.drewN | apply Ext.drew | refine Ext.setCell ?_ (fun h => by first | rfl | exact absurd h (by dsimp only; omega)) _))))) (rows_two w2)).mono ?_
  rintro e w3 ⟨rfl, hn3⟩
  have d1 : decide (isP [⟨some ⟨w2.heap.size, 0, none⟩, 2, 2, [97, 98]⟩, ⟨some ⟨w2.heap.size + 1, 0, none⟩, 1, 1, [99]⟩] ∧ makeOf (byt [⟨some ⟨w2.heap.size, 0, none⟩, 2, 2, [97, 98]⟩, ⟨some ⟨w2.heap.size + 1, 0, none⟩, 1, 1, [99]⟩]) = [0, 3, 2, 98]) = true :=
    decide_eq_true ⟨⟨by simp, by simp, by show longOf [[97, 98], [99]] ≤ 1024; decide⟩, by show makeOf [[97, 98], [99]] = _; decide +kernel⟩
  rw [d1]
  clear d1
  go_wp2_with fail
  go_ret
  exact ⟨rfl, (hn01.then hn12).then (New.then (by (repeat (first | exact Ext.refl _ _ | assumption | apply Ext.alloc | apply Ext.drewN | apply Ext.drew | refine Ext.setCell ?_ (fun h => by first | rfl | exact absurd h (by dsimp only; omega)) _))) hn3)⟩
end Go.Proofs.Ytkcdpnmdhmihaaa
