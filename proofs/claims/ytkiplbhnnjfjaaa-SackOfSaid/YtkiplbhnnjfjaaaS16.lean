/- The law on how many ranges a row has at most. -/
import Derived.Test.YtkiplbhnnjfjaaaS15
namespace Go.Proofs.Ytkiplbhnnjfjaaa
set_option linter.unusedVariables false
set_option linter.unusedSimpArgs false
open Go.RowKit
set_option maxRecDepth 100000

/-! ## plain -/
def numF : Nat → Int → List Int
  | 0, _ => []
  | d + 1, s => s :: numF d (s + 3)
def triF : Nat → Int → List Rg
  | 0, _ => []
  | d + 1, s => (s, s + 1) :: triF d (s + 3)
theorem numF_map : ∀ (d : Nat) (s : Int), (numF d s).map num = triF d s
  | 0, _ => rfl
  | d + 1, s => by rw [numF, triF, List.map_cons, numF_map d]; rfl
theorem numF_snoc : ∀ (d : Nat) (s : Int), numF (d + 1) s = numF d s ++ [s + 3 * d]
  | 0, s => by simp [numF]
  | d + 1, s => by
    rw [numF, numF_snoc d, numF, List.cons_append]
    congr 3
    omega
theorem triF_snoc : ∀ (d : Nat) (s : Int), triF (d + 1) s = triF d s ++ [(s + 3 * d, s + 3 * d + 1)]
  | 0, s => by simp [triF]
  | d + 1, s => by
    rw [triF, triF_snoc d, triF, List.cons_append]
    congr 4 <;> omega
theorem triF_len : ∀ (d : Nat) (s : Int), (triF d s).length = d
  | 0, _ => rfl
  | d + 1, s => by rw [triF, List.length_cons, triF_len d]
theorem numF_len : ∀ (d : Nat) (s : Int), (numF d s).length = d
  | 0, _ => rfl
  | d + 1, s => by rw [numF, List.length_cons, numF_len d]
theorem triF_ord : ∀ (d : Nat) (s e : Int), e < s → 0 ≤ s → s + 3 * d ≤ tp → Ord e (triF d s)
  | 0, _, _, _, _, _ => trivial
  | d + 1, s, e, h, h0, h1 => ⟨h, ⟨h0, by show s < s + 1; omega, by show s + 1 ≤ tp; omega⟩, triF_ord d (s + 3) (s + 1) (by omega) (by omega) (by omega)⟩
theorem triF_hs : ∀ (d : Nat) (s n : Int), Hs (triF d s) n → s ≤ n ∧ n < s + 3 * d
  | 0, _, n, h => absurd h (Hs.nil n)
  | d + 1, s, n, h => by
    rcases (hs_cons _ _ _).1 h with h | h
    · obtain ⟨h1, h2⟩ := h
      have h1 : s ≤ n := h1
      have h2 : n < s + 1 := h2
      omega
    · have := triF_hs d (s + 3) n h
      omega
theorem joined_id {l : List Rg} (h : Ord (-1) l) : joined_ l = l := by
  obtain ⟨a1, a2⟩ := joined_ok h.one
  exact ord_unique a1 h a2
theorem many_of (n : Nat) (h : n ≤ 1000) : ofP (numF n 0) = bnd (triF n 0) := by
  have ho : Ord (-1) (triF n 0) := triF_ord n 0 (-1) (by omega) (by omega) (by unfold tp; omega)
  have hb : ∀ (d : Nat) (s : Int), 0 ≤ s → s + 3 * d ≤ 100000 → ∀ x ∈ numF d s, 0 ≤ x ∧ x < tp := by
    intro d
    induction d with
    | zero => intro s _ _ x hx; cases hx
    | succ d ih =>
      intro s h0 h1 x hx
      rcases List.mem_cons.1 hx with rfl | hx
      · unfold tp; omega
      · exact ih (s + 3) (by omega) (by omega) x hx
  unfold ofP
  rw [if_pos (hb n 0 (by omega) (by omega)), numF_map, joined_id ho]
theorem many_chk (n : Nat) (h : n ≤ 256) : chk (triF n 0) = 0 := by
  unfold chk
  rw [triF_len, if_neg (by omega), if_pos (triF_ord n 0 (-1) (by omega) (by omega) (by unfold tp; omega))]
theorem many_add (n : Nat) (h : n ≤ 256) : addP (triF n 0) (3 * (n : Int), 3 * (n : Int) + 1) = bnd (triF (n + 1) 0) := by
  unfold addP
  rw [if_pos (many_chk n h), if_pos (show One (3 * (n : Int), 3 * (n : Int) + 1) from ⟨by show 0 ≤ 3 * (n : Int); omega, by show 3 * (n : Int) < 3 * (n : Int) + 1; omega, by show 3 * (n : Int) + 1 ≤ tp; unfold tp; omega⟩)]
  have hs := triF_snoc n 0
  rw [Int.zero_add] at hs
  rw [← hs, joined_id (triF_ord (n + 1) 0 (-1) (by omega) (by omega) (by unfold tp; omega))]
theorem many_all (n : Nat) (h1 : 1 ≤ n) (h : n ≤ 256) : addP (triF n 0) (0, 3 * (n : Int)) = ([(0, 3 * (n : Int))], 0) := by
  have hone : One (0, 3 * (n : Int)) := ⟨by show (0 : Int) ≤ 0; omega, by show 0 < 3 * (n : Int); omega, by show 3 * (n : Int) ≤ tp; unfold tp; omega⟩
  unfold addP
  rw [if_pos (many_chk n h), if_pos hone]
  have ho := triF_ord n 0 (-1) (by omega) (by omega) (by unfold tp; omega)
  obtain ⟨a1, a2⟩ := joined_ok (l := triF n 0 ++ [(0, 3 * (n : Int))]) (fun x hx => (List.mem_append.1 hx).elim (ho.one x) (fun hx => by rw [List.mem_singleton.1 hx]; exact hone))
  have ho2 : Ord (-1) [(0, 3 * (n : Int))] := ⟨by show (-1 : Int) < 0; omega, hone, trivial⟩
  rw [ord_unique a1 ho2 (fun x => by
    rw [a2 x, hs_append, hs_cons]
    simp only [Hs.nil, or_false]
    constructor
    · rintro (h | h)
      · have := triF_hs n 0 x h
        exact ⟨by show 0 ≤ x; omega, by show x < 3 * (n : Int); omega⟩
      · exact h
    · exact .inr)]
  rfl

/-! ## the walk -/
theorem info_i : (Try.prog.info? 3).map (fun i => (i.zero, i.size, i.bytes)) = some (some (.int .i64 0), 1, 8) := by kernel_rfl
section
variable {ops : Array Oper} {rest : List Oper} {o : Oper} {a : Act} {Q : Exit → Act → World → Prop} {w : World}
theorem app_i (hgd : o.guard = none) (s x : Operand) (ho : o.op = .call { callee := .builtin .append, args := #[s, x], argTypes := #[22, 22] })
    (base : Nat) {A B : Option Addr} {n c m d : Nat} {xs ys : List Value} (hs : a.eval s = .slice A n c) (hx : a.eval x = .slice B m d) (hown : Own w base 3 1 A n c xs) (hr : Rd w 1 B m d ys) (hbytes : (n + m) * 8 ≤ 140737488355328) (hbase : base ≤ w.heap.size)
    (h : ∀ A' c' w', Own w' base 3 1 A' (n + m) c' (xs ++ ys) → Ext (inA A) w w' → (A' = A ∨ A' = some ⟨w.heap.size, 0, none⟩) → wpList Try.prog ops Q rest (a.put o.dst (.slice A' (n + m) c')) w') :
    wpList Try.prog ops Q (o :: rest) a w :=
  wpList_app hgd s x _ ho base 3 (.int .i64 0) 1 8 Try.underlying22 info_i rfl (by decide) (by decide) hs hx hown hr hbytes hbase h
end
set_option maxHeartbeats 4000000 in
theorem many_walk (more : Int) (w : World) (h0 : 0 ≤ more) (h255 : more ≤ 255) :
    Calls Try.prog 3 #[.int .u8 more] w fun e w' => e = .returned (.bool true) ∧ New w w' := by
  obtain ⟨n, hn⟩ : ∃ n : Nat, 255 + more % 4 = n := ⟨(255 + more % 4).toNat, by omega⟩
  have hn1 : 255 ≤ n := by omega
  have hn2 : n ≤ 258 := by omega
  go_enter Try.func3, Try.ntmps3
  go_wp2_with fail
  have HN := hide hn
  clear hn
  go_loopw [4, 5] (fun s4 s5 wr => New w wr ∧ ∃ (k : Nat) (A' : Option Addr) (c' : Nat), k ≤ n ∧ s5 = .int .i64 k ∧ s4 = .slice A' k c' ∧ Own wr w.heap.size 3 1 A' k c' ((numF k 0).map (Value.int .i64))) (fun _ i _ => n - (intOf i).toNat)
  case atStart => exact ⟨Ext.refl _ _, 0, none, 0, Nat.zero_le _, rfl, rfl, by simpa [numF] using Own.nil _ _ _ _⟩
  case round =>
    obtain ⟨hnw, k, A', c', hk, rfl, rfl, ho⟩ := hrel
    by_cases hkn : k < n
    · have d1 : decide ((k : Int) < n) = true := decide_eq_true (by omega)
      have d2 : decide (k < n) = true := decide_eq_true (by omega)
      have hnext := hide (show (numF (k + 1) 0).map (Value.int .i64) = (numF k 0).map (Value.int .i64) ++ [.int .i64 (3 * k)] by rw [numF_snoc, List.map_append, Int.zero_add]; rfl)
      have hrb := rd_lit wr 3 1 1 #[.int .i64 (3 * (k : Int))] (by omega) rfl (by simp [Value.oneCell'])
      have hnb := New.alloc1 wr (.cells #[.int .i64 (3 * (k : Int))] 3)
      have hsz := hnw.size
      go_wp2_with (at_builtin; refine app_i rfl _ _ rfl w.heap.size rfl rfl (ho.new hnb) hrb (by omega) (by have := hnb.size; omega) ?_; intro A5 c5 w5 ho5 he5 hA5)
      go_roundw
      case rel => exact ⟨(hnw.then hnb).trans he5 (fun j hj hi => by have := (ho.at_ hi).1; omega), k + 1, A5, c5, by omega, by go_num, rfl, by rw [hnext.out]; exact ho5⟩
      case measure => simp [intOf]; omega
    · have d1 : decide ((k : Int) < n) = false := decide_eq_false (by omega)
      have d2 : decide (k < n) = false := decide_eq_false (by omega)
      obtain rfl : k = n := by omega
      clear hkn hk
      by_cases h256 : 256 < k
      · have hov := many_of k (by omega)
        rw [show bnd (triF k 0) = ([], 3) by unfold bnd; rw [triF_len, if_pos (by omega)]] at hov
        have HOV := hide hov
        clear hov
        have e1 : decide ((256 : Int) < (k : Nat)) = true := decide_eq_true (by omega)
        have e2 : decide (256 < k) = true := decide_eq_true h256
        go_wp2_with fail
        refine (of_p A' k c' _ _ ho.rd (by omega)).mono ?_
        rw [HOV.out]
        rintro e w1 ⟨A1, c1, rfl, hr1, hn1⟩
        clear h256
        go_wp2_with fail
        refine (awake_c _).mono ?_
        rintro e w4 ⟨rfl, hn4⟩
        go_wp2_with fail
        go_ret
        exact ⟨rfl, hnw.then (hn1.then hn4)⟩
      · obtain ⟨n, rfl⟩ : ∃ n, n = k := ⟨k, rfl⟩
        have hov := many_of n (by omega)
        rw [show bnd (triF n 0) = (triF n 0, 0) by unfold bnd; rw [triF_len, if_neg (by omega)]] at hov
        have HOV := hide hov
        have hadd := many_add n (by omega)
        have HALL := hide (many_all n (by omega) (by omega))
        clear hov
        have e1 : decide ((256 : Int) < (n : Nat)) = false := decide_eq_false (by omega)
        have e2 : decide (256 < n) = false := decide_eq_false (by omega)
        go_wp2_with fail
        refine (of_p A' n c' _ _ ho.rd (by omega)).mono ?_
        rw [HOV.out]
        rintro e w1 ⟨A1, c1, he, hr1, hn1⟩
        rw [triF_len] at he hr1
        subst he
        have en : ((n : Int) == (n : Int)) = true := by simp
        have HAD := hide hadd
        clear hadd
        go_wp2_with fail
        refine (add_c A1 n c1 _ (3 * (n : Int), 3 * (n : Int) + 1) _ hr1 (by omega)).mono ?_
        rw [HAD.out]
        by_cases hlt : n < 256
        · have e3 : decide (((n : Nat) : Int) < 256) = true := decide_eq_true (by omega)
          have e4 : decide (n < 256) = true := decide_eq_true hlt
          rw [show bnd (triF (n + 1) 0) = (triF (n + 1) 0, 0) by unfold bnd; rw [triF_len, if_neg (by omega)]]
          rintro e w2 ⟨A2, c2, he, hr2, hn2⟩
          rw [triF_len] at he
          subst he
          go_wp2_with fail
          refine (add_c A1 n c1 _ (0, 3 * (n : Int)) _ (hr1.new hn2) (by omega)).mono ?_
          rw [HALL.out]
          rintro e w3 ⟨A3, c3, rfl, hr3, hn3⟩
          clear hlt
          go_wp2_with fail
          refine (awake_c _).mono ?_
          rintro e w4 ⟨rfl, hn4⟩
          go_wp2_with fail
          go_ret
          exact ⟨rfl, hnw.then (hn1.then (hn2.then (hn3.then hn4)))⟩
        · have e3 : decide (((n : Nat) : Int) < 256) = false := decide_eq_false (by omega)
          have e4 : decide (n < 256) = false := decide_eq_false hlt
          rw [show bnd (triF (n + 1) 0) = ([], 3) by unfold bnd; rw [triF_len, if_pos (by omega)]]
          rintro e w2 ⟨A2, c2, rfl, hr2, hn2⟩
          go_wp2_with fail
          refine (add_c A1 n c1 _ (0, 3 * (n : Int)) _ (hr1.new hn2) (by omega)).mono ?_
          rw [HALL.out]
          rintro e w3 ⟨A3, c3, rfl, hr3, hn3⟩
          clear hlt
          go_wp2_with fail
          refine (awake_c _).mono ?_
          rintro e w4 ⟨rfl, hn4⟩
          go_wp2_with fail
          go_ret
          exact ⟨rfl, hnw.then (hn1.then (hn2.then (hn3.then hn4)))⟩
theorem law_many (more : Int) (w : World) (wm : (Lit.int .u8 more).wf = true) : Calls Try.prog 3 #[.int .u8 more] w fun e w' => e = .returned (.bool true) ∧ New w w' := by
  have := wf_of_u8 wm
  exact many_walk more w this.1 this.2
theorem law_of (A : Option Addr) (n c : Nat) (xs : List Int) (x : Int) (w : World) (h : Rd w 1 A n c (xs.map (Value.int .i64))) (_ : ∀ x ∈ xs, (Lit.int .i64 x).wf = true) (_ : n * 8 ≤ 140737488351232) (_ : (Lit.int .i64 x).wf = true) : Calls Try.prog 4 #[.slice A n c, .int .i64 x] w fun e w' => e = .returned (.bool true) ∧ New w w' := of_walk A n c xs x w h
end Go.Proofs.Ytkiplbhnnjfjaaa
