/- The document's pacer: a queue without a key; whether two are alike. -/
import Derived.Test.YtmonhhodbinagaaK32
namespace Go.Proofs.Ytmonhhodbinagaa
open Go.RowKit Go.Maps
set_option maxRecDepth 100000

set_option maxHeartbeats 2000000 in
theorem without_d (A : Option Addr) (n c : Nat) (xs : List (Int × Int)) (t : Int × Int) (w : World) (h : Rd w 2 A n c (kcs xs)) (hr2 : n ≤ 1024) :
    Calls Try.prog 44 #[.slice A n c, kV t] w fun e w' => ∃ A' c', e = .returned (.slice A' (noQ xs t).length c') ∧ Own w' w.heap.size 49 2 A' (noQ xs t).length c' (kcs (noQ xs t)) ∧ New w w' := by
  obtain ⟨f, hf⟩ : ∃ f : Int × Int → Bool, f = fun x => decide (x ≠ t) := ⟨_, rfl⟩
  rw [show noQ xs t = xs.filter f by rw [hf]; rfl]
  have HF := hide hf
  clear hf
  have hN0 := New.alloc1 w (.cells #[.int .i64 t.1, .int .i64 t.2] 49)
  have hq := blk_new w (.cells #[.int .i64 t.1, .int .i64 t.2] 49)
  have hz0 : (w.alloc (.cells #[.int .i64 t.1, .int .i64 t.2] 49)).heap.size = w.heap.size + 1 := by simp
  go_enter Try.func44, Try.ntmps44
  go_upto_region 1 with (fail)
  generalize w.alloc (.cells #[.int .i64 t.1, .int .i64 t.2] 49) = w0 at *
  have h0 := h.new hN0
  have hlen := h.lenk
  have HL := hide hlen
  clear hlen
  go_wp2_with fail
  go_loopw [5, 6] (fun s5 s6 wr => New w0 wr ∧ ∃ k A' c', k ≤ n ∧ s6 = .int .i64 (k : Nat) ∧ s5 = .slice A' ((xs.take k).filter f).length c' ∧ Own wr (w.heap.size + 1) 49 2 A' ((xs.take k).filter f).length c' (kcs ((xs.take k).filter f))) (fun _ i _ => n - (intOf i).toNat)
  case atStart => exact ⟨Ext.refl _ _, 0, none, 0, Nat.zero_le _, rfl, by simp, by simpa [kcs] using Own.nil _ _ _ _⟩
  case round =>
    obtain ⟨hnw, k, A', c', hk, rfl, rfl, ho⟩ := hrel
    have hml : ((xs.take k).filter f).length ≤ 1024 := Nat.le_trans (List.length_filter_le _ _) (by rw [List.length_take]; omega)
    obtain ⟨L, hL⟩ : ∃ L, L = (xs.take k).filter f := ⟨_, rfl⟩
    rw [← hL] at hml ho
    rw [← hL]
    have HLL := hide hL
    clear hL
    by_cases hkn : k < n
    · have d1 : decide ((k : Int) < n) = true := decide_eq_true (by omega)
      have d2 : decide (k < n) = true := decide_eq_true (by omega)
      obtain ⟨ad, rfl⟩ := h0.some (by omega)
      obtain ⟨x, hx⟩ : ∃ x, xs[k]? = some x := ⟨_, List.getElem?_eq_getElem (by have := HL.out; omega)⟩
      obtain ⟨hc0, hc1⟩ := (h0.new hnw).cellk hx
      have p0 := (blk_cell (hnw.keep hq) 0).trans rfl
      have p1 := (blk_cell (hnw.keep hq) 1).trans rfl
      have hnext : (xs.take (k + 1)).filter f = L ++ (if f x then [x] else []) := by rw [take_snoc xs k x hx, List.filter_append, ← HLL.out]; cases hfx : f x <;> simp [hfx]
      have HX := hide hnext
      have HXX := hide hx
      clear hx hnext
      have hd := key_dec x t
      cases e1 : (x.1 == t.1) <;> cases e2 : (x.2 == t.2) <;> rw [e1, e2] at hd
      case true.true =>
        have htx : x = t := of_decide_eq_true hd
        have hfx : f x = false := by rw [HF.out]; exact decide_eq_false (fun h => h htx)
        have hx2 := HX.out
        rw [hfx] at hx2
        simp only [Bool.false_eq_true, if_false, List.append_nil] at hx2
        have HX2 := hide hx2
        clear hx2 htx hd
        go_wp2_with fail
        go_quiet (fail)
        have hnd := new_draw wr nq
        go_wp2_with fail
        go_roundw
        case rel =>
          refine ⟨hnw.then hnd, k + 1, A', c', by omega, by go_num, by rw [HX2.out], by rw [HX2.out]; exact ho.new hnd⟩
        case measure => simp [intOf]; omega
      all_goals
        have htx : x ≠ t := of_decide_eq_false hd
        have hfx : f x = true := by rw [HF.out]; exact decide_eq_true htx
        have hx2 := HX.out
        rw [hfx, if_pos rfl] at hx2
        have HX2 := hide hx2
        clear hx2 htx hd
        go_wp2_with fail
        go_quiet (fail)
        have hnd := new_draw wr nq
        have N1 := hnw.then hnd
        have ho1 := ho.new hnd
        clear hc0 hc1 p0 p1
        obtain ⟨hc0, hc1⟩ := (h0.new N1).cellk HXX.out
        generalize wr.drewN nq = w1 at *
        have hrb : Rd (w1.alloc (.cells #[.int .i64 x.1, .int .i64 x.2] 49)) 2 (some ⟨w1.heap.size, 0, none⟩) 1 1 (kcs [x]) := rd_lit w1 49 2 1 #[.int .i64 x.1, .int .i64 x.2] (by omega) rfl (by simp [Value.oneCell'])
        have hsz := N1.size
        go_wp2_with (at_builtin; refine app_d rfl _ _ rfl (w.heap.size + 1) rfl rfl (ho1.new (New.alloc1 _ _)) hrb (by omega) (by simp; omega) ?_; intro A2 c2 w2 ho2 he2 hA2)
        have hN := (N1.then (New.alloc1 _ _)).trans he2 (fun k hk hj => by have := (ho1.at_ hj).1; omega)
        go_roundw
        case rel =>
          refine ⟨hN, k + 1, A2, c2, by omega, by go_num, by rw [HX2.out]; simp, by rw [HX2.out, kcs_append]; simpa using ho2⟩
        case measure => simp [intOf]; omega
    · have d1 : decide ((k : Int) < n) = false := decide_eq_false (by omega)
      have d2 : decide (k < n) = false := decide_eq_false (by omega)
      have hfin : xs.filter f = L := by rw [HLL.out, List.take_of_length_le (by have := HL.out; omega)]
      have HFN := hide hfin
      clear hfin
      go_wp2_with fail
      go_ret
      exact ⟨A', c', by rw [HFN.out]; rfl, by rw [HFN.out]; exact ho.rebase (fun k hk => by have := (ho.at_ hk).1; omega), hN0.then hnw⟩

set_option maxHeartbeats 1600000 in
theorem same_d (A B : Option Addr) (n c m d : Nat) (xs ys : List (Int × Int)) (w : World) (h : Rd w 2 A n c (kcs xs)) (g : Rd w 2 B m d (kcs ys)) (hr2 : n ≤ 1024) (b : Bool) (hb : decide (xs = ys) = b) :
    Calls Try.prog 23 #[.slice A n c, .slice B m d] w fun e w' => e = .returned (.bool b) ∧ New w w' := by
  have hl := h.lenk
  have gl := g.lenk
  have HB := hide hb
  clear hb
  have HL := hide hl
  have GL := hide gl
  clear hl gl
  go_enter Try.func23, Try.ntmps23
  by_cases hnm : n = m
  rotate_left
  · have e1 : ((n : Int) != m) = true := by simp; omega
    have hbb : b = false := by rw [← HB.out]; exact decide_eq_false (fun e => hnm (by rw [← HL.out, ← GL.out, e]))
    clear hnm
    go_wp2_with fail
    go_ret
    exact ⟨by rw [hbb]; rfl, Ext.refl _ _⟩
  subst hnm
  have e1 : ((n : Int) != n) = false := by simp
  go_wp2_with fail
  clear e1
  go_loopw [5] (fun s5 wr => New w wr ∧ ∃ k : Nat, k ≤ n ∧ s5 = .int .i64 k ∧ ∀ j, j < k → xs[j]? = ys[j]?) (fun s _ => n - (intOf s).toNat)
  case atStart => exact ⟨Ext.refl _ _, 0, Nat.zero_le _, rfl, fun j hj => absurd hj (by omega)⟩
  case round =>
    obtain ⟨hnw, k, hk, rfl, heq⟩ := hrel
    have HE := hide heq
    clear heq
    by_cases hkn : k < n
    · have d1 : decide ((k : Int) < n) = true := decide_eq_true (by omega)
      have d2 : decide (k < n) = true := decide_eq_true (by omega)
      obtain ⟨ad, rfl⟩ := h.some (by omega)
      obtain ⟨bd, rfl⟩ := g.some (by omega)
      obtain ⟨x, hx⟩ : ∃ x, xs[k]? = some x := ⟨_, List.getElem?_eq_getElem (by have := HL.out; omega)⟩
      obtain ⟨y, hy⟩ : ∃ y, ys[k]? = some y := ⟨_, List.getElem?_eq_getElem (by have := GL.out; omega)⟩
      obtain ⟨hc0, hc1⟩ := (h.new hnw).cellk hx
      obtain ⟨hd0, hd1⟩ := (g.new hnw).cellk hy
      have hd := key_dec x y
      have HX := hide hx
      have HY := hide hy
      clear hx hy
      cases e1 : (x.1 == y.1) <;> cases e2 : (x.2 == y.2) <;> rw [e1, e2] at hd
      case true.true =>
        have hxy : x = y := of_decide_eq_true hd
        have hn1 : ∀ j, j < k + 1 → xs[j]? = ys[j]? := fun j hj => by
          rcases Nat.lt_succ_iff_lt_or_eq.1 hj with h | rfl
          · exact HE.out j h
          · rw [HX.out, HY.out, hxy]
        have HN := hide hn1
        clear hn1 hxy hd
        go_wp2_with fail
        go_quiet (fail)
        have hnd := new_draw wr nq
        go_wp2_with fail
        go_roundw
        case rel => exact ⟨hnw.then hnd, k + 1, by omega, by go_num, HN.out⟩
        case measure => simp [intOf]; omega
      all_goals
        have hxy : x ≠ y := of_decide_eq_false hd
        have hbb : b = false := by
          rw [← HB.out]
          exact decide_eq_false (fun e => hxy (Option.some.inj (by rw [← HX.out, ← HY.out, e])))
        have HBB := hide hbb
        clear hbb hxy hd
        go_wp2_with fail
        go_quiet (fail)
        have hnd := new_draw wr nq
        go_wp2_with fail
        go_ret
        exact ⟨by rw [HBB.out]; rfl, hnw.then hnd⟩
    · have d1 : decide ((k : Int) < n) = false := decide_eq_false (by omega)
      have hbb : b = true := by
        rw [← HB.out]
        refine decide_eq_true (List.ext_getElem? fun j => ?_)
        by_cases hj : j < k
        · exact HE.out j hj
        · rw [List.getElem?_eq_none (by have := HL.out; omega), List.getElem?_eq_none (by have := GL.out; omega)]
      have HBB := hide hbb
      clear hbb
      go_wp2_with fail
      go_ret
      exact ⟨by rw [HBB.out]; rfl, hnw⟩
end Go.Proofs.Ytmonhhodbinagaa
