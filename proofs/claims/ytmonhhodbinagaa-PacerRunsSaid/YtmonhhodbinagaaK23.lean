/- Walks: a key dropped from a ring. -/
import Derived.Test.YtmonhhodbinagaaK12
import Derived.Test.YtmonhhodbinagaaW
namespace Go.Proofs.Ytmonhhodbinagaa
open Go.RowKit Go.Maps
set_option maxRecDepth 100000

/-- A row without a key. -/
def noQ (l : List (Int × Int)) (t : Int × Int) : List (Int × Int) := l.filter (fun x => decide (x ≠ t))
def noK (L : List Kn) (t : Int × Int) : List Kn := L.filter (fun y => decide (y.k ≠ t))
/-- Block q is a key. -/
def Kb (w : World) (q : Nat) (k : Int × Int) : Prop := w.heap[q]? = some (.cells #[.int .i64 k.1, .int .i64 k.2] 30)
theorem Kb.keep {S : Nat → Prop} {w w' : World} {q : Nat} {k : Int × Int} (h : Kb w q k) (he : Ext S w w') (hs : ¬ S q) : Kb w' q k := Ext.keep he h hs
theorem Kb.new {w w' : World} {q : Nat} {k : Int × Int} (h : Kb w q k) (he : New w w') : Kb w' q k := New.keep he h
theorem key_dec (a k : Int × Int) : decide (a = k) = (a.1 == k.1 && a.2 == k.2) := by
  rw [Bool.eq_iff_iff]
  simp only [decide_eq_true_eq, Bool.and_eq_true, beq_iff_eq]
  exact ⟨fun h => by rw [h]; exact ⟨rfl, rfl⟩, fun h => Prod.ext h.1 h.2⟩
set_option maxHeartbeats 400000 in
theorem is_key (q : Nat) (k a : Int × Int) (w : World) (h : Kb w q k) :
    Calls Try.prog 33 #[kV a, .pointer (some ⟨q, 0, none⟩)] w fun e w' => e = .returned (.bool (decide (a = k))) ∧ New w w' := by
  have hn := New.alloc1 w (.cells #[.int .i64 a.1, .int .i64 a.2] 30)
  have hlt := blk_lt (show w.heap[q]? = _ from h)
  have c0 := (blk_cell (show w.heap[q]? = _ from h) 0).trans rfl
  have c1 := (blk_cell (show w.heap[q]? = _ from h) 1).trans rfl
  have hd := key_dec a k
  cases e1 : (a.1 == k.1) <;> cases e2 : (a.2 == k.2) <;> rw [e1, e2] at hd
  all_goals
    have HD := hide hd
    clear hd
    go_enter Try.func33, Try.ntmps33
    go_wp2_with fail
    go_ret
    exact ⟨by rw [HD.out]; rfl, hn⟩

set_option maxHeartbeats 2000000 in
theorem drop_k (p : Nat) (A : Option Addr) (n c : Nat) (xs : List (Int × Int)) (room : Nat) (q : Nat) (t : Int × Int) (w : World) (h : Rngk w p A n c xs room) (hq : Kb w q t) :
    Calls Try.prog 32 #[.pointer (some ⟨p, 0, none⟩), .func (.func 33) #[] #[.pointer (some ⟨q, 0, none⟩)]] w fun e w' => (∃ v, e = .returned v) ∧ ∃ A' c', Rngk w' p A' (noQ xs t).length c' (noQ xs t) room ∧ Ext (fun k => k = p) w w' ∧ ∀ k, inA A' k → w.heap.size ≤ k := by
  obtain ⟨f, hf⟩ : ∃ f : Int × Int → Bool, f = fun x => decide (x ≠ t) := ⟨_, rfl⟩
  rw [show noQ xs t = xs.filter f by rw [hf]; rfl]
  have HF := hide hf
  clear hf
  have c0 := h.c0
  have hr2 := h.r2
  have hle := h.le
  go_enter Try.func32, Try.ntmps32
  go_wp2_with fail
  refine (none_k p A n c xs room _ h).mono ?_
  rintro e w1 ⟨rfl, rfl⟩
  go_wp2_with fail
  have hlen := h.len
  have HL := hide hlen
  clear hlen
  have hpl := h.lt
  have hql := blk_lt (show w.heap[q]? = _ from hq)
  go_loopw [6, 21] (fun s6 s21 wr => New w wr ∧ ∃ k A' c', k ≤ n ∧ s21 = .int .i64 (k : Nat) ∧ s6 = .slice A' ((xs.take k).filter f).length c' ∧ Own wr w.heap.size 30 2 A' ((xs.take k).filter f).length c' (kcs ((xs.take k).filter f))) (fun _ i _ => n - (intOf i).toNat)
  case atStart => exact ⟨Ext.refl _ _, 0, none, 0, Nat.zero_le _, rfl, by simp, by simpa [kcs] using Own.nil _ _ _ _⟩
  case round =>
    obtain ⟨hnw, k, A', c', hk, rfl, rfl, ho⟩ := hrel
    have hml : ((xs.take k).filter f).length ≤ 1024 := Nat.le_trans (List.length_filter_le _ _) (by rw [List.length_take]; omega)
    obtain ⟨L, hL⟩ : ∃ L, L = (xs.take k).filter f := ⟨_, rfl⟩
    rw [← hL] at hml ho
    rw [← hL]
    have HLL := hide hL
    clear hL
    by_cases hkn : k < n
    · have d1 : decide ((k : Int) < n) = true := decide_eq_true (by omega)
      have d2 : decide (k < n) = true := decide_eq_true (by omega)
      obtain ⟨ad, rfl⟩ := h.own.rd.some (by omega)
      obtain ⟨x, hx⟩ : ∃ x, xs[k]? = some x := ⟨_, List.getElem?_eq_getElem (by have := HL.out; omega)⟩
      obtain ⟨hc0, hc1⟩ := (h.own.rd.new hnw).cellk hx
      have hnext : (xs.take (k + 1)).filter f = L ++ (if f x then [x] else []) := by rw [take_snoc xs k x hx, List.filter_append, ← HLL.out]; cases hfx : f x <;> simp [hfx]
      have HX := hide hnext
      clear hx hnext
      have hnx := New.alloc1 wr (.cells #[.int .i64 x.1, .int .i64 x.2] 30)
      have hxb := blk_new wr (.cells #[.int .i64 x.1, .int .i64 x.2] 30)
      go_wp2_with fail
      refine (is_key q t x _ ((hq.new hnw).new hnx)).mono ?_
      rintro e w1 ⟨rfl, hn1⟩
      have hxb1 := hn1.keep hxb
      have N1 := (hnw.then hnx).then hn1
      clear hc0 hc1
      have x0 := (blk_cell hxb1 0).trans rfl
      have x1 := (blk_cell hxb1 1).trans rfl
      by_cases htx : x = t
      · have hfx : f x = false := by rw [HF.out]; exact decide_eq_false (fun h => h htx)
        rw [decide_eq_true htx]
        have hx2 := HX.out
        rw [hfx] at hx2
        simp only [Bool.false_eq_true, if_false, List.append_nil] at hx2
        have HX2 := hide hx2
        clear hx2 htx
        go_wp2_with fail
        go_roundw
        case rel =>
          refine ⟨N1, k + 1, A', c', by omega, by go_num, by rw [HX2.out], by rw [HX2.out]; exact (ho.new hnx).new hn1⟩
        case measure => simp [intOf]; omega
      · have hfx : f x = true := by rw [HF.out]; exact decide_eq_true htx
        rw [decide_eq_false htx]
        have hsz := N1.size
        have hx2 := HX.out
        rw [hfx, if_pos rfl] at hx2
        have HX2 := hide hx2
        clear hx2 htx
        have hrb : Rd (w1.alloc (.cells #[.int .i64 x.1, .int .i64 x.2] 30)) 2 (some ⟨w1.heap.size, 0, none⟩) 1 1 (kcs [x]) := rd_lit w1 30 2 1 #[.int .i64 x.1, .int .i64 x.2] (by omega) rfl (by simp [Value.oneCell'])
        go_wp2_with (at_builtin; refine app_k rfl _ _ rfl w.heap.size rfl rfl (((ho.new hnx).new hn1).new (New.alloc1 _ _)) hrb (by omega) (by simp; omega) ?_; intro A2 c2 w2 ho2 he2 hA2)
        have hN := (N1.then (New.alloc1 _ _)).trans he2 (fun k hk hj => by have := (ho.at_ hj).1; omega)
        go_roundw
        case rel =>
          refine ⟨hN, k + 1, A2, c2, by omega, by go_num, by rw [HX2.out]; simp, by rw [HX2.out, kcs_append]; simpa using ho2⟩
        case measure => simp [intOf]; omega
    · have d1 : decide ((k : Int) < n) = false := decide_eq_false (by omega)
      have d2 : decide (k < n) = false := decide_eq_false (by omega)
      have hpw := hnw.keep h.blk
      have k0 : wr.cell? ⟨p, 0, none⟩ = some (.slice A n c) := blk_cell hpw 0
      have k1 := blk_free hpw 0
      have hfin : xs.filter f = L := by rw [HLL.out, List.take_of_length_le (by have := HL.out; omega)]
      have HFN := hide hfin
      clear hfin
      go_wp2_with fail
      go_ret
      rw [HFN.out]
      have hs2 := ((Ext.refl (fun k => k = p) wr).set (by rfl) : Ext (fun k => k = p) wr (wr.setCell ⟨p, 0, none⟩ (.slice A' L.length c')))
      have hLn : L.length ≤ n := by
        have := HLL.out
        have h2 := List.length_filter_le f (xs.take k)
        rw [← this, List.length_take] at h2
        omega
      refine ⟨⟨_, rfl⟩, A', c', ⟨blk_set hpw 0 _, ?_, h.r1, h.r2, by omega⟩, hnw.to.trans hs2 (fun _ _ h => h), fun k hk => (ho.at_ hk).1⟩
      exact (ho.keep hs2 (fun k hk e => by have := (ho.at_ hk).1; omega)).rebase (fun k hk => by have := (ho.at_ hk).1; omega)
end Go.Proofs.Ytmonhhodbinagaa
