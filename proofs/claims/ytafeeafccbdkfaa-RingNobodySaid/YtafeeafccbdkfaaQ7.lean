/- Walks: two rows of numbers; short; what room there is. -/
import Derived.Test.YtafeeafccbdkfaaQ6
namespace Go.Proofs.Ytafeeafccbdkfaa
open Go.RowKit
set_option maxRecDepth 100000

set_option maxHeartbeats 800000 in
theorem same_any (A B : Option Addr) (n c m d : Nat) (l k : List Int) (w : World) (hl : Rd w 1 A n c (vsi l)) (hk : Rd w 1 B m d (vsi k)) :
    Calls Try.prog 14 #[.slice A n c, .slice B m d] w fun e w' => e = .returned (.bool (decide (l = k))) ∧ ∃ nd, w' = w.drewN nd := by
  have hln := hl.leni
  have hkn := hk.leni
  have hcap := hl.cap
  have htop := hl.top
  by_cases hnm : n = m
  · subst hnm
    go_enter Try.func14, Try.ntmps14
    go_wp2_with fail
    go_loopw [5] (fun s wr => ∃ (j nd : Nat), j ≤ n ∧ s = .int .i64 j ∧ l.take j = k.take j ∧ wr = w.drewN nd) (fun i _ => n - (intOf i).toNat)
    case atStart => exact ⟨0, 0, Nat.zero_le _, rfl, by simp, rfl⟩
    case round =>
      obtain ⟨j, nd, hj, rfl, hall, rfl⟩ := hrel
      have HA := hide hall
      clear hall
      by_cases hlt : j < n
      · obtain ⟨ad, rfl⟩ := hl.some (by omega)
        obtain ⟨bd, rfl⟩ := hk.some (by omega)
        obtain ⟨x, hx⟩ : ∃ x, l[j]? = some x := ⟨_, List.getElem?_eq_getElem (by omega)⟩
        obtain ⟨y, hy⟩ : ∃ y, k[j]? = some y := ⟨_, List.getElem?_eq_getElem (by omega)⟩
        have hcx : ∀ u, (w.drewN u).cell? (ad.add j) = some (.int .i64 x) := fun u => (hl.new (w' := w.drewN u) (by (repeat (first | exact Ext.refl _ _ | assumption | apply Ext.alloc | apply Ext.drewN | apply Ext.drew | refine Ext.setCell ?_ (fun h => by first | rfl | exact absurd h (by dsimp only; omega)) _)))).celli hx
        have hcy : ∀ u, (w.drewN u).cell? (bd.add j) = some (.int .i64 y) := fun u => (hk.new (w' := w.drewN u) (by (repeat (first | exact Ext.refl _ _ | assumption | apply Ext.alloc | apply Ext.drewN | apply Ext.drew | refine Ext.setCell ?_ (fun h => by first | rfl | exact absurd h (by dsimp only; omega)) _)))).celli hy
        have HX := hide hx
        have HY := hide hy
        clear hx hy
        by_cases hxy : x = y
        · subst hxy
          go_wp2
          go_quiet (fail)
          go_wp2
          go_roundw
          case rel => exact ⟨j + 1, nd + nq, by omega, by go_num, by rw [take_snoc l j x HX.out, take_snoc k j x HY.out, HA.out], by simp [World.drewN_drewN]⟩
          case measure => simp [intOf]; omega
        · have hne : (x != y) = true := by simp [hxy]
          go_wp2
          go_quiet (fail)
          go_wp2
          go_ret
          exact ⟨by rw [decide_eq_false (fun e => hxy (by have h1 := HX.out; rw [e, HY.out] at h1; exact (Option.some.inj h1).symm))]; rfl, nd + nq, by simp [World.drewN_drewN]⟩
      · go_wp2
        obtain rfl : j = n := by omega
        go_ret
        have := HA.out
        rw [List.take_of_length_le (by omega), List.take_of_length_le (by omega)] at this
        exact ⟨by rw [decide_eq_true this]; rfl, nd, rfl⟩
  · have hne : ((n : Int) != (m : Int)) = true := by simp; omega
    go_enter Try.func14, Try.ntmps14
    go_wp2_with fail
    go_ret
    exact ⟨by rw [decide_eq_false (fun e => hnm (by rw [← hln, ← hkn, e]))]; rfl, 0, rfl⟩

set_option maxHeartbeats 400000 in
theorem short_any (A : Option Addr) (m c k : Nat) (w : World) (hc : m ≤ c) (hk : k = min m 20) :
    Calls Try.prog 7 #[.slice A m c] w fun e w' => e = .returned (.slice A k c) ∧ w = w' := by
  subst hk
  by_cases h : m ≤ 20
  · have d : decide ((20 : Int) < m) = false := decide_eq_false (by omega)
    go_enter Try.func7, Try.ntmps7
    go_wp2
    go_ret
    exact ⟨by rw [Nat.min_eq_left (by omega)]; rfl, rfl⟩
  · have s1 := run_cut_h (P := Try.prog) 22 3 1 Try.underlying22 size_i A m c 20 20 rfl (by omega) .i64
    have d : decide ((20 : Int) < m) = true := decide_eq_true (by omega)
    go_enter Try.func7, Try.ntmps7
    go_wp2
    go_ret
    exact ⟨by rw [Nat.min_eq_right (by omega)]; rfl, rfl⟩

set_option maxHeartbeats 400000 in
theorem room_any (p : Nat) (A : Option Addr) (n c : Nat) (xs : List Int) (room : Nat) (w : World) (h : Rngi w p A n c xs room) :
    Calls Try.prog 24 #[.pointer (some ⟨p, 0, none⟩)] w fun e w' => e = .returned (.int .i64 ((room : Int) - n)) ∧ ∃ nd, w' = w.drewN nd := by
  have c0 := h.c0
  have c1 := h.c1
  have hr2 := h.r2
  have hle := h.le
  go_enter Try.func24, Try.ntmps24
  go_wp2_with fail
  refine (none_i p A n c xs room _ h).mono ?_
  rintro e w1 ⟨rfl, rfl⟩
  go_wp2_with fail
  go_quiet (fail)
  go_wp2_with fail
  go_ret
  exact ⟨rfl, nq, rfl⟩

set_option maxHeartbeats 400000 in
theorem clear_any (p : Nat) (A : Option Addr) (n c : Nat) (xs : List Int) (room : Nat) (w : World) (h : Rngi w p A n c xs room) :
    Calls Try.prog 27 #[.pointer (some ⟨p, 0, none⟩)] w fun e w' => e = .returned (.tuple #[]) ∧ Rngi w' p none 0 0 [] room ∧ Ext (Tch p A) w w' := by
  have c0 := h.c0
  have f0 := h.fr 0
  go_enter Try.func27, Try.ntmps27
  go_wp2_with fail
  refine (none_i p A n c xs room _ h).mono ?_
  rintro e w1 ⟨rfl, rfl⟩
  go_wp2_with fail
  go_end0
  have hs := ((Ext.refl (fun k => k = p) w).set (by rfl) : Ext (fun k => k = p) w (w.setCell ⟨p, 0, none⟩ (.slice none 0 0)))
  exact ⟨rfl, ⟨blk_set h.blk 0 _, Own.nil _ _ _ _, h.r1, h.r2, by omega⟩, hs.mono (fun k _ hk => .inl hk)⟩
end Go.Proofs.Ytafeeafccbdkfaa
