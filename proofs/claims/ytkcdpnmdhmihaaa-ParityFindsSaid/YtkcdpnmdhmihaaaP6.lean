/- Walks: Make, Equal, Check. -/
import Derived.Test.YtkcdpnmdhmihaaaP5
namespace Go.Proofs.Ytkcdpnmdhmihaaa
open Go.RowKit
set_option maxRecDepth 100000

theorem own_hd (w : World) (n : Nat) (h : n < 65536) : Own (w.alloc (.cells #[.int .u8 ((n : Int) / 256), .int .u8 ((n : Int) % 256)] 5)) w.heap.size 5 1 (some ⟨w.heap.size, 0, none⟩) 2 2 (bts (hdOf n)) := by
  have := Own.lit w w.heap.size 5 1 2 #[.int .u8 ((n : Int) / 256), .int .u8 ((n : Int) % 256)] (Nat.le_refl _) (by omega) rfl (by simp [Value.oneCell'])
  have e : bts (hdOf n) = #[.int .u8 ((n : Int) / 256), .int .u8 ((n : Int) % 256)].toList := by
    simp [bts, hdOf]
    omega
  rw [e]
  exact this

set_option maxHeartbeats 400000 in
theorem make_no (A : Option Addr) (n c : Nat) (L : List Pc) (w : World) (h : Rows w A n c L) (hp : ¬ isP L) :
    Calls Try.prog 11 #[.slice A n c] w fun e w' => e = .returned (.tuple #[.slice none 0 0, .int .i64 360]) ∧ w = w' := by
  have hlen := h.len
  by_cases h1 : n < 1
  · have d : decide ((n : Int) < 1) = true := decide_eq_true (by omega)
    go_enter Try.func11, Try.ntmps11
    go_wp2_with fail
    go_ret2
    exact ⟨rfl, rfl⟩
  · have d : decide ((n : Int) < 1) = false := decide_eq_false (by omega)
    go_enter Try.func11, Try.ntmps11
    go_wp2_with fail
    refine (may_no A n c 16 L _ h (fun hh => hp ⟨by omega, by omega, h.lens 1024 hh.2⟩)).mono ?_
    rintro e w1 ⟨rfl, rfl⟩
    go_wp2_with fail
    go_ret2
    exact ⟨rfl, rfl⟩

set_option maxHeartbeats 800000 in
theorem make_yes (A : Option Addr) (n c : Nat) (L : List Pc) (w : World) (h : Rows w A n c L) (hp : isP L) :
    Calls Try.prog 11 #[.slice A n c] w fun e w' => ∃ A' c', e = .returned (.tuple #[.slice A' (longOf (byt L) + 2) c', .int .i64 0]) ∧ Own w' w.heap.size 5 1 A' (longOf (byt L) + 2) c' (bts (makeOf (byt L))) ∧ New w w' := by
  have hlen := h.len
  have hsm4 := h.small (m := 1024) hp.2.2
  have hsm := h.small (m := 1030) (by have := hp.2.2; omega)
  have hln := h.lens_lt hsm
  have hlong := hp.2.2
  have h1 : 1 ≤ n := by have := hp.1; omega
  have h16 : n ≤ 16 := by have := hp.2.1; omega
  have d : decide ((n : Int) < 1) = false := decide_eq_false (by omega)
  go_enter Try.func11, Try.ntmps11
  go_wp2_with fail
  refine (may_yes A n c 16 L _ h (by omega) hsm4).mono ?_
  rintro e w1 ⟨rfl, rfl⟩
  go_wp2_with fail
  refine (fold_any A n c L _ h hsm).mono ?_
  rintro e w1 ⟨Af, cf, rfl, hof, hnf⟩
  have hlo := own_hd w1 (lensOf (byt L)) (by omega)
  go_wp2_with (at_builtin; refine app_u8 rfl _ _ rfl w1.heap.size rfl rfl hlo (hof.rd.new (New.alloc1 _ _)) (by omega) (by simp) ?_; intro A2 c2 w2 ho2 he2 hA2)
  go_ret2
  rw [← bts_append] at ho2
  rw [Nat.add_comm 2 (longOf (byt L))] at ho2
  exact ⟨A2, c2, by rw [Nat.add_comm (longOf (byt L)) 2]; rfl, ho2.le hnf.size, hnf.then (new_lit he2)⟩

set_option maxHeartbeats 800000 in
theorem equal_any (A B : Option Addr) (n c m d : Nat) (l k : List Int) (w : World) (hl : Rd w 1 A n c (bts l)) (hk : Rd w 1 B m d (bts k)) :
    Calls Try.prog 38 #[.slice A n c, .slice B m d] w fun e w' => e = .returned (.bool (decide (l = k))) ∧ ∃ nd, w' = w.drewN nd := by
  have hln := hl.blen
  have hkn := hk.blen
  have hcap := hl.cap
  have htop := hl.top
  by_cases hnm : n = m
  · subst hnm
    go_enter Try.func38, Try.ntmps38
    go_wp2_with fail
    go_loopw [13] (fun s wr => ∃ (j nd : Nat), j ≤ n ∧ s = .int .i64 j ∧ l.take j = k.take j ∧ wr = w.drewN nd) (fun i _ => n - (intOf i).toNat)
    case atStart => exact ⟨0, 0, Nat.zero_le _, rfl, by simp, rfl⟩
    case round =>
      obtain ⟨j, nd, hj, rfl, hall, rfl⟩ := hrel
      have HA := hide hall
      clear hall
      by_cases hlt : j < n
      · obtain ⟨ad, rfl⟩ := hl.some (by omega)
        obtain ⟨bd, rfl⟩ := hk.some (by omega)
        obtain ⟨x, hx⟩ : ∃ x, l[j]? = some x := ⟨_, List.getElem?_eq_getElem (by omega)⟩
        obtain ⟨y, hy⟩ : ∃ y, k[j]? = some y := ⟨_, List.getElem?_eq_getElem (by omega)⟩
        have hcx : ∀ u, (w.drewN u).cell? (ad.add j) = some (.int .u8 x) := fun u => (hl.new (w' := w.drewN u) (by (repeat (first | exact Ext.refl _ _ | assumption | apply Ext.alloc | apply Ext.drewN | apply Ext.drew | refine Ext.setCell ?_ (fun h => by first | rfl | exact absurd h (by dsimp only; omega)) _)))).bcell hx
        have hcy : ∀ u, (w.drewN u).cell? (bd.add j) = some (.int .u8 y) := fun u => (hk.new (w' := w.drewN u) (by (repeat (first | exact Ext.refl _ _ | assumption | apply Ext.alloc | apply Ext.drewN | apply Ext.drew | refine Ext.setCell ?_ (fun h => by first | rfl | exact absurd h (by dsimp only; omega)) _)))).bcell hy
        have HX := hide hx
        have HY := hide hy
        clear hx hy
        by_cases hxy : x = y
        · subst hxy
          go_wp2
          go_quiet (fail)
          go_wp2
          go_roundw
          case rel => exact ⟨j + 1, nd + nq, by omega, by go_num, by rw [take_snoc l j x HX.out, take_snoc k j x HY.out, HA.out], by simp [World.drewN_drewN]⟩
          case measure => simp [intOf]; omega
        · have hne : (x != y) = true := by simp [hxy]
          go_wp2
          go_quiet (fail)
          go_wp2
          go_ret
          exact ⟨by rw [decide_eq_false (fun e => hxy (by have h1 := HX.out; rw [e, HY.out] at h1; exact (Option.some.inj h1).symm))]; rfl, nd + nq, by simp [World.drewN_drewN]⟩
      · go_wp2
        obtain rfl : j = n := by omega
        go_ret
        have := HA.out
        rw [List.take_of_length_le (by omega), List.take_of_length_le (by omega)] at this
        exact ⟨by rw [decide_eq_true this]; rfl, nd, rfl⟩
  · have hne : ((n : Int) != (m : Int)) = true := by simp; omega
    go_enter Try.func38, Try.ntmps38
    go_wp2_with fail
    go_ret
    exact ⟨by rw [decide_eq_false (fun e => hnm (by rw [← hln, ← hkn, e]))]; rfl, 0, rfl⟩
end Go.Proofs.Ytkcdpnmdhmihaaa
