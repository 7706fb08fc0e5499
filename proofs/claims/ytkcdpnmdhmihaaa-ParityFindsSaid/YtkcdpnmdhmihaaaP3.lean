/- Walks: the document's parity. -/
import Derived.Test.YtkcdpnmdhmihaaaP2
namespace Go.Proofs.Ytkcdpnmdhmihaaa
open Go.RowKit
set_option maxRecDepth 100000

def hdOf (n : Nat) : List Int := [((n / 256 % 256 : Nat) : Int), ((n % 256 : Nat) : Int)]
def makeOf (bs : List (List Int)) : List Int := hdOf (lensOf bs) ++ foldOf bs
theorem makeOf_len (bs : List (List Int)) : (makeOf bs).length = longOf bs + 2 := by simp [makeOf, hdOf, foldOf_len]
theorem hdOf_b (n : Nat) : isB (hdOf n) := by
  intro x hx
  simp [hdOf] at hx
  rcases hx with rfl | rfl <;> omega
theorem Rows.lens {w : World} {A : Option Addr} {n c : Nat} {L : List Pc} (h : Rows w A n c L) (m : Nat) (hm : ∀ p ∈ L, p.n ≤ m) : longOf (byt L) ≤ m :=
  (longOf_le _ m).2 (fun b hb => by
    obtain ⟨q, hq, rfl⟩ := List.mem_map.1 hb
    have := (h.one q hq).1.blen
    have := hm q hq
    omega)
theorem Rows.small {w : World} {A : Option Addr} {n c : Nat} {L : List Pc} (h : Rows w A n c L) {m : Nat} (hm : longOf (byt L) ≤ m) : ∀ p ∈ L, p.n ≤ m := fun p hp => by
  have := (longOf_le _ m).1 hm p.b (List.mem_map.2 ⟨p, hp, rfl⟩)
  have := (h.one p hp).1.blen
  omega
theorem Rows.lens_lt {w : World} {A : Option Addr} {n c : Nat} {L : List Pc} (h : Rows w A n c L) (hm : ∀ p ∈ L, p.n ≤ 1030) : lensOf (byt L) < 2048 :=
  lensOf_lt (byt L) 11 (fun b hb => by
    obtain ⟨q, hq, rfl⟩ := List.mem_map.1 hb
    have := (h.one q hq).1.blen
    have := hm q hq
    omega)

set_option maxHeartbeats 400000 in
theorem rmake_no (A : Option Addr) (n c : Nat) (L : List Pc) (w : World) (h : Rows w A n c L) (hp : ¬ isP L) :
    Calls Try.prog 12 #[.slice A n c] w fun e w' => e = .returned (.tuple #[.slice none 0 0, .int .i64 360]) ∧ w = w' := by
  go_enter Try.func12, Try.ntmps12
  go_wp2_with (go_at_call 17; refine (is_any A n c L _ h).mono ?_; rw [decide_eq_false hp]; rintro e w1 ⟨rfl, rfl⟩)
  go_ret2
  exact ⟨rfl, rfl⟩

set_option maxHeartbeats 800000 in
theorem rmake_yes (A : Option Addr) (n c : Nat) (L : List Pc) (w : World) (h : Rows w A n c L) (hp : isP L) :
    Calls Try.prog 12 #[.slice A n c] w fun e w' => ∃ A' c', e = .returned (.tuple #[.slice A' (longOf (byt L) + 2) c', .int .i64 0]) ∧ Own w' w.heap.size 5 1 A' (longOf (byt L) + 2) c' (bts (makeOf (byt L))) ∧ New w w' := by
  have hsm := h.small (m := 1030) (by have := hp.2.2; omega)
  have hln := h.lens_lt hsm
  have hlong := hp.2.2
  go_enter Try.func12, Try.ntmps12
  go_wp2_with fail
  refine (is_any A n c L _ h).mono ?_
  rw [decide_eq_true hp]
  rintro e w1 ⟨rfl, rfl⟩
  go_wp2_with fail
  refine (lengths_any A n c L _ h hsm).mono ?_
  rintro e w1 ⟨rfl, rfl⟩
  go_wp2_with fail
  obtain ⟨w0, hw0⟩ : ∃ w0, w0 = w.alloc (.cells #[.int .u8 ((lensOf (byt L) : Int) / 256), .int .u8 ((lensOf (byt L) : Int) % 256)] 5) := ⟨_, rfl⟩
  have hn0 : New w w0 := by rw [hw0]; (repeat (first | exact Ext.refl _ _ | assumption | apply Ext.alloc | apply Ext.drewN | apply Ext.drew | refine Ext.setCell ?_ (fun h => by first | rfl | exact absurd h (by dsimp only; omega)) _))
  have ho0 : Own w0 w.heap.size 5 1 (some ⟨w.heap.size, 0, none⟩) 2 2 (bts (hdOf (lensOf (byt L)))) := by
    rw [hw0]
    have := Own.lit w w.heap.size 5 1 2 #[.int .u8 ((lensOf (byt L) : Int) / 256), .int .u8 ((lensOf (byt L) : Int) % 256)] (Nat.le_refl _) (by omega) rfl (by simp [Value.oneCell'])
    have e : bts (hdOf (lensOf (byt L))) = #[.int .u8 ((lensOf (byt L) : Int) / 256), .int .u8 ((lensOf (byt L) : Int) % 256)].toList := by
      simp [bts, hdOf]
      omega
    rw [e]
    exact this
  rw [← hw0]
  have HW := hide hw0
  clear hw0
  go_loopw [5, 6] (fun v i wr => ∃ (k : Nat) (A' : Option Addr) (c' : Nat), k ≤ longOf (byt L) ∧ i = .int .i64 k ∧ v = .slice A' (k + 2) c' ∧ Own wr w.heap.size 5 1 A' (k + 2) c' (bts (hdOf (lensOf (byt L)) ++ (List.range k).map (atOf (byt L)))) ∧ New w wr) (fun _ i _ => longOf (byt L) - (intOf i).toNat)
  case atStart => exact ⟨0, _, _, Nat.zero_le _, rfl, rfl, by simpa using ho0, hn0⟩
  case round =>
    obtain ⟨k, A', c', hk, rfl, rfl, ho, hnw⟩ := hrel
    have hwr := hnw.size
    go_wp2_with fail
    refine (longest_any A n c L _ (h.new hnw)).mono ?_
    rintro e w1 ⟨rfl, rfl⟩
    by_cases hlt : k < longOf (byt L)
    · have hd : decide ((k : Int) < (longOf (byt L) : Int)) = true := decide_eq_true (by omega)
      go_wp2_with fail
      refine (at_any A n c L k _ (h.new hnw)).mono ?_
      rintro e w1 ⟨rfl, rfl⟩
      go_wp2_with (at_builtin; refine app_u8 rfl _ _ rfl w.heap.size rfl rfl (ho.new (New.alloc1 _ _)) (rd_box _ _ _ rfl) (by omega) (by simp; omega) ?_; intro A2 c2 w2 ho2 he2 hA2)
      go_roundw
      case rel => exact ⟨k + 1, A2, c2, by omega, by go_num, by congr 1, by
        have e : bts (hdOf (lensOf (byt L)) ++ (List.range k).map (atOf (byt L))) ++ [.int .u8 (atOf (byt L) k)] = bts (hdOf (lensOf (byt L)) ++ (List.range (k + 1)).map (atOf (byt L))) := by
          rw [bts_snoc, List.range_succ, List.map_append, List.append_assoc]; rfl
        rw [e] at ho2
        rwa [show k + 1 + 2 = k + 2 + 1 by omega], new_app hnw ho _ he2⟩
      case measure => simp [intOf]; omega
    · have hd : decide ((k : Int) < (longOf (byt L) : Int)) = false := decide_eq_false (by omega)
      go_wp2_with fail
      obtain rfl : k = longOf (byt L) := by omega
      go_ret2
      exact ⟨A', c', rfl, ho, hnw⟩
end Go.Proofs.Ytkcdpnmdhmihaaa
