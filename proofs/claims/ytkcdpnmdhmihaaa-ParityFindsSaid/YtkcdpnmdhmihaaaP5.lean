/- Walks: the fold of pieces. -/
import Derived.Test.YtkcdpnmdhmihaaaP4
namespace Go.Proofs.Ytkcdpnmdhmihaaa
open Go.RowKit
set_option maxRecDepth 100000

def padOf (bs : List (List Int)) (m : Nat) : List Int := (List.range m).map (atOf bs)
theorem padOf_len (bs : List (List Int)) (m : Nat) : (padOf bs m).length = m := by simp [padOf]
theorem padOf_succ (bs : List (List Int)) (m : Nat) (h : longOf bs ≤ m) : padOf bs (m + 1) = padOf bs m ++ [0] := by
  rw [padOf, List.range_succ, List.map_append, padOf, List.map_singleton, atOf_out bs m h]
def mixOf (bs : List (List Int)) (b : List Int) (m j : Nat) : List Int := (List.range m).map (fun x => if x < j then atOf (bs ++ [b]) x else atOf bs x)
theorem mixOf_zero (bs : List (List Int)) (b : List Int) (m : Nat) : mixOf bs b m 0 = padOf bs m := by simp [mixOf, padOf]
theorem mixOf_len (bs : List (List Int)) (b : List Int) (m j : Nat) : (mixOf bs b m j).length = m := by simp [mixOf]
theorem mixOf_get (bs : List (List Int)) (b : List Int) (m j : Nat) (h : j < m) : (mixOf bs b m j)[j]? = some (atOf bs j) := by simp [mixOf, h]
theorem mixOf_set (bs : List (List Int)) (b : List Int) (m j : Nat) (h : j < b.length) : (mixOf bs b m j).set j (x8 (atOf bs j) (b.getD j 0)) = mixOf bs b m (j + 1) := by
  refine List.ext_getElem? (fun i => ?_)
  rw [List.getElem?_set, mixOf_len]
  by_cases hi : i < m
  · by_cases hij : j = i
    · subst hij
      rw [if_pos rfl, if_pos hi]
      simp only [mixOf, List.getElem?_map, List.getElem?_range hi, Option.map_some]
      rw [if_pos (by omega), atOf_snoc, if_pos h]
    · rw [if_neg hij]
      simp only [mixOf, List.getElem?_map, List.getElem?_range hi, Option.map_some]
      by_cases h2 : i < j
      · rw [if_pos h2, if_pos (by omega)]
      · rw [if_neg h2, if_neg (by omega)]
  · have e1 : (mixOf bs b m j)[i]? = none := List.getElem?_eq_none (by rw [mixOf_len]; omega)
    have e2 : (mixOf bs b m (j + 1))[i]? = none := List.getElem?_eq_none (by rw [mixOf_len]; omega)
    rw [e1, e2]
    split
    · rw [if_neg (by omega)]
    · rfl
theorem mixOf_all (bs : List (List Int)) (b : List Int) (m : Nat) : mixOf bs b m b.length = padOf (bs ++ [b]) m := by
  rw [mixOf, padOf]
  refine List.map_congr_left (fun x _ => ?_)
  split
  · rfl
  · rename_i h
    rw [atOf_snoc, if_neg h]

set_option maxHeartbeats 2000000 in
theorem fold_any (A : Option Addr) (n c : Nat) (L : List Pc) (w : World) (h : Rows w A n c L) (hs : ∀ p ∈ L, p.n ≤ 1030) :
    Calls Try.prog 32 #[.slice A n c] w fun e w' => ∃ A' c', e = .returned (.tuple #[.int .i64 (lensOf (byt L)), .slice A' (longOf (byt L)) c']) ∧ Own w' w.heap.size 5 1 A' (longOf (byt L)) c' (bts (foldOf (byt L))) ∧ New w w' := by
  have hlen := h.len
  have hcap := h.rd.cap
  have htop := h.rd.top
  have hallB : ∀ b ∈ byt L, isB b := fun b hb => by
    obtain ⟨q, hq, rfl⟩ := List.mem_map.1 hb
    exact (h.one q hq).2
  have hlt0 : ∀ k, lensOf ((byt L).take k) < 2048 := fun k => lensOf_lt _ 11 (fun b hb => by
    obtain ⟨q, hq, rfl⟩ := List.mem_map.1 (List.mem_of_mem_take hb)
    have := (h.one q hq).1.blen
    have := hs q hq
    omega)
  have hlong : ∀ k, longOf ((byt L).take k) ≤ 1030 := fun k => (longOf_le _ _).2 (fun b hb => by
    obtain ⟨q, hq, rfl⟩ := List.mem_map.1 (List.mem_of_mem_take hb)
    have := (h.one q hq).1.blen
    have := hs q hq
    omega)
  go_enter Try.func32, Try.ntmps32
  go_wp2_with fail
  go_loopw [2, 3, 10] (fun s2 s3 s10 wr => ∃ (k : Nat) (A' : Option Addr) (c' : Nat), k ≤ n ∧ s10 = .int .i64 k ∧ s2 = .int .i64 (lensOf ((byt L).take k) : Nat) ∧ s3 = .slice A' (longOf ((byt L).take k)) c' ∧ Own wr w.heap.size 5 1 A' (longOf ((byt L).take k)) c' (bts (foldOf ((byt L).take k))) ∧ New w wr) (fun _ _ i _ => n - (intOf i).toNat)
  case atStart => exact ⟨0, none, 0, Nat.zero_le _, rfl, rfl, rfl, Own.nil _ _ _ _, Ext.refl _ _⟩
  case round =>
    obtain ⟨k, A', c', hk, rfl, rfl, rfl, ho, hnw⟩ := hrel
    by_cases hlt : k < n
    · obtain ⟨ad, p, rfl, hp, hc, hr, hB, hpn⟩ := (h.new hnw).at_ hlt
      obtain ⟨bk, hbk⟩ : ∃ bk, bk = (byt L).take k := ⟨_, rfl⟩
      have hl0 := hlt0 k
      have hlk := hlong k
      have hx := i64_xor_nat (lensOf bk) p.n (by rw [hbk]; omega) (by have := hs p (List.mem_of_getElem? hp); omega)
      have htk : (byt L).take (k + 1) = bk ++ [p.b] := by rw [hbk]; exact take_snoc _ _ _ (byt_get hp)
      have hbB : ∀ b ∈ bk, isB b := fun b hb => hallB b (by rw [hbk] at hb; exact List.mem_of_mem_take hb)
      have hp30 := hs p (List.mem_of_getElem? hp)
      rw [← hbk] at ho hl0 hlk ⊢
      have HB := hide hbk
      have HT := hide htk
      have HP := hide hp
      have HN := hide hpn
      clear hp hpn hbk htk hlt0 hlong
      have hwr := hnw.size
      go_wp2_with fail
      have hto : longOf (bk ++ [p.b]) = max (longOf bk) p.n := by rw [longOf_snoc, HN.out]
      have HM := hide hto
      clear hto
      go_loopw [3] (fun s3 wx => ∃ (m : Nat) (A2 : Option Addr) (c2 : Nat), longOf bk ≤ m ∧ m ≤ max (longOf bk) p.n ∧ s3 = .slice A2 m c2 ∧ Own wx w.heap.size 5 1 A2 m c2 (bts (padOf bk m)) ∧ New w wx) (fun v _ => match v with | .slice _ m _ => p.n - m | _ => 0)
      case atStart => exact ⟨_, _, _, Nat.le_refl _, by omega, rfl, ho, hnw⟩
      case round =>
        obtain ⟨m, A2, c2, hm1, hm2, rfl, ho2, hnx⟩ := hrel
        have hwx := hnx.size
        by_cases hmp : m < p.n
        · have hd : decide ((m : Int) < p.n) = true := decide_eq_true (by omega)
          go_wp2_with (at_builtin; refine app_u8 rfl _ _ rfl w.heap.size rfl rfl (ho2.new (New.alloc1 _ _)) (rd_box _ _ _ rfl) (by omega) (by simp; omega) ?_; intro A3 c3 w3 ho3 he3 hA3)
          go_roundw
          case rel => exact ⟨m + 1, A3, c3, by omega, by omega, rfl, by rw [padOf_succ bk m hm1, ← bts_snoc]; exact ho3, new_app hnx ho2 _ he3⟩
          case measure => simp; omega
        · have hd : decide ((m : Int) < p.n) = false := decide_eq_false (by omega)
          go_wp2_with fail
          obtain ⟨M, hM⟩ : ∃ M, M = max (longOf bk) p.n := ⟨_, rfl⟩
          obtain rfl : m = M := by omega
          rw [← mixOf_zero bk p.b m] at ho2
          go_loopw [28] (fun s28 wy => ∃ j : Nat, j ≤ p.n ∧ s28 = .int .i64 j ∧ Own wy w.heap.size 5 1 A2 m c2 (bts (mixOf bk p.b m j)) ∧ New w wy) (fun v _ => p.n - (intOf v).toNat)
          case atStart => exact ⟨0, Nat.zero_le _, rfl, ho2, hnx⟩
          case round =>
            obtain ⟨j, hj, rfl, hoj, hny⟩ := hrel
            by_cases hjp : j < p.n
            · have hjd : decide ((j : Int) < p.n) = true := decide_eq_true (by omega)
              obtain ⟨a2, rfl⟩ := hoj.some (by omega)
              obtain ⟨ap, hap⟩ := hr.some (by omega)
              have hry := ((h.one p (List.mem_of_getElem? HP.out)).1.new hny)
              rw [hap] at hry ⊢
              have hg : p.b[j]? = some (p.b.getD j 0) := by rw [List.getD_eq_getElem?_getD, List.getElem?_eq_getElem (by rw [HN.out]; exact hjp)]; rfl
              have hcp := hry.bcell hg
              have hca := hoj.rd.bcell (mixOf_get bk p.b m j (by omega))
              have hfr := hoj.free j
              have hxb := u8_x8 (atOf_b bk hbB j) (hB.getD j)
              have hos := hoj.set j (by rw [bts_length, mixOf_len]; omega) (.int .u8 (x8 (atOf bk j) (p.b.getD j 0))) rfl
              rw [show (bts (mixOf bk p.b m j)).set j (.int .u8 (x8 (atOf bk j) (p.b.getD j 0))) = bts (mixOf bk p.b m (j + 1)) by rw [← mixOf_set bk p.b m j (by rw [HN.out]; exact hjp), bts, bts, List.map_set]] at hos
              have hes := new_app0 hny hoj (hoj.ext_set j (.int .u8 (x8 (atOf bk j) (p.b.getD j 0))))
              have HG := hide hg
              have HA := hide hap
              clear hg hap
              generalize p.b.getD j 0 = y at *
              go_wp2_with fail
              go_roundw
              case rel => exact ⟨j + 1, by omega, by go_num, hos, hes⟩
              case measure => simp [intOf]; omega
            · have hjd : decide ((j : Int) < p.n) = false := decide_eq_false (by omega)
              go_wp2_with fail
              obtain rfl : j = p.n := by omega
              have hm' : longOf (bk ++ [p.b]) = m := by rw [HM.out, hM]
              rw [← HN.out, mixOf_all] at hoj
              refine ⟨⟨k + 1, A2, c2, by omega, by go_num, by rw [HT.out, lensOf_snoc, HN.out], by rw [HT.out, hm'], ?_, hny⟩, by simp [intOf]; omega⟩
              rw [HT.out, foldOf, hm']
              exact hoj
    · go_wp2_with fail
      obtain rfl : k = n := by omega
      go_ret2
      have e : (byt L).take k = byt L := List.take_of_length_le (by rw [byt_len]; omega)
      rw [e] at ho ⊢
      exact ⟨A', c', rfl, ho, hnw⟩
end Go.Proofs.Ytkcdpnmdhmihaaa
