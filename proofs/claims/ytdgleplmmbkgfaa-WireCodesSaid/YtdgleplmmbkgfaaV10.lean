/- Walks: two rows of bytes; a reader of bytes at a place. -/
import Derived.Test.YtdgleplmmbkgfaaV9
namespace Go.Proofs.Ytdgleplmmbkgfaa
open Go.RowKit
set_option maxRecDepth 100000

set_option maxHeartbeats 800000 in
theorem equal_any (A B : Option Addr) (n c m d : Nat) (l k : List Int) (w : World) (hl : Rd w 1 A n c (bts l)) (hk : Rd w 1 B m d (bts k)) :
    Calls Try.prog 29 #[.slice A n c, .slice B m d] w fun e w' => e = .returned (.bool (decide (l = k))) ∧ ∃ nd, w' = w.drewN nd := by
  have hln := hl.lenn
  have hkn := hk.lenn
  have hcap := hl.cap
  have htop := hl.top
  by_cases hnm : n = m
  · subst hnm
    go_enter Try.func29, Try.ntmps29
    go_wp2_with fail
    go_loopw [13] (fun s wr => ∃ (j nd : Nat), j ≤ n ∧ s = .int .i64 j ∧ l.take j = k.take j ∧ wr = w.drewN nd) (fun i _ => n - (intOf i).toNat)
    case atStart => exact ⟨0, 0, Nat.zero_le _, rfl, by simp, rfl⟩
    case round =>
      obtain ⟨j, nd, hj, rfl, hall, rfl⟩ := hrel
      have HA := hide hall
      clear hall
      by_cases hlt : j < n
      · obtain ⟨ad, rfl⟩ := hl.some (by omega)
        obtain ⟨bd, rfl⟩ := hk.some (by omega)
        obtain ⟨x, hx⟩ : ∃ x, l[j]? = some x := ⟨_, List.getElem?_eq_getElem (by omega)⟩
        obtain ⟨y, hy⟩ : ∃ y, k[j]? = some y := ⟨_, List.getElem?_eq_getElem (by omega)⟩
        have hcx : ∀ u, (w.drewN u).cell? (ad.add j) = some (.int .u8 x) := fun u => (hl.new (w' := w.drewN u) (by (repeat (first | exact Ext.refl _ _ | assumption | apply Ext.alloc | apply Ext.drewN | apply Ext.drew | refine Ext.setCell ?_ (fun h => by first | rfl | exact absurd h (by dsimp only; omega)) _)))).celln hx
        have hcy : ∀ u, (w.drewN u).cell? (bd.add j) = some (.int .u8 y) := fun u => (hk.new (w' := w.drewN u) (by (repeat (first | exact Ext.refl _ _ | assumption | apply Ext.alloc | apply Ext.drewN | apply Ext.drew | refine Ext.setCell ?_ (fun h => by first | rfl | exact absurd h (by dsimp only; omega)) _)))).celln hy
        have HX := hide hx
        have HY := hide hy
        clear hx hy
        by_cases hxy : x = y
        · subst hxy
          go_wp2
          go_quiet (fail)
          go_wp2
          go_roundw
          case rel => exact ⟨j + 1, nd + nq, by omega, by go_num, by rw [take_snoc l j x HX.out, take_snoc k j x HY.out, HA.out], by simp [World.drewN_drewN]⟩
          case measure => simp [intOf]; omega
        · have hne : (x != y) = true := by simp [hxy]
          go_wp2
          go_quiet (fail)
          go_wp2
          go_ret
          exact ⟨by rw [decide_eq_false (fun e => hxy (by have h1 := HX.out; rw [e, HY.out] at h1; exact (Option.some.inj h1).symm))]; rfl, nd + nq, by simp [World.drewN_drewN]⟩
      · go_wp2
        obtain rfl : j = n := by omega
        go_ret
        have := HA.out
        rw [List.take_of_length_le (by omega), List.take_of_length_le (by omega)] at this
        exact ⟨by rw [decide_eq_true this]; rfl, nd, rfl⟩
  · have hne : ((n : Int) != (m : Int)) = true := by simp; omega
    go_enter Try.func29, Try.ntmps29
    go_wp2_with fail
    go_ret
    exact ⟨by rw [decide_eq_false (fun e => hnm (by rw [← hln, ← hkn, e]))]; rfl, 0, rfl⟩

/-- A reader of l's bytes, k of which it read; its block is q. -/
def RdAt (w : World) (q : Nat) (A : Option Addr) (n : Nat) (l : List Int) (k : Nat) : Prop := ∃ B c, Rdr w q B (n - k) c true ∧ Rd w 1 B (n - k) c (bts (l.drop k)) ∧ (∀ j, inA B j → inA A j) ∧ k ≤ n ∧ l.length = n
theorem RdAt.keep {S : Nat → Prop} {w w' : World} {q : Nat} {A : Option Addr} {n : Nat} {l : List Int} {k : Nat} (h : RdAt w q A n l k) (he : Ext S w w') (hq : ¬ S q) (hA : ∀ j, inA A j → ¬ S j) : RdAt w' q A n l k := by
  obtain ⟨B, c, h1, h2, h3, h4⟩ := h
  exact ⟨B, c, h1.keep he hq, h2.keep he (fun j hj => hA j (h3 j hj)), h3, h4⟩
theorem RdAt.new {w w' : World} {q : Nat} {A : Option Addr} {n : Nat} {l : List Int} {k : Nat} (h : RdAt w q A n l k) (he : New w w') : RdAt w' q A n l k := h.keep he (fun h => h) (fun _ _ h => h)
/-- A number of a reader's. -/
def nmAt (l : List Int) (k s : Nat) : Int := getN ((l.drop k).take s)
theorem num_at {w : World} {q : Nat} {A : Option Addr} {n : Nat} {l : List Int} {k : Nat} (h : RdAt w q A n l k) (hB : isB l) (hA : ∀ j, inA A j → j ≠ q) (sz : Int) (s : Nat) (e : sz = s) (hs : k + s ≤ n) (h1 : 1 ≤ s) (h8 : s ≤ 8) (k' : Nat) (hk' : k' = k + s) :
    Calls Try.prog 27 #[.pointer (some ⟨q, 0, none⟩), .int .i64 sz] w fun e w' => e = .returned (.int .u64 (nmAt l k s)) ∧ RdAt w' q A n l k' ∧ Ext (fun j => j = q) w w' := by
  obtain ⟨B, c, hr, hd, hi, hkn, hln⟩ := h
  have hcut := hd.drop s (by omega)
  rw [Nat.mul_one, bts_drop, List.drop_drop, Nat.sub_sub] at hcut
  refine (number_lit q B (n - k) c (l.drop k) sz s w e hr hd (fun x hx => hB x (List.mem_of_mem_drop hx)) (by omega) h1 h8).mono ?_
  rintro e w' ⟨rfl, hr', he⟩
  rw [Nat.sub_sub] at hr'
  subst hk'
  exact ⟨rfl, ⟨_, _, hr', hcut.keep he (fun j hj e => hA j (hi j (sl_in hj)) e), fun j hj => hi j (sl_in hj), by omega, hln⟩, he⟩
theorem nmAt_b {l : List Int} (hB : isB l) (k s : Nat) (h : s ≤ 4) : 0 ≤ nmAt l k s ∧ nmAt l k s < 4294967296 := by
  have h1 := getN_lt ((l.drop k).take s) (fun x hx => hB x (List.mem_of_mem_drop (List.mem_of_mem_take hx)))
  have h2 : ((l.drop k).take s).length ≤ 4 := by rw [List.length_take]; omega
  refine ⟨h1.1, Int.lt_of_lt_of_le h1.2 ?_⟩
  generalize ((l.drop k).take s).length = j at h2
  match j, h2 with
  | 0, _ => decide
  | 1, _ => decide
  | 2, _ => decide
  | 3, _ => decide
  | 4, _ => decide
theorem nmAt_u {l : List Int} (hB : isB l) (k s : Nat) (h : s ≤ 8) : 0 ≤ nmAt l k s ∧ nmAt l k s < 18446744073709551616 := by
  have h1 := getN_lt ((l.drop k).take s) (fun x hx => hB x (List.mem_of_mem_drop (List.mem_of_mem_take hx)))
  have h2 : ((l.drop k).take s).length ≤ 8 := by rw [List.length_take]; omega
  refine ⟨h1.1, Int.lt_of_lt_of_le h1.2 ?_⟩
  generalize ((l.drop k).take s).length = j at h2
  match j, h2 with
  | 0, _ => decide
  | 1, _ => decide
  | 2, _ => decide
  | 3, _ => decide
  | 4, _ => decide
  | 5, _ => decide
  | 6, _ => decide
  | 7, _ => decide
  | 8, _ => decide
/-- As an int. -/
def toI (n : Int) : Int := IntKind.i64.wrap n
theorem toI_same {n : Int} (h0 : 0 ≤ n) (h1 : n < 4294967296) : toI n = n := IntWalk.i64_in _ (by omega)
set_option maxHeartbeats 400000 in
theorem int_at {w : World} {q : Nat} {A : Option Addr} {n : Nat} {l : List Int} {k : Nat} (h : RdAt w q A n l k) (hB : isB l) (hA : ∀ j, inA A j → j ≠ q) (sz : Int) (s : Nat) (e : sz = s) (hs : k + s ≤ n) (h1 : 1 ≤ s) (h8 : s ≤ 8) (k' : Nat) (hk' : k' = k + s) (v : Int) (hv : toI (nmAt l k s) = v) :
    Calls Try.prog 26 #[.agg #[.pointer (some ⟨q, 0, none⟩)], .int .i64 sz] w fun e w' => e = .returned (.int .i64 v) ∧ RdAt w' q A n l k' ∧ Ext (fun j => j = q) w w' := by
  have hn1 := New.alloc1 w (.cells #[.pointer (some ⟨q, 0, none⟩)] 54)
  obtain ⟨g, hg⟩ : ∃ g, g = nmAt l k s := ⟨_, rfl⟩
  unfold toI at hv
  rw [← hg] at hv
  have hu := nmAt_u hB k s h8
  rw [← hg] at hu
  obtain ⟨hu0, hu1⟩ := hu
  have HG := hide hg
  have HV := hide hv
  have HE := hide e
  have HK := hide hk'
  clear hg hv e hk'
  go_enter Try.func26, Try.ntmps26
  go_wp2_with fail
  refine (num_at (h.new hn1) hB hA sz s HE.out hs h1 h8 k' HK.out).mono ?_
  rintro e w2 ⟨rfl, hr2, he2⟩
  rw [← HG.out]
  go_wp2_with fail
  go_ret
  exact ⟨by rw [← HV.out, IntWalk.i64_left]; rfl, hr2, hn1.ext he2⟩
end Go.Proofs.Ytdgleplmmbkgfaa
