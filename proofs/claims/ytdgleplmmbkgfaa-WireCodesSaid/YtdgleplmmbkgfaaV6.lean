/- Sums of bytes: plain, and walks. -/
import Derived.Test.YtdgleplmmbkgfaaV1
namespace Go.Proofs.Ytdgleplmmbkgfaa
open Go.RowKit
set_option maxRecDepth 100000

def adst (p : Int × Int) (x : Int) : Int × Int := ((p.1 + x) % 65521, (p.2 + (p.1 + x) % 65521) % 65521)
def adf (p : Int × Int) (l : List Int) : Int × Int := l.foldl adst p
def adsum (p : Int × Int) : Int := p.2 * 65536 + p.1
/-- Both halves are below the prime. -/
def adok (p : Int × Int) : Prop := 0 ≤ p.1 ∧ p.1 < 65521 ∧ 0 ≤ p.2 ∧ p.2 < 65521
theorem adst_ok (p : Int × Int) (x : Int) : adok (adst p x) := by
  unfold adok adst
  dsimp only
  omega
theorem adf_ok {p : Int × Int} (h : adok p) (l : List Int) : adok (adf p l) := by
  induction l generalizing p with
  | nil => exact h
  | cons x r ih => exact ih (adst_ok p x)
theorem adf_app (p : Int × Int) (l k : List Int) : adf p (l ++ k) = adf (adf p l) k := List.foldl_append
theorem adf_take (p : Int × Int) (l : List Int) (k : Nat) (x : Int) (h : l[k]? = some x) : adf p (l.take (k + 1)) = adst (adf p (l.take k)) x := by
  rw [take_snoc l k x h, adf_app]
  rfl
theorem sum_or {a b : Int} (h : adok (a, b)) : bits .or .u32 (b * 65536) a = adsum (a, b) := by
  obtain ⟨h1, h2, h3, h4⟩ := h
  dsimp only at h1 h2 h3 h4
  obtain ⟨a, rfl⟩ := Int.eq_ofNat_of_zero_le h1
  obtain ⟨b, rfl⟩ := Int.eq_ofNat_of_zero_le h3
  have e1 : ((b : Int) * 65536).toNat = b <<< 16 := by rw [Nat.shiftLeft_eq]; omega
  unfold adsum
  dsimp only
  rw [u32_or _ _ (by omega) (by omega) (by omega) (by omega), e1, show ((a : Int)).toNat = a by omega, ← Nat.shiftLeft_add_eq_or_of_lt (by omega), Nat.shiftLeft_eq]
  omega
theorem adl_or {a b : Int} (h : adok (a, b)) : bits .or .u32 (IntKind.u32.wrap (b * 65536)) a = adsum (a, b) := by
  have h' := h
  obtain ⟨h1, h2, h3, h4⟩ := h
  dsimp only at h1 h2 h3 h4
  rw [IntWalk.u32_in _ (by omega)]
  exact sum_or h'
set_option maxHeartbeats 800000 in
theorem add_any (q : Nat) (a b : Int) (A : Option Addr) (n c : Nat) (l : List Int) (w : World) (hb : w.heap[q]? = some (.cells #[.int .u32 a, .int .u32 b] 68)) (hok : adok (a, b)) (hr : Rd w 1 A n c (bts l)) (hl : isB l) (hq : n = 0 ∨ ∀ k, inA A k → k ≠ q) :
    Calls Try.prog 43 #[.pointer (some ⟨q, 0, none⟩), .slice A n c] w fun e w' => e = .returned (.tuple #[]) ∧ w'.heap[q]? = some (.cells #[.int .u32 (adf (a, b) l).1, .int .u32 (adf (a, b) l).2] 68) ∧ Ext (fun k => k = q) w w' := by
  have hlen : l.length = n := by have := hr.len; rw [bts_length] at this; omega
  have hcap := hr.cap
  have htop := hr.top
  go_enter Try.func43, Try.ntmps43
  have HL := hide hlen
  clear hlen
  go_wp2_with fail
  go_loopw [8] (fun s8 wr => ∃ k : Nat, k ≤ n ∧ s8 = .int .i64 k ∧ wr.heap[q]? = some (.cells #[.int .u32 (adf (a, b) (l.take k)).1, .int .u32 (adf (a, b) (l.take k)).2] 68) ∧ Ext (fun k => k = q) w wr) (fun a _ => n - (intOf a).toNat)
  case atStart => exact ⟨0, by omega, rfl, hb, Ext.refl _ _⟩
  case round =>
    obtain ⟨k, hk, rfl, hb1, he⟩ := hrel
    by_cases hlt : k < n
    · have d1 : decide ((k : Int) < n) = true := decide_eq_true (by omega)
      have d1n : decide (k < n) = true := decide_eq_true (by omega)
      obtain ⟨ad, rfl⟩ := hr.some (by omega)
      obtain ⟨x, hx⟩ : ∃ x, l[k]? = some x := ⟨_, List.getElem?_eq_getElem (by have := HL.out; omega)⟩
      have hcx := (hr.keep he (hq.resolve_left (by omega))).celln hx
      obtain ⟨hx0, hx1⟩ := hl x (List.mem_of_getElem? hx)
      have hst := adf_take (a, b) l k x hx
      have hok1 := adf_ok hok (l.take k)
      obtain ⟨u, hu⟩ : ∃ u, u = adf (a, b) (l.take k) := ⟨_, rfl⟩
      rw [← hu] at hst hok1 hb1
      have hok2 := adst_ok u x
      obtain ⟨v1, hv1⟩ : ∃ v, v = (u.1 + x) % 65521 := ⟨_, rfl⟩
      obtain ⟨v2, hv2⟩ : ∃ v, v = (u.2 + v1) % 65521 := ⟨_, rfl⟩
      have hv : adst u x = (v1, v2) := by unfold adst; rw [← hv1, ← hv2]
      rw [hv] at hst
      obtain ⟨u1, u2⟩ := u
      obtain ⟨ha1, ha2, ha3, ha4⟩ := hok1
      dsimp only at ha1 ha2 ha3 ha4 hb1 hv1 hv2
      have b0 := (blk_cell hb1 0).trans rfl
      have b1 := (blk_cell hb1 1).trans rfl
      have f0 := blk_free hb1 0
      have f1 := blk_free hb1 1
      have HST := hide hst
      have HU := hide hu
      clear hst hu hv hx
      go_upto_region 4 with (fail)
      have hb2 := blk_set hb1 0 (.int .u32 v1)
      have he2 : Ext (fun k => k = q) w (wr.setCell ⟨q, 0, none⟩ (.int .u32 v1)) := he.set (by rfl)
      rw [← hv1]
      generalize wr.setCell ⟨q, 0, none⟩ (.int .u32 v1) = w2 at *
      have hvb : 0 ≤ v1 ∧ v1 < 65521 := by omega
      obtain ⟨hvb0, hvb1⟩ := hvb
      clear b0 b1 f0 f1 hv1
      have q0 : ∀ y : Lat (fun _ => False) w2, y.W.cell? ⟨q, 0, none⟩ = some (.int .u32 v1) := fun y => (blk_cell (New.keep y.ext hb2) 0).trans rfl
      have q1 : ∀ y : Lat (fun _ => False) w2, y.W.cell? ⟨q, 1, none⟩ = some (.int .u32 u2) := fun y => (blk_cell (New.keep y.ext hb2) 1).trans rfl
      have s1 : IntKind.u32.wrap (u2 + v1) = u2 + v1 := IntWalk.u32_in _ (by omega)
      have s2 : (u2 + v1).tmod 65521 = v2 := by rw [Int.tmod_eq_emod_of_nonneg (by omega), hv2]
      have s3 : (u2 + v1) % 65521 = v2 := hv2.symm
      have hv2b : 0 ≤ v2 ∧ v2 < 65521 := by omega
      obtain ⟨hv20, hv21⟩ := hv2b
      have HV2 := hide hv2
      clear hv2
      refine mixT_start 13 (fun _ => False) w2 (by kernel_rfl) ?_
      refine mixT_batch [0, 1, 2, 3, 4, 5, 6, 7, 8, 9, 10] (by kernel_rfl) 3 _ _ _ (by kernel_rfl) (lat_mem (by (repeat (first | exact Ext.refl _ _ | assumption | apply Ext.alloc | apply Ext.drewN | apply Ext.drew | refine Ext.setCell ?_ (fun h => by first | rfl | exact absurd h (by dsimp only; omega)) _)))) ?_
      simp only [pickOps, List.getD_cons_zero, List.getD_cons_succ]
      repeat (go_big_quiet_step (fail))
      refine wpQuiet_nil ?_
      refine mixT_loud (i := 11) (by kernel_rfl) rfl (fun K hK => ?_)
      go_simp
      refine hK.out _ _ (lat_mem (by (repeat (first | exact Ext.refl _ _ | assumption | apply Ext.alloc | apply Ext.drewN | apply Ext.drew | refine Ext.setCell ?_ (fun h => by first | rfl | exact absurd h (by dsimp only; omega)) _)))) ?_
      clear hK
      refine mixT_batch [12] (by kernel_rfl) 1 _ _ _ (by kernel_rfl) (lat_mem (by (repeat (first | exact Ext.refl _ _ | assumption | apply Ext.alloc | apply Ext.drewN | apply Ext.drew | refine Ext.setCell ?_ (fun h => by first | rfl | exact absurd h (by dsimp only; omega)) _)))) ?_
      simp only [pickOps, List.getD_cons_zero, List.getD_cons_succ]
      repeat (go_big_quiet_step (fail))
      refine wpQuiet_nil ?_
      have hb3 : w2.drew.heap[q]? = _ := hb2
      have j1 : w2.drew.cell? ⟨q, 1, none⟩ = some (.int .u32 u2) := (blk_cell hb3 1).trans rfl
      have j2 := blk_free hb3 1
      refine mixT_last (by kernel_rfl) rfl (fun K hK => ?_)
      go_simp
      refine hK.out _ _ ?_
      clear hK
      refine anyT_done (by kernel_rfl) (NoPanic.normal ?_) _
      clear q0 q1 s1 s2 s3 j1 j2
      have he3 : Ext (fun k => k = q) w (w2.drew.setCell ⟨q, 1, none⟩ (.int .u32 v2)) := he2.drew.set (by rfl)
      have hb4 := blk_set hb3 1 (.int .u32 v2)
      go_wp2_with fail
      refine ⟨⟨k + 1, by omega, by go_num, ?_, he3⟩, by simp [intOf]; omega⟩
      rw [HST.out]
      exact hb4
    · have d1 : decide ((k : Int) < n) = false := decide_eq_false (by omega)
      have d1n : decide (k < n) = false := decide_eq_false (by omega)
      go_wp2_with fail
      go_end0
      have hkn : l.take k = l := List.take_of_length_le (by have := HL.out; omega)
      rw [hkn] at hb1
      exact ⟨rfl, hb1, he⟩

set_option maxHeartbeats 800000 in
theorem sum_any (q : Nat) (a b : Int) (w : World) (hb : w.heap[q]? = some (.cells #[.int .u32 a, .int .u32 b] 68)) (hok : adok (a, b)) :
    Calls Try.prog 44 #[.pointer (some ⟨q, 0, none⟩)] w fun e w' => e = .returned (.int .u32 (adsum (a, b))) ∧ New w w' := by
  have q0 : ∀ y : Lat (fun _ => False) w, y.W.cell? ⟨q, 0, none⟩ = some (.int .u32 a) := fun y => (blk_cell (New.keep y.ext hb) 0).trans rfl
  have q1 : ∀ y : Lat (fun _ => False) w, y.W.cell? ⟨q, 1, none⟩ = some (.int .u32 b) := fun y => (blk_cell (New.keep y.ext hb) 1).trans rfl
  have s0 := adl_or hok
  have s1 := sum_or hok
  obtain ⟨h1, h2, h3, h4⟩ := hok
  dsimp only at h1 h2 h3 h4
  have s2 : IntKind.u32.wrap (b * 65536) = b * 65536 := IntWalk.u32_in _ (by omega)
  go_enter Try.func44, Try.ntmps44
  go_wp2_with fail
  refine mix_start (fun _ => False) w (by kernel_rfl) ?_
  refine mix_batch [0, 1, 2, 3, 4, 5, 6, 7, 8, 9, 10] (by kernel_rfl) 0 _ _ _ (by kernel_rfl) (lat_mem (by (repeat (first | exact Ext.refl _ _ | assumption | apply Ext.alloc | apply Ext.drewN | apply Ext.drew | refine Ext.setCell ?_ (fun h => by first | rfl | exact absurd h (by dsimp only; omega)) _)))) ?_
  simp only [pickOps, List.getD_cons_zero, List.getD_cons_succ]
  repeat (go_big_quiet_step (fail))
  refine wpQuiet_nil ?_
  refine wpAnyH_done (by kernel_rfl) (NoPanic.normal ?_) _
  go_wp2_with fail
  go_ret
  exact ⟨rfl, by (repeat (first | exact Ext.refl _ _ | assumption | apply Ext.alloc | apply Ext.drewN | apply Ext.drew | refine Ext.setCell ?_ (fun h => by first | rfl | exact absurd h (by dsimp only; omega)) _))⟩
end Go.Proofs.Ytdgleplmmbkgfaa
