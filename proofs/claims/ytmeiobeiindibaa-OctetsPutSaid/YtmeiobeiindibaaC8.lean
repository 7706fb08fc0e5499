/- Walks: the law on Put, the other cases. -/
import Derived.Test.YtmeiobeiindibaaC7
namespace Go.Proofs.Ytmeiobeiindibaa
open Go.RowKit
set_option maxRecDepth 100000

set_option maxHeartbeats 2000000 in
/-- A size that is one, fewer bytes at hand. -/
theorem law_put_short (A : Option Addr) (m c : Nat) (l : List Int) (size : Nat) (n : Nat) (w : World) (hr : Rd w 1 A m c (bts l)) (hl : isB l) (hm : m ≤ 140737488351232) (h1 : 1 ≤ size) (h8 : size ≤ 8) (hn : n < 18446744073709551616) (hs : min m 500 < size) :
    Calls Try.prog 3 #[.slice A m c, .int .i64 size, .int .u64 n] w fun e w' => e = .returned (.bool true) ∧ New w w' := by
  obtain ⟨k, hk⟩ : ∃ k, k = min m 500 := ⟨_, rfl⟩
  obtain ⟨b, hb⟩ : ∃ b, b = l.take k := ⟨_, rfl⟩
  have hkm : k ≤ m := by omega
  have hsk : k < size := by omega
  have hr' := hr.take k hkm
  rw [Nat.mul_one, bts_take, ← hb] at hr'
  have hl' : isB b := fun x hx => hl x (by rw [hb] at hx; exact List.mem_of_mem_take hx)
  have h5 : k ≤ 500 := by omega
  have hlb : b.length = k := by have := hr'.len; rw [bts_length] at this; omega
  have HK := hide hk
  clear hk hb
  go_enter Try.func3, Try.ntmps3
  go_wp2_with fail
  refine (cut_any A m c k _ hr.cap HK.out).mono ?_
  rintro e w1 ⟨rfl, rfl⟩
  go_wp2_with fail
  refine (put_yes A k c _ size n _ hr' (by omega) h1 h8).mono ?_
  rintro e w1 ⟨Ax, cx, rfl, hox, hnx⟩
  rw [← bts_append] at hox
  go_wp2_with fail
  refine (get_no A k c size _ (by omega)).mono ?_
  rintro e w2 ⟨rfl, rfl⟩
  go_wp2_with fail
  refine (rget_no A k c size _ (by omega)).mono ?_
  rintro e w2 ⟨rfl, rfl⟩
  go_wp2_with fail
  have hb1 := hr'.new hnx
  have fx : ∀ x : Lat (fun _ => False) w1, (convert 22 9 (.slice Ax (k + size) cx)).run Try.prog x.W = .ok (.string (strOfNums (b ++ putL size n size))) x.W := fun x => Str.of (hox.new x.ext).rd
  refine mix_start (fun _ => False) w1 (by kernel_rfl) ?_
  refine mix_batch [0, 1, 2, 3, 4] (by kernel_rfl) 20 _ _ _ (by kernel_rfl) (lat_mem (by (repeat (first | exact Ext.refl _ _ | assumption | apply Ext.alloc | apply Ext.drewN | apply Ext.drew)))) ?_
  simp only [pickOps, List.getD_cons_zero, List.getD_cons_succ]
  repeat (go_big_quiet_step (fail))
  refine wpQuiet_nil ?_
  refine mix_loud (i := 5) (by kernel_rfl) rfl (fun K hK => ?_)
  go_simp
  refine (rput_yes A k c _ size n _ (hb1.new (by (repeat (first | exact Ext.refl _ _ | assumption | apply Ext.alloc | apply Ext.drewN | apply Ext.drew)))) (by omega) h1 h8).mono ?_
  rintro e w3 ⟨Ay, cy, rfl, hoy, hny⟩
  rw [← bts_append] at hoy
  have hw3 : New w1 w3 := New.then (by (repeat (first | exact Ext.refl _ _ | assumption | apply Ext.alloc | apply Ext.drewN | apply Ext.drew))) hny
  refine hK.out _ _ (lat_mem hw3) (mix_next hw3 (fun _ _ h => h) ?_)
  clear hK
  have fy : ∀ x : Lat (fun _ => False) w3, (convert 22 9 (.slice Ay (k + size) cy)).run Try.prog x.W = .ok (.string (strOfNums (b ++ putL size n size))) x.W := fun x => Str.of (hoy.new x.ext).rd
  have fr : ∀ x : Lat (fun _ => False) w3, (convert 22 9 (.slice none 0 0)).run Try.prog x.W = .ok (.string (strOfNums [])) x.W := fun x => Str.of (Rd.nil x.W 1)
  refine mix_batch [6, 7, 8, 9, 10, 11, 12, 13, 14, 15, 16, 17, 18, 19, 20, 21, 22, 23, 24] (by kernel_rfl) 0 _ _ _ (by kernel_rfl) (lat_mem (by (repeat (first | exact Ext.refl _ _ | assumption | apply Ext.alloc | apply Ext.drewN | apply Ext.drew)))) ?_
  simp only [pickOps, List.getD_cons_zero, List.getD_cons_succ]
  repeat (go_big_quiet_step (fail))
  refine wpQuiet_nil ?_
  refine wpAnyH_done (by kernel_rfl) (NoPanic.normal ?_) _
  clear fx fy fr
  have hw03 : New w w3 := hnx.then hw3
  go_wp2_with fail
  refine (put_yes none 0 0 [] size n _ (Rd.nil _ _) (by omega) h1 h8).mono ?_
  rintro e w4 ⟨Az, cz, rfl, hoz, hnz⟩
  simp only [Nat.zero_add, List.nil_append] at hoz
  have hrb := (hr'.new hw03).new hnz
  go_wp2_with (at_builtin; refine wpList_app_g rfl _ _ _ rfl w3.heap.size 5 (.int .u8 0) 1 1 Try.underlying22 info_u8 rfl (by decide) (by decide) rfl rfl hoz hrb (by omega) hnz.size ?_; intro A5 c5 w5 ho5 he5 hA5)
  have hn35 : New w3 w5 := new_app0 hnz hoz he5
  rw [← bts_append] at ho5
  have hpl : (putL size (n : Int) size).length = size := putL_length _ _ _
  refine (get_yes A5 (size + k) c5 _ size _ ho5.rd (fun x hx => (List.mem_append.1 hx).elim (putL_isB _ _ _ x) (hl' x)) (by omega) h1 h8).mono ?_
  rintro e w6 ⟨rfl, nd6, rfl⟩
  have e6 : (putL size (n : Int) size ++ b).take size = putL size n size := by rw [List.take_append_of_le_length (by omega), List.take_of_length_le (by omega)]
  have e7 : (putL size (n : Int) size ++ b).drop size = b := by rw [List.drop_append_of_le_length (by omega), List.drop_of_length_le (by omega), List.nil_append]
  rw [e6, getN_putL]
  have hrd6 := (ho5.rd.new (w' := w5.drewN nd6) (by (repeat (first | exact Ext.refl _ _ | assumption | apply Ext.alloc | apply Ext.drewN | apply Ext.drew)))).drop size (by omega)
  rw [Nat.mul_one, bts_drop, e7, Nat.add_sub_cancel_left] at hrd6
  have hrb6 := (hr'.new (hw03.then hn35)).new (w' := w5.drewN nd6) (by (repeat (first | exact Ext.refl _ _ | assumption | apply Ext.alloc | apply Ext.drewN | apply Ext.drew)))
  have q1 : (convert 22 9 (.slice (sl A5 c5 size 1) k (c5 - size))).run Try.prog (w5.drewN nd6) = .ok (.string (strOfNums b)) (w5.drewN nd6) := Str.of hrd6
  have q2 : (convert 22 9 (.slice A k c)).run Try.prog (w5.drewN nd6) = .ok (.string (strOfNums b)) (w5.drewN nd6) := Str.of hrb6
  by_cases hs8 : size = 8
  · subst hs8
    have hm8 : n % 256 ^ 8 = n := Nat.mod_eq_of_lt (by omega)
    rw [hm8]
    clear hm8 e6 e7
    go_wp2_with fail
    refine (awake_any _).mono ?_
    rintro e w7 ⟨rfl, hn7⟩
    go_wp2_with fail
    go_ret
    exact ⟨rfl, (hw03.then hn35).then (New.then (by (repeat (first | exact Ext.refl _ _ | assumption | apply Ext.alloc | apply Ext.drewN | apply Ext.drew))) hn7)⟩
  · have hb8 : ((size : Int) == 8) = false := by simp; omega
    have hl8 : decide ((size : Int) < 8) = true := decide_eq_true (by omega)
    have hp : (2 : Int) ^ (8 * size) = 256 ^ size := by rw [Int.pow_mul]; rfl
    have hp0 : (0 : Int) < 256 ^ size := Int.pow_pos (by decide)
    have hp1 := pow256 size (by omega)
    have hp2 : IntKind.u64.wrap (2 ^ (8 * size)) = 256 ^ size := by rw [hp]; exact wrap_u64 (by omega) (by omega)
    have hp3 : ¬ (256 : Int) ^ size = 0 := by omega
    clear e6 e7 hp hp1
    go_wp2_with fail
    refine (awake_any _).mono ?_
    rintro e w7 ⟨rfl, hn7⟩
    go_wp2_with fail
    go_ret
    exact ⟨rfl, (hw03.then hn35).then (New.then (by (repeat (first | exact Ext.refl _ _ | assumption | apply Ext.alloc | apply Ext.drewN | apply Ext.drew))) hn7)⟩

set_option maxHeartbeats 2000000 in
/-- A size that is none. -/
theorem law_put_out (A : Option Addr) (m c : Nat) (l : List Int) (size : Int) (n : Nat) (w : World) (hr : Rd w 1 A m c (bts l)) (hl : isB l) (hm : m ≤ 140737488351232) (hs : size < 1 ∨ 8 < size) :
    Calls Try.prog 3 #[.slice A m c, .int .i64 size, .int .u64 n] w fun e w' => e = .returned (.bool true) ∧ New w w' := by
  obtain ⟨k, hk⟩ : ∃ k, k = min m 500 := ⟨_, rfl⟩
  obtain ⟨b, hb⟩ : ∃ b, b = l.take k := ⟨_, rfl⟩
  have hkm : k ≤ m := by omega
  have hr' := hr.take k hkm
  rw [Nat.mul_one, bts_take, ← hb] at hr'
  have hl' : isB b := fun x hx => hl x (by rw [hb] at hx; exact List.mem_of_mem_take hx)
  have h5 : k ≤ 500 := by omega
  have hlb : b.length = k := by have := hr'.len; rw [bts_length] at this; omega
  have HK := hide hk
  clear hk hb
  go_enter Try.func3, Try.ntmps3
  go_wp2_with fail
  refine (cut_any A m c k _ hr.cap HK.out).mono ?_
  rintro e w1 ⟨rfl, rfl⟩
  go_wp2_with fail
  refine (put_no A k c _ size n _ hr' (by omega) hs).mono ?_
  rintro e w1 ⟨Ax, cx, rfl, hox, hnx⟩
  go_wp2_with fail
  refine (get_no A k c size _ (by omega)).mono ?_
  rintro e w2 ⟨rfl, rfl⟩
  go_wp2_with fail
  refine (rget_no A k c size _ (by omega)).mono ?_
  rintro e w2 ⟨rfl, rfl⟩
  go_wp2_with fail
  have hb1 := hr'.new hnx
  have fx : ∀ x : Lat (fun _ => False) w1, (convert 22 9 (.slice Ax k cx)).run Try.prog x.W = .ok (.string (strOfNums b)) x.W := fun x => Str.of (hox.new x.ext).rd
  refine mix_start (fun _ => False) w1 (by kernel_rfl) ?_
  refine mix_batch [0, 1, 2, 3, 4] (by kernel_rfl) 20 _ _ _ (by kernel_rfl) (lat_mem (by (repeat (first | exact Ext.refl _ _ | assumption | apply Ext.alloc | apply Ext.drewN | apply Ext.drew)))) ?_
  simp only [pickOps, List.getD_cons_zero, List.getD_cons_succ]
  repeat (go_big_quiet_step (fail))
  refine wpQuiet_nil ?_
  refine mix_loud (i := 5) (by kernel_rfl) rfl (fun K hK => ?_)
  go_simp
  refine (rput_no A k c _ size n _ (hb1.new (by (repeat (first | exact Ext.refl _ _ | assumption | apply Ext.alloc | apply Ext.drewN | apply Ext.drew)))) (by omega) hs).mono ?_
  rintro e w3 ⟨Ay, cy, rfl, hoy, hny⟩
  have hw3 : New w1 w3 := New.then (by (repeat (first | exact Ext.refl _ _ | assumption | apply Ext.alloc | apply Ext.drewN | apply Ext.drew))) hny
  refine hK.out _ _ (lat_mem hw3) (mix_next hw3 (fun _ _ h => h) ?_)
  clear hK
  have fy : ∀ x : Lat (fun _ => False) w3, (convert 22 9 (.slice Ay k cy)).run Try.prog x.W = .ok (.string (strOfNums b)) x.W := fun x => Str.of (hoy.new x.ext).rd
  have fr : ∀ x : Lat (fun _ => False) w3, (convert 22 9 (.slice none 0 0)).run Try.prog x.W = .ok (.string (strOfNums [])) x.W := fun x => Str.of (Rd.nil x.W 1)
  refine mix_batch [6, 7, 8, 9, 10, 11, 12, 13, 14, 15, 16, 17, 18, 19, 20, 21, 22, 23, 24] (by kernel_rfl) 0 _ _ _ (by kernel_rfl) (lat_mem (by (repeat (first | exact Ext.refl _ _ | assumption | apply Ext.alloc | apply Ext.drewN | apply Ext.drew)))) ?_
  simp only [pickOps, List.getD_cons_zero, List.getD_cons_succ]
  repeat (go_big_quiet_step (fail))
  refine wpQuiet_nil ?_
  refine wpAnyH_done (by kernel_rfl) (NoPanic.normal ?_) _
  clear fx fy fr
  have hw03 : New w w3 := hnx.then hw3
  by_cases hs1 : 1 ≤ size
  · have hs8 : decide (size ≤ 8) = false := decide_eq_false (by omega)
    go_wp2_with fail
    refine (awake_any _).mono ?_
    rintro e w7 ⟨rfl, hn7⟩
    go_wp2_with fail
    go_ret
    exact ⟨rfl, hw03.then hn7⟩
  · go_wp2_with fail
    refine (awake_any _).mono ?_
    rintro e w7 ⟨rfl, hn7⟩
    go_wp2_with fail
    go_ret
    exact ⟨rfl, hw03.then hn7⟩
end Go.Proofs.Ytmeiobeiindibaa
