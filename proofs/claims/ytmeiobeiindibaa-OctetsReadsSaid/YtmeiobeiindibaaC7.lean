/- Walks: the law on Put. -/
import Derived.Test.YtmeiobeiindibaaC6
import Derived.Test.YtmeiobeiindibaaM
namespace Go.Proofs.Ytmeiobeiindibaa
open Go.RowKit
set_option maxRecDepth 100000

set_option maxHeartbeats 400000 in
theorem cut_any (A : Option Addr) (m c k : Nat) (w : World) (hc : m ≤ c) (hk : k = min m 500) :
    Calls Try.prog 5 #[.slice A m c] w fun e w' => e = .returned (.slice A k c) ∧ w = w' := by
  subst hk
  by_cases h : m ≤ 500
  · have s1 := run_cut_h (P := Try.prog) 22 5 1 Try.underlying22 size_u8 A m c m m rfl (by omega) .i64
    go_enter Try.func5, Try.ntmps5
    go_wp2
    go_ret
    exact ⟨by rw [Nat.min_eq_left (by omega)]; rfl, rfl⟩
  · have s1 := run_cut_h (P := Try.prog) 22 5 1 Try.underlying22 size_u8 A m c 500 500 rfl (by omega) .i64
    go_enter Try.func5, Try.ntmps5
    go_wp2
    go_ret
    exact ⟨by rw [Nat.min_eq_right (by omega)]; rfl, rfl⟩

theorem getN_putL (size : Nat) (n : Nat) : getN (putL size n size) = ((n % 256 ^ size : Nat) : Int) := by
  have h : ∀ k, k ≤ size → getN (putL size n k) = ((n / 256 ^ (size - k) % 256 ^ k : Nat) : Int) := by
    intro k
    induction k with
    | zero => intro _; simp [putL, getN, Nat.mod_one]
    | succ k ih =>
      intro hk
      rw [putL_succ, getN_snoc, ih (by omega)]
      have e1 : (2 : Int) ^ (8 * (size - 1 - k)) = ((256 ^ (size - (k + 1)) : Nat) : Int) := by
        rw [show size - 1 - k = size - (k + 1) by omega, Int.natCast_pow, Int.pow_mul]; rfl
      have e2 : 256 ^ (size - k) = 256 ^ (size - (k + 1)) * 256 := by rw [← Nat.pow_succ]; congr 1; omega
      rw [e1, e2, ← Nat.div_div_eq_div_mul, ← Int.natCast_ediv]
      generalize n / 256 ^ (size - (k + 1)) = q
      have hm := Nat.mod_mul (x := q) (a := 256) (b := 256 ^ k)
      rw [Nat.mul_comm, ← Nat.pow_succ] at hm
      rw [hm]
      omega
  have := h size (Nat.le_refl _)
  simpa using this

theorem putL_isB (size : Nat) (n : Int) (k : Nat) : isB (putL size n k) := by
  intro x hx
  obtain ⟨j, _, rfl⟩ := List.mem_map.1 hx
  omega

/-- The strings of two rows, whatever has been made since. -/
def Str (W : World) (A : Option Addr) (n c : Nat) (l : List Int) : Prop := (convert 22 9 (.slice A n c)).run Try.prog W = .ok (.string (strOfNums l)) W
theorem Str.of {W : World} {A : Option Addr} {n c : Nat} {l : List Int} (h : Rd W 1 A n c (bts l)) : Str W A n c l := run_str 22 5 9 Try.underlying22 Try.underlying5 Try.underlying9 h

set_option maxHeartbeats 2000000 in
/-- A size that is one, as many bytes at hand. -/
theorem law_put_in (A : Option Addr) (m c : Nat) (l : List Int) (size : Nat) (n : Nat) (w : World) (hr : Rd w 1 A m c (bts l)) (hl : isB l) (hm : m ≤ 140737488351232) (h1 : 1 ≤ size) (h8 : size ≤ 8) (hn : n < 18446744073709551616) (hs : size ≤ min m 500) :
    Calls Try.prog 3 #[.slice A m c, .int .i64 size, .int .u64 n] w fun e w' => e = .returned (.bool true) ∧ New w w' := by
  obtain ⟨k, hk⟩ : ∃ k, k = min m 500 := ⟨_, rfl⟩
  obtain ⟨b, hb⟩ : ∃ b, b = l.take k := ⟨_, rfl⟩
  have hkm : k ≤ m := by omega
  have hsk : size ≤ k := by omega
  have hr' := hr.take k hkm
  rw [Nat.mul_one, bts_take, ← hb] at hr'
  have hl' : isB b := fun x hx => hl x (by rw [hb] at hx; exact List.mem_of_mem_take hx)
  have h5 : k ≤ 500 := by omega
  have hlb : b.length = k := by have := hr'.len; rw [bts_length] at this; omega
  have HK := hide hk
  clear hk hb
  go_enter Try.func3, Try.ntmps3
  go_wp2_with fail
  refine (cut_any A m c k _ hr.cap HK.out).mono ?_
  rintro e w1 ⟨rfl, rfl⟩
  go_wp2_with fail
  refine (put_yes A k c _ size n _ hr' (by omega) h1 h8).mono ?_
  rintro e w1 ⟨Ax, cx, rfl, hox, hnx⟩
  rw [← bts_append] at hox
  go_wp2_with fail
  refine (get_yes A k c b size _ (hr'.new hnx) hl' hsk h1 h8).mono ?_
  rintro e w2 ⟨rfl, nd, rfl⟩
  go_wp2_with fail
  refine (rget_yes A k c b size _ ((hr'.new hnx).new (by (repeat (first | exact Ext.refl _ _ | assumption | apply Ext.alloc | apply Ext.drewN | apply Ext.drew)))) hl' hsk h1 h8).mono ?_
  rintro e w2 ⟨rfl, nd2, rfl⟩
  go_wp2_with fail
  have hb1 := hr'.new hnx
  have fx : ∀ x : Lat (fun _ => False) w1, (convert 22 9 (.slice Ax (k + size) cx)).run Try.prog x.W = .ok (.string (strOfNums (b ++ putL size n size))) x.W := fun x => Str.of (hox.new x.ext).rd
  refine mix_start (fun _ => False) w1 (by kernel_rfl) ?_
  refine mix_batch [0, 1, 2, 3, 4] (by kernel_rfl) 20 _ _ _ (by kernel_rfl) (lat_mem (by (repeat (first | exact Ext.refl _ _ | assumption | apply Ext.alloc | apply Ext.drewN | apply Ext.drew)))) ?_
  simp only [pickOps, List.getD_cons_zero, List.getD_cons_succ]
  repeat (go_big_quiet_step (fail))
  refine wpQuiet_nil ?_
  refine mix_loud (i := 5) (by kernel_rfl) rfl (fun K hK => ?_)
  go_simp
  refine (rput_yes A k c _ size n _ (hb1.new (by (repeat (first | exact Ext.refl _ _ | assumption | apply Ext.alloc | apply Ext.drewN | apply Ext.drew)))) (by omega) h1 h8).mono ?_
  rintro e w3 ⟨Ay, cy, rfl, hoy, hny⟩
  rw [← bts_append] at hoy
  have hw3 : New w1 w3 := New.then (by (repeat (first | exact Ext.refl _ _ | assumption | apply Ext.alloc | apply Ext.drewN | apply Ext.drew))) hny
  refine hK.out _ _ (lat_mem hw3) (mix_next hw3 (fun _ _ h => h) ?_)
  clear hK
  have fy : ∀ x : Lat (fun _ => False) w3, (convert 22 9 (.slice Ay (k + size) cy)).run Try.prog x.W = .ok (.string (strOfNums (b ++ putL size n size))) x.W := fun x => Str.of (hoy.new x.ext).rd
  have fr : ∀ x : Lat (fun _ => False) w3, (convert 22 9 (.slice (sl A c size 1) (k - size) (c - size))).run Try.prog x.W = .ok (.string (strOfNums (b.drop size))) x.W := fun x => by
    have hd := ((hb1.new (hw3.then x.ext)).drop size hsk)
    rw [Nat.mul_one, bts_drop] at hd
    exact Str.of hd
  refine mix_batch [6, 7, 8, 9, 10, 11, 12, 13, 14, 15, 16, 17, 18, 19, 20, 21, 22, 23, 24] (by kernel_rfl) 0 _ _ _ (by kernel_rfl) (lat_mem (by (repeat (first | exact Ext.refl _ _ | assumption | apply Ext.alloc | apply Ext.drewN | apply Ext.drew)))) ?_
  simp only [pickOps, List.getD_cons_zero, List.getD_cons_succ]
  repeat (go_big_quiet_step (fail))
  refine wpQuiet_nil ?_
  refine wpAnyH_done (by kernel_rfl) (NoPanic.normal ?_) _
  clear fx fy fr
  have hw03 : New w w3 := hnx.then hw3
  go_wp2_with fail
  refine (put_yes none 0 0 [] size n _ (Rd.nil _ _) (by omega) h1 h8).mono ?_
  rintro e w4 ⟨Az, cz, rfl, hoz, hnz⟩
  simp only [Nat.zero_add, List.nil_append] at hoz
  have hrb := (hr'.new hw03).new hnz
  go_wp2_with (at_builtin; refine wpList_app_g rfl _ _ _ rfl w3.heap.size 5 (.int .u8 0) 1 1 Try.underlying22 info_u8 rfl (by decide) (by decide) rfl rfl hoz hrb (by omega) hnz.size ?_; intro A5 c5 w5 ho5 he5 hA5)
  have hn35 : New w3 w5 := new_app0 hnz hoz he5
  rw [← bts_append] at ho5
  have hpl : (putL size (n : Int) size).length = size := putL_length _ _ _
  refine (get_yes A5 (size + k) c5 _ size _ ho5.rd (fun x hx => (List.mem_append.1 hx).elim (putL_isB _ _ _ x) (hl' x)) (by omega) h1 h8).mono ?_
  rintro e w6 ⟨rfl, nd6, rfl⟩
  have e6 : (putL size (n : Int) size ++ b).take size = putL size n size := by rw [List.take_append_of_le_length (by omega), List.take_of_length_le (by omega)]
  have e7 : (putL size (n : Int) size ++ b).drop size = b := by rw [List.drop_append_of_le_length (by omega), List.drop_of_length_le (by omega), List.nil_append]
  rw [e6, getN_putL]
  have hrd6 := (ho5.rd.new (w' := w5.drewN nd6) (by (repeat (first | exact Ext.refl _ _ | assumption | apply Ext.alloc | apply Ext.drewN | apply Ext.drew)))).drop size (by omega)
  rw [Nat.mul_one, bts_drop, e7, Nat.add_sub_cancel_left] at hrd6
  have hrb6 := (hr'.new (hw03.then hn35)).new (w' := w5.drewN nd6) (by (repeat (first | exact Ext.refl _ _ | assumption | apply Ext.alloc | apply Ext.drewN | apply Ext.drew)))
  have q1 : (convert 22 9 (.slice (sl A5 c5 size 1) k (c5 - size))).run Try.prog (w5.drewN nd6) = .ok (.string (strOfNums b)) (w5.drewN nd6) := Str.of hrd6
  have q2 : (convert 22 9 (.slice A k c)).run Try.prog (w5.drewN nd6) = .ok (.string (strOfNums b)) (w5.drewN nd6) := Str.of hrb6
  by_cases hs8 : size = 8
  · subst hs8
    have hm8 : n % 256 ^ 8 = n := Nat.mod_eq_of_lt (by omega)
    rw [hm8]
    clear hm8 e6 e7
    go_wp2_with fail
    refine (awake_any _).mono ?_
    rintro e w7 ⟨rfl, hn7⟩
    go_wp2_with fail
    go_ret
    exact ⟨rfl, (hw03.then hn35).then (New.then (by (repeat (first | exact Ext.refl _ _ | assumption | apply Ext.alloc | apply Ext.drewN | apply Ext.drew))) hn7)⟩
  · have hb8 : ((size : Int) == 8) = false := by simp; omega
    have hl8 : decide ((size : Int) < 8) = true := decide_eq_true (by omega)
    have hp : (2 : Int) ^ (8 * size) = 256 ^ size := by rw [Int.pow_mul]; rfl
    have hp0 : (0 : Int) < 256 ^ size := Int.pow_pos (by decide)
    have hp1 := pow256 size (by omega)
    have hp2 : IntKind.u64.wrap (2 ^ (8 * size)) = 256 ^ size := by rw [hp]; exact wrap_u64 (by omega) (by omega)
    have hp3 : ¬ (256 : Int) ^ size = 0 := by omega
    clear e6 e7 hp hp1
    go_wp2_with fail
    refine (awake_any _).mono ?_
    rintro e w7 ⟨rfl, hn7⟩
    go_wp2_with fail
    go_ret
    exact ⟨rfl, (hw03.then hn35).then (New.then (by (repeat (first | exact Ext.refl _ _ | assumption | apply Ext.alloc | apply Ext.drewN | apply Ext.drew))) hn7)⟩
end Go.Proofs.Ytmeiobeiindibaa
