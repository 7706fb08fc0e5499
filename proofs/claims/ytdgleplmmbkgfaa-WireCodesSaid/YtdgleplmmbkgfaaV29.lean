/- Walks: bytes there and back, in one form; plain: headers that go back. -/
import Derived.Test.YtdgleplmmbkgfaaV24
namespace Go.Proofs.Ytdgleplmmbkgfaa
open Go.RowKit
set_option maxRecDepth 100000

theorem fl_facts : ∀ fl : Fin 64, hs ((fl.val : Nat) : Int) 8 = false → hs ((fl.val : Nat) : Int) 16 = false →
    inB ((fl.val : Nat) + 8 : Int) 0 63 = true ∧ hs ((fl.val : Nat) + 8 : Int) 8 = true ∧ hs ((fl.val : Nat) + 8 : Int) 16 = false ∧ hs ((fl.val : Nat) + 8 : Int) 4 = hs ((fl.val : Nat) : Int) 4 ∧ hs ((fl.val : Nat) + 8 : Int) 2 = hs ((fl.val : Nat) : Int) 2 ∧
    inB ((fl.val : Nat) + 8 + 16 : Int) 0 63 = true ∧ hs ((fl.val : Nat) + 8 + 16 : Int) 8 = true ∧ hs ((fl.val : Nat) + 8 + 16 : Int) 16 = true ∧ hs ((fl.val : Nat) + 8 + 16 : Int) 4 = hs ((fl.val : Nat) : Int) 4 ∧ hs ((fl.val : Nat) + 8 + 16 : Int) 2 = hs ((fl.val : Nat) : Int) 2 := by decide +kernel
/-- What is trimmed may go back, and both are headers. -/
theorem tr_bo {P : Pk} (h : trB P = true) : okB (trP P) = true ∧ boB (trP P) = true ∧ okB (boP (trP P)) = true := by
  obtain ⟨kd, fl, pa, sr, ds, cn, sq, pl, b⟩ := P
  unfold trB at h
  simp only [Bool.and_eq_true, decide_eq_true_eq, Bool.not_eq_true'] at h
  obtain ⟨⟨hok, rfl⟩, h8⟩ := h
  have hb := (ok_bnd hok).fl
  dsimp only at hb
  unfold okB hostsB numsB at hok
  simp only [Bool.and_eq_true, if_true] at hok
  obtain ⟨⟨⟨k1, ⟨k2, k3⟩, k4⟩, ⟨⟨k5, k6⟩, k7⟩, k8⟩, k9⟩ := hok
  unfold dataB at k9
  simp only [Bool.and_eq_true] at k9
  obtain ⟨⟨⟨⟨j1, j2⟩, j3⟩, j4⟩, j5⟩ := k9
  have h16 : hs fl 16 = false := by
    rw [h8] at j3
    simpa using j3
  obtain ⟨n, rfl⟩ := Int.eq_ofNat_of_zero_le hb.1
  obtain ⟨f1, f2, f3, f4, f5, g1, g2, g3, g4, g5⟩ := fl_facts ⟨n, by omega⟩ h8 h16
  dsimp only at f1 f2 f3 f4 f5 g1 g2 g3 g4 g5
  have d1 : dataB ((n : Int) + 8) pl 0 = true := by
    unfold dataB
    rw [f1, f2, f3, f4, f5, j2, j4]
    simp
  have d2 : dataB ((n : Int) + 8 + 16) pl 0 = true := by
    unfold dataB
    rw [g1, g2, g3, g4, g5, j2, j4]
    simp
  have o1 : okB (trP ⟨1, n, pa, sr, ds, cn, sq, pl, b⟩) = true := by
    unfold okB hostsB numsB trP
    simp only [k1, k2, k3, k4, k5, k6, k7, k8, if_true, List.length_nil, d1, Bool.and_self]
  have k4' : decide (ds ≠ sr) = true := by
    have := of_decide_eq_true k4
    exact decide_eq_true (fun e => this e.symm)
  have o2 : okB (boP (trP ⟨1, n, pa, sr, ds, cn, sq, pl, b⟩)) = true := by
    unfold okB hostsB numsB boP trP
    simp only [k1, k2, k3, k4', k5, k6, k7, k8, if_true, List.length_nil, d2, Bool.and_self]
  refine ⟨o1, ?_, o2⟩
  unfold boB
  rw [o1]
  show (true && decide ((1 : Int) = 1) && hs ((n : Int) + 8) 8 && !hs ((n : Int) + 8) 16) = true
  rw [f2, f3]
  rfl
theorem dcE_ok {l : List Int} (h : dcE l = 0) : okB (dcP l) = true ∧ enL (dcP l) = l := by
  unfold dcE at h
  split at h
  · omega
  · split at h
    · omega
    · split at h
      · omega
      · split at h
        · next h4 => exact h4
        · omega
def zPk : Pk := ⟨0, 0, 0, 0, 0, 0, 0, 0, []⟩
/-- What Decode tells, in one form. -/
def decQ (l : List Int) : Pk := if dcE l = 0 then dcP l else zPk
theorem dec_one {w : World} {l : List Int} {e : Ending} {w' : World} (h : DecR w l e w') (hB : isB l) : New w w' ∧ ∃ y : PkA, e = .returned (.tuple #[y.v, .int .i64 (dcE l)]) ∧ y.ok w' ∧ y.p = decQ l := by
  obtain ⟨hn, ⟨h0, A, n, c, rfl, hr⟩ | ⟨h0, rfl⟩⟩ := h
  · refine ⟨hn, ⟨dcP l, A, n, c⟩, by rw [h0], ⟨hr, fun x hx => hB x (List.mem_of_mem_drop hx)⟩, ?_⟩
    unfold decQ
    rw [if_pos h0]
  · refine ⟨hn, ⟨zPk, none, 0, 0⟩, rfl, ⟨Rd.nil w' 1, fun _ h => by cases h⟩, ?_⟩
    unfold decQ
    rw [if_neg h0]
theorem decode_r (A : Option Addr) (n c : Nat) (l : List Int) (w : World) (hr : Rd w 1 A n c (bts l)) (hB : isB l) (hm : n ≤ 140737488355000) : Calls Try.prog 10 #[.slice A n c] w fun e w' => New w w' ∧ ∃ y : PkA, e = .returned (.tuple #[y.v, .int .i64 (dcE l)]) ∧ y.ok w' ∧ y.p = decQ l :=
  (dec_any A n c l w hr hB hm).mono fun _ _ h => dec_one h hB
/-- A packet's bytes, or none. -/
def enQ (P : Pk) : List Int := bif okB P then enL P else []
theorem enQ_len (P : Pk) : (enQ P).length = bif okB P then 36 + P.b.length else 0 := by
  unfold enQ
  cases okB P
  · rfl
  · show (enL P).length = _
    unfold enL
    rw [List.length_append, List.length_append, hdL_len, putL_length]
    rfl
theorem enQ_isB {P : Pk} (hb : isB P.b) : isB (enQ P) := by
  unfold enQ
  cases h : okB P
  · exact fun _ h => by cases h
  · exact enL_isB (ok_bnd h) hb
theorem encode_r (x : PkA) (w : World) (hx : x.ok w) (b : Bool) (hb : okB x.p = b) (m : Nat) (hm : m = (enQ x.p).length) : Calls Try.prog 8 #[x.v] w fun e w' => ∃ A' c', e = .returned (.tuple #[.slice A' m c', .int .i64 (bif b then 0 else 30)]) ∧ Rd w' 1 A' m c' (bts (enQ x.p)) ∧ New w w' := by
  have hl := enQ_len x.p
  rw [hb] at hl
  cases b
  · have e : enQ x.p = [] := by unfold enQ; rw [hb]; rfl
    rw [e] at hm ⊢
    subst hm
    refine (enc_no x.p x.a x.n x.c w hx.len hb).mono ?_
    rintro e w' ⟨rfl, hn⟩
    exact ⟨none, 0, rfl, Rd.nil w' 1, hn⟩
  · have e : enQ x.p = enL x.p := by unfold enQ; rw [hb]; rfl
    have hm' : m = 36 + x.n := by rw [hm, hl, hx.len]; rfl
    rw [e]
    subst hm'
    refine (enc_yes x.p x.a x.n x.c w hx.len hb hx.rd hx.b).mono ?_
    rintro e w' ⟨A', c', rfl, ho, hn⟩
    exact ⟨A', c', rfl, ho.rd, hn⟩
theorem check_r (x : PkA) (w : World) (hx : x.ok w) (b : Bool) (hb : okB x.p = b) : Calls Try.prog 19 #[x.v] w fun e w' => e = .returned (.int .i64 (bif b then 0 else 30)) ∧ New w w' := check_b x.p x.a x.n x.c b w hx.len hb
theorem is_r (x : PkA) (w : World) (hx : x.ok w) (b : Bool) (hb : okB x.p = b) : Calls Try.prog 20 #[x.v] w fun e w' => e = .returned (.bool b) ∧ New w w' := is_b x.p x.a x.n x.c b w hx.len hb
theorem size_r (x : PkA) (w : World) (hx : x.ok w) (h1 : x.n ≤ 140737488355000) (b : Bool) (hb : okB x.p = b) (v : Int) (hv : v = bif b then 36 + (x.n : Int) else 0) : Calls Try.prog 21 #[x.v] w fun e w' => e = .returned (.int .i64 v) ∧ New w w' := by
  subst hv
  exact size_b x.p x.a x.n x.c w hx.len h1 b hb
end Go.Proofs.Ytdgleplmmbkgfaa
