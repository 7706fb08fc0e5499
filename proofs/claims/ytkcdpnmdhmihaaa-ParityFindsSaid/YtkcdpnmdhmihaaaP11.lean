/- The law on what a parity is, for every input. -/
import Derived.Test.YtkcdpnmdhmihaaaP10
import Derived.Test.YtkcdpnmdhmihaaaR
namespace Go.Proofs.Ytkcdpnmdhmihaaa
open Go.RowKit
set_option maxRecDepth 100000

theorem strOf_inj {l k : List Int} (hl : isB l) (hk : isB k) (h : strOfNums l = strOfNums k) : l = k := by
  have h1 : (strOfNums l).data.toList = (strOfNums k).data.toList := by rw [h]
  rw [strOfNums_data, strOfNums_data] at h1
  clear h
  induction l generalizing k with
  | nil => cases k with
    | nil => rfl
    | cons y k => simp at h1
  | cons x l ih => cases k with
    | nil => simp at h1
    | cons y k =>
      simp only [List.map_cons, List.cons.injEq] at h1
      have hx := hl x (by simp)
      have hy := hk y (by simp)
      have e : x.toNat = y.toNat := by
        have := congrArg UInt8.toNat h1.1
        rw [UInt8.toNat_ofNat', UInt8.toNat_ofNat'] at this
        omega
      rw [ih (fun z hz => hl z (by simp [hz])) (fun z hz => hk z (by simp [hz])) h1.2, show x = y by omega]

theorem str_ne {a b : ByteArray} (h : ¬ a = b) : (a.toList == b.toList) = false := by
  rw [ByteArray.toList_eq, ByteArray.toList_eq]
  exact beq_false_of_ne (fun e => h (WideShapes.bytes_inj e))
def mkOf (L : List Pc) : List Int := if isP L then makeOf (byt L) else []
def erM (L : List Pc) : Int := if isP L then 0 else 360
open Classical in
noncomputable def fdOf (k : List Int) (bs : List (List Int)) : List Int := if okA k bs then outOf k bs else []
open Classical in
noncomputable def erF (k : List Int) (bs : List (List Int)) : Int := if okA k bs then 0 else 360

theorem make_any (A : Option Addr) (n c : Nat) (L : List Pc) (w : World) (h : Rows w A n c L) :
    Calls Try.prog 11 #[.slice A n c] w fun e w' => ∃ A' n' c', e = .returned (.tuple #[.slice A' n' c', .int .i64 (erM L)]) ∧ Rd w' 1 A' n' c' (bts (mkOf L)) ∧ New w w' := by
  by_cases hp : isP L
  · refine (make_yes A n c L w h hp).mono ?_
    rintro e w' ⟨A', c', rfl, ho, hn⟩
    exact ⟨_, _, _, by rw [erM, if_pos hp], by rw [mkOf, if_pos hp]; exact ho.rd, hn⟩
  · refine (make_no A n c L w h hp).mono ?_
    rintro e w' ⟨rfl, rfl⟩
    exact ⟨_, _, _, by rw [erM, if_neg hp], by rw [mkOf, if_neg hp]; exact Rd.nil _ _, Ext.refl _ _⟩
theorem rmake_any (A : Option Addr) (n c : Nat) (L : List Pc) (w : World) (h : Rows w A n c L) :
    Calls Try.prog 12 #[.slice A n c] w fun e w' => ∃ A' n' c', e = .returned (.tuple #[.slice A' n' c', .int .i64 (erM L)]) ∧ Rd w' 1 A' n' c' (bts (mkOf L)) ∧ New w w' := by
  by_cases hp : isP L
  · refine (rmake_yes A n c L w h hp).mono ?_
    rintro e w' ⟨A', c', rfl, ho, hn⟩
    exact ⟨_, _, _, by rw [erM, if_pos hp], by rw [mkOf, if_pos hp]; exact ho.rd, hn⟩
  · refine (rmake_no A n c L w h hp).mono ?_
    rintro e w' ⟨rfl, rfl⟩
    exact ⟨_, _, _, by rw [erM, if_neg hp], by rw [mkOf, if_neg hp]; exact Rd.nil _ _, Ext.refl _ _⟩
theorem find_any (B : Option Addr) (m d : Nat) (k : List Int) (A : Option Addr) (n c : Nat) (L : List Pc) (w : World) (hk : Rd w 1 B m d (bts k)) (hkB : isB k) (h : Rows w A n c L) :
    Calls Try.prog 13 #[.slice B m d, .slice A n c] w fun e w' => ∃ A' n' c', e = .returned (.tuple #[.slice A' n' c', .int .i64 (erF k (byt L))]) ∧ Rd w' 1 A' n' c' (bts (fdOf k (byt L))) ∧ New w w' := by
  by_cases hf : okF k (byt L)
  · refine (find_h B m d k A n c L w hk hkB h hf).mono ?_
    rintro e w' ⟨A', c', (⟨ho, rfl, hr⟩ | ⟨ho, rfl⟩), hn⟩
    · exact ⟨_, _, _, by rw [erF, if_pos ho], by rw [fdOf, if_pos ho]; exact hr, hn⟩
    · exact ⟨_, _, _, by rw [erF, if_neg ho], by rw [fdOf, if_neg ho]; exact Rd.nil _ _, hn⟩
  · have ho : ¬ okA k (byt L) := fun hh => hf hh.1.1
    refine (find_f B m d k A n c L w hk h hf).mono ?_
    rintro e w' ⟨rfl, rfl⟩
    exact ⟨_, _, _, by rw [erF, if_neg ho], by rw [fdOf, if_neg ho]; exact Rd.nil _ _, Ext.refl _ _⟩
theorem rfind_any (B : Option Addr) (m d : Nat) (k : List Int) (A : Option Addr) (n c : Nat) (L : List Pc) (w : World) (hk : Rd w 1 B m d (bts k)) (hkB : isB k) (h : Rows w A n c L) :
    Calls Try.prog 14 #[.slice B m d, .slice A n c] w fun e w' => ∃ A' n' c', e = .returned (.tuple #[.slice A' n' c', .int .i64 (erF k (byt L))]) ∧ Rd w' 1 A' n' c' (bts (fdOf k (byt L))) ∧ New w w' := by
  by_cases hf : okF k (byt L)
  · refine (rfind_h B m d k A n c L w hk hkB h hf).mono ?_
    rintro e w' ⟨A', c', (⟨ho, rfl, hr⟩ | ⟨ho, rfl⟩), hn⟩
    · exact ⟨_, _, _, by rw [erF, if_pos ho], by rw [fdOf, if_pos ho]; exact hr, hn⟩
    · exact ⟨_, _, _, by rw [erF, if_neg ho], by rw [fdOf, if_neg ho]; exact Rd.nil _ _, hn⟩
  · have ho : ¬ okA k (byt L) := fun hh => hf hh.1.1
    refine (rfind_f B m d k A n c L w hk h hf).mono ?_
    rintro e w' ⟨rfl, rfl⟩
    exact ⟨_, _, _, by rw [erF, if_neg ho], by rw [fdOf, if_neg ho]; exact Rd.nil _ _, Ext.refl _ _⟩

set_option maxHeartbeats 2000000 in
theorem law_makes_walk (A : Option Addr) (n c : Nat) (L : List Pc) (B : Option Addr) (m d : Nat) (k : List Int) (w : World) (h : Rows w A n c L) (hk : Rd w 1 B m d (bts k)) (hkB : isB k) :
    Calls Try.prog 3 #[.slice A n c, .slice B m d] w fun e w' => e = .returned (.bool true) ∧ New w w' := by
  obtain ⟨j, hj⟩ : ∃ j, j = min m 1030 := ⟨_, rfl⟩
  have hjm : j ≤ m := by omega
  have HJ := hide hj
  clear hj
  go_enter Try.func3, Try.ntmps3
  go_wp2_with fail
  refine (few_any A n c L _ h).mono ?_
  rintro e w1 ⟨A1, c1, rfl, _, hR, hn1⟩
  obtain ⟨L1, hL1⟩ : ∃ L1, L1 = (L.take 20).map cutP := ⟨_, rfl⟩
  rw [← hL1] at hR
  clear hL1
  generalize min n 20 = n1 at *
  go_wp2_with fail
  refine (cut_any B m d j _ hk.cap HJ.out).mono ?_
  rintro e w2 ⟨rfl, rfl⟩
  have hb := (hk.new hn1).btake j hjm
  have hbB := hkB.take j
  generalize k.take j = b at *
  go_wp2_with fail
  refine (make_any A1 n1 c1 L1 _ hR).mono ?_
  rintro e w2 ⟨Ax, nx, cx, rfl, hx, hn2⟩
  go_wp2_with fail
  refine (rmake_any A1 n1 c1 L1 _ (hR.new hn2)).mono ?_
  rintro e w3 ⟨Ay, ny, cy, rfl, hy, hn3⟩
  have hn13 := hn2.then hn3
  go_wp2_with fail
  refine (find_any B j d b A1 n1 c1 L1 _ (hb.new hn13) hbB (hR.new hn13)).mono ?_
  rintro e w4 ⟨Au, nu, cu, rfl, hu, hn4⟩
  have hn14 := hn13.then hn4
  go_wp2_with fail
  refine (rfind_any B j d b A1 n1 c1 L1 _ (hb.new hn14) hbB (hR.new hn14)).mono ?_
  rintro e w5 ⟨Av, nv, cv, rfl, hv, hn5⟩
  have hn15 := hn14.then hn5
  have hn05 := hn1.then hn15
  have x5 := hx.new (hn3.then (hn4.then hn5))
  have y5 := hy.new (hn4.then hn5)
  have u5 := hu.new hn5
  have b5 := hb.new hn15
  have R5 := hR.new hn15
  clear hx hy hu hb hR hn1 hn2 hn3 hn4 hn5 hn13 hn14 hn15 h hk
  have qx : ∀ W, New w5 W → (convert 23 9 (.slice Ax nx cx)).run Try.prog W = .ok (.string (strOfNums (mkOf L1))) W := fun W hW => Str.of (x5.new hW)
  have qy : ∀ W, New w5 W → (convert 23 9 (.slice Ay ny cy)).run Try.prog W = .ok (.string (strOfNums (mkOf L1))) W := fun W hW => Str.of (y5.new hW)
  have qb : ∀ W, New w5 W → (convert 23 9 (.slice B j d)).run Try.prog W = .ok (.string (strOfNums b)) W := fun W hW => Str.of (b5.new hW)
  have qu : ∀ W, New w5 W → (convert 23 9 (.slice Au nu cu)).run Try.prog W = .ok (.string (strOfNums (fdOf b (byt L1)))) W := fun W hW => Str.of (u5.new hW)
  have qv : ∀ W, New w5 W → (convert 23 9 (.slice Av nv cv)).run Try.prog W = .ok (.string (strOfNums (fdOf b (byt L1)))) W := fun W hW => Str.of (hv.new hW)
  have Q := hide (And.intro qx (And.intro qy (And.intro qb (And.intro qu qv))))
  clear qx qy qb qu qv
  by_cases hp : isP L1
  · have hE : erM L1 = 0 := by rw [erM, if_pos hp]
    have hM : mkOf L1 = makeOf (byt L1) := by rw [mkOf, if_pos hp]
    have q1 := Q.out.1 w5 (Ext.refl _ _)
    have q2 := Q.out.2.1 w5 (Ext.refl _ _)
    have hd1 : decide (isP L1 ∧ makeOf (byt L1) = mkOf L1) = true := decide_eq_true ⟨hp, hM.symm⟩
    have HM := hide hM
    clear hM
    go_wp2_with fail
    refine (check_any B j d b A1 n1 c1 L1 _ b5 R5).mono ?_
    rintro e w6 ⟨rfl, hn6⟩
    by_cases hkb : makeOf (byt L1) = b
    · have hd2 : decide (isP L1 ∧ makeOf (byt L1) = b) = true := decide_eq_true ⟨hp, hkb⟩
      rw [hd2]
      have hbm : b = mkOf L1 := by rw [HM.out, hkb]
      have q3 := Q.out.2.2.1 w6 hn6
      have q4 := Q.out.2.1 w6 hn6
      rw [hbm] at q3
      have HK := hide hkb
      have HB := hide hbm
      clear hkb hbm hd2
      go_wp2_with fail
      refine (check_any Ax nx cx (mkOf L1) A1 n1 c1 L1 _ (x5.new hn6) (R5.new hn6)).mono ?_
      rintro e w7 ⟨rfl, hn7⟩
      rw [hd1]
      have hn57 := hn6.then hn7
      have r1 := Q.out.2.2.2.1 w7 hn57
      have r2 := Q.out.2.2.2.2 w7 hn57
      go_wp2_with fail
      refine (awake_any _).mono ?_
      rintro e w8 ⟨rfl, hn8⟩
      go_wp2_with fail
      go_ret
      exact ⟨rfl, hn05.then (hn57.then hn8)⟩
    · have hd2 : decide (isP L1 ∧ makeOf (byt L1) = b) = false := decide_eq_false (fun hh => hkb hh.2)
      rw [hd2]
      have q3 := Q.out.2.2.1 w6 hn6
      have q4 := Q.out.2.1 w6 hn6
      have hMB : isB (mkOf L1) := by
        rw [HM.out]
        exact isB.append (hdOf_b _) (foldOf_b _ (R5.allB))
      have hne := str_ne (fun hh => hkb (by rw [← HM.out]; exact (strOf_inj hbB hMB hh).symm) : ¬ strOfNums b = strOfNums (mkOf L1))
      clear hkb hd2
      go_wp2_with fail
      refine (check_any Ax nx cx (mkOf L1) A1 n1 c1 L1 _ (x5.new hn6) (R5.new hn6)).mono ?_
      rintro e w7 ⟨rfl, hn7⟩
      rw [hd1]
      have hn57 := hn6.then hn7
      have r1 := Q.out.2.2.2.1 w7 hn57
      have r2 := Q.out.2.2.2.2 w7 hn57
      go_wp2_with fail
      refine (awake_any _).mono ?_
      rintro e w8 ⟨rfl, hn8⟩
      go_wp2_with fail
      go_ret
      exact ⟨rfl, hn05.then (hn57.then hn8)⟩
  · have hE : erM L1 = 360 := by rw [erM, if_neg hp]
    have q1 := Q.out.1 w5 (Ext.refl _ _)
    have q2 := Q.out.2.1 w5 (Ext.refl _ _)
    go_wp2_with fail
    refine (check_any B j d b A1 n1 c1 L1 _ b5 R5).mono ?_
    rintro e w6 ⟨rfl, hn6⟩
    rw [decide_eq_false (show ¬ (isP L1 ∧ makeOf (byt L1) = b) from fun hh => hp hh.1)]
    have r1 := Q.out.2.2.2.1 w6 hn6
    have r2 := Q.out.2.2.2.2 w6 hn6
    go_wp2_with fail
    refine (awake_any _).mono ?_
    rintro e w8 ⟨rfl, hn8⟩
    go_wp2_with fail
    go_ret
    exact ⟨rfl, hn05.then (hn6.then hn8)⟩
end Go.Proofs.Ytkcdpnmdhmihaaa
