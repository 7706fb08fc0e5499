/- The law on rows. -/
import Derived.Test.YtkiplbhnnjfjaaaS18
import Derived.Test.YtkiplbhnnjfjaaaS17
namespace Go.Proofs.Ytkiplbhnnjfjaaa
set_option linter.unusedVariables false
set_option linter.unusedSimpArgs false
open Go.RowKit
set_option maxRecDepth 100000

set_option maxHeartbeats 4000000 in
theorem rows_walk (A : Option Addr) (n c : Nat) (a : List Rg) (B : Option Addr) (m d : Nat) (b : List Rg) (x most : Int) (w : World) (h : Rd w 2 A n c (kcs a)) (g : Rd w 2 B m d (kcs b)) :
    Calls Try.prog 5 #[.slice A n c, .slice B m d, .int .i64 x, .int .i64 most] w fun e w' => e = .returned (.bool true) ∧ New w w' := by
  go_enter Try.func5, Try.ntmps5
  go_wp2_with fail
  refine (few_c A n c a _ h).mono ?_
  rintro e w1 ⟨rfl, h1, rfl⟩
  go_wp2_with fail
  refine (few_c B m d b _ g).mono ?_
  rintro e w1 ⟨rfl, g1, rfl⟩
  have la := few_len a
  have lb := few_len b
  generalize fewL a = a at *
  generalize fewL b = b at *
  clear h g
  go_upto_if 19 with (fail)
  go_cut [3] (fun v3 wc => w = wc ∧ ∃ q : Int, v3 = .int .i64 q ∧ q ≤ 5000)
  case first =>
    by_cases hm : 5000 < most
    · have e1 : decide (5000 < most) = true := decide_eq_true hm
      have hm0 : 0 ≤ most := by omega
      go_wp2_with fail
      go_meet
      exact ⟨rfl, _, rfl, by omega⟩
    · have e1 : decide (5000 < most) = false := decide_eq_false hm
      go_wp2_with fail
      go_meet
      exact ⟨rfl, _, rfl, by omega⟩
  case rest =>
    obtain ⟨rfl, q, rfl, hq⟩ := hcut
    have hcap := h1.cap
    go_wp2_with fail
    refine (of_c h1 (by omega)).mono ?_
    rintro e w2 ⟨A2, c2, rfl, ho2, hn2⟩
    go_wp2_with fail
    refine (numbers_c q A2 _ c2 a _ ho2.rd (by omega) hq).mono ?_
    rintro e w3 ⟨A3, c3, rfl, hr3, hn3⟩
    have N3 := hn2.then hn3
    clear ho2 hn2 hn3
    go_wp2_with fail
    refine (rnumbers_c q A _ c a _ (h1.new N3) (by omega) hq).mono ?_
    rintro e w4 ⟨A4, c4, rfl, hr4, hn4⟩
    have N4 := N3.then hn4
    replace hr3 := hr3.new hn4
    clear N3 hn4
    have lv := numV_len q a hq
    generalize numV q a = v at *
    have hk : fst_ a.length x ≤ a.length := by unfold fst_; omega
    have s1 := run_cut_h (P := Try.prog) 32 53 2 Try.underlying32 (by kernel_rfl) A a.length c (max 0 (min (a.length : Int) x)) (fst_ a.length x) (by unfold fst_; omega) (by omega) .i64
    have hfi := first_c (l := a) (m := x) (n := a.length)
    generalize hfk : fst_ a.length x = k at *
    have HFK := hide hfk
    clear hfk
    go_wp2_with fail
    refine (of_c (h1.new N4) (by omega)).mono ?_
    rintro e w5 ⟨A5, c5, rfl, ho5, hn5⟩
    go_wp2_with fail
    refine (check_c ho5.rd (by omega)).mono ?_
    rintro e w6 ⟨rfl, hn6⟩
    have N6 := N4.then (hn5.then hn6)
    replace hr3 := hr3.new (hn5.then hn6)
    replace hr4 := hr4.new (hn5.then hn6)
    clear ho5 hn5 hn6 N4
    go_wp2_with fail
    refine (rcheck_c (h1.new N6) (by omega)).mono ?_
    rintro e w7 ⟨rfl, hn7⟩
    have N7 := N6.then hn7
    replace hr3 := hr3.new hn7
    replace hr4 := hr4.new hn7
    clear hn7 N6
    have ec : (chk a == chk a) = true := by simp
    go_wp2_with fail
    refine (sameInts_c A3 _ c3 v.1 A4 _ c4 v.1 _ hr3 hr4 (by omega)).mono ?_
    rw [decide_eq_true (rfl : v.1 = v.1)]
    rintro e w8 ⟨rfl, hn8⟩
    have N8 := N7.then hn8
    clear hn8 N7 hr3 hr4 ec
    have ev : (v.2 == v.2) = true := by simp
    go_wp2_with fail
    refine (of_c (h1.new N8) (by omega)).mono ?_
    rintro e w9 ⟨A9, c9, rfl, ho9, hn9⟩
    go_wp2_with fail
    refine (has_c A9 _ c9 a x _ ho9.rd (by omega)).mono ?_
    rintro e wa ⟨rfl, hna⟩
    have Na := N8.then (hn9.then hna)
    clear ho9 hn9 hna N8 ev
    go_wp2_with fail
    refine (rhas_c (h1.new Na) (by omega) x).mono ?_
    rintro e wb ⟨rfl, hnb⟩
    have Nb := Na.then hnb
    clear hnb Na
    have eh : (decide (Hs a x) == decide (Hs a x)) = true := by simp
    go_wp2_with fail
    refine (of_c (h1.new Nb) (by omega)).mono ?_
    rintro e wd ⟨Ad, cd, rfl, hod, hnd⟩
    go_wp2_with fail
    refine (count_c hod.rd (by omega)).mono ?_
    rintro e we ⟨rfl, hne⟩
    have Ne := Nb.then (hnd.then hne)
    clear hod hnd hne Nb eh
    go_wp2_with fail
    refine (rcount_c (h1.new Ne) (by omega)).mono ?_
    rintro e wf ⟨rfl, hnf⟩
    have Nf := Ne.then hnf
    clear hnf Ne
    have et : (cnt a == cnt a) = true := by simp
    go_wp2_with fail
    refine (of_c (h1.new Nf) (by omega)).mono ?_
    rintro e wg ⟨Ag, cg, rfl, hog, hng⟩
    go_wp2_with fail
    refine (hfi Ag cg _ hog.rd (by omega)).mono ?_
    rintro e wh ⟨Ah, ch, rfl, hrh, hnh⟩
    go_wp2_with fail
    refine (back_c hrh (by omega)).mono ?_
    rintro e wi ⟨Ai, ci, rfl, hoi, hni⟩
    have Ni := Nf.then (hng.then (hnh.then hni))
    clear hog hng hnh hni Nf et hrh hfi
    go_wp2_with fail
    refine (rsame_c Ai A _ ci k c (a.take k) (a.take k) _ hoi.rd ((h1.new Ni).takek k hk) (by omega) true (by simp)).mono ?_
    rintro e wj ⟨rfl, hnj⟩
    have Nj := Ni.then hnj
    clear hoi hnj Ni
    go_wp2_with fail
    refine (of_c (h1.new Nj) (by omega)).mono ?_
    rintro e wk ⟨Ak, ck, rfl, hok, hnk⟩
    go_wp2_with fail
    refine (of_c ((g1.new Nj).new hnk) (by omega)).mono ?_
    rintro e wl ⟨Al, cl, rfl, hol, hnl⟩
    go_wp2_with fail
    refine (same_c Ak Al _ ck _ cl a b _ (hok.rd.new hnl) hol.rd (by omega) _ rfl).mono ?_
    rintro e wm ⟨rfl, hnm⟩
    have Nm := Nj.then (hnk.then (hnl.then hnm))
    clear hok hol hnk hnl hnm Nj
    go_wp2_with fail
    refine (rsame_c A B _ c _ d a b _ (h1.new Nm) (g1.new Nm) (by omega) _ rfl).mono ?_
    rintro e wn ⟨rfl, hnn⟩
    have Nn := Nm.then hnn
    clear hnn Nm
    have es : (decide (a = b) == decide (a = b)) = true := by simp
    go_wp2_with fail
    refine (of_c (h1.new Nn) (by omega)).mono ?_
    rintro e wo ⟨Ao, co, rfl, hoo, hno⟩
    go_wp2_with fail
    refine (of_c ((h1.new Nn).new hno) (by omega)).mono ?_
    rintro e wp ⟨Ap, cp, rfl, hop, hnp⟩
    go_wp2_with fail
    refine (same_c Ao Ap _ co _ cp a a _ (hoo.rd.new hnp) hop.rd (by omega) true (by simp)).mono ?_
    rintro e wq ⟨rfl, hnq⟩
    have Nq := Nn.then (hno.then (hnp.then hnq))
    clear hoo hop hno hnp hnq Nn es
    go_wp2_with fail
    refine (awake_c _).mono ?_
    rintro e wr ⟨rfl, hnr⟩
    go_wp2_with fail
    go_ret
    exact ⟨rfl, Nq.then hnr⟩
theorem law_rows (A : Option Addr) (n c : Nat) (a : List Rg) (B : Option Addr) (m d : Nat) (b : List Rg) (x most : Int) (w : World) (h : Rd w 2 A n c (kcs a)) (_ : True) (g : Rd w 2 B m d (kcs b)) (_ : True) (_ : (Lit.int .i64 x).wf = true) (_ : (Lit.int .i64 most).wf = true) :
    Calls Try.prog 5 #[.slice A n c, .slice B m d, .int .i64 x, .int .i64 most] w fun e w' => e = .returned (.bool true) ∧ New w w' := rows_walk A n c a B m d b x most w h g
end Go.Proofs.Ytkiplbhnnjfjaaa
