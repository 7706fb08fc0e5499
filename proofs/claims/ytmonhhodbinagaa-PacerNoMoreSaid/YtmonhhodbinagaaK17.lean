/- The law on those that wait behind urgent ones. -/
import Derived.Test.YtmonhhodbinagaaK16
import Derived.Test.YtmonhhodbinagaaW
namespace Go.Proofs.Ytmonhhodbinagaa
open Go.RowKit Go.Maps
set_option maxRecDepth 100000

/-- Where a law stands. -/
def PnAt (w wr : World) (p : Nat) (s : PS) : Prop := Pn (fun k => w.heap.size ≤ k) wr p s ∧ New w wr
theorem PnAt.step {w wr wr' : World} {p : Nat} {s s' : PS} (h : PnAt w wr p s) (hp : Pn (fun k => w.heap.size ≤ k) wr' p s') (he : Ext (fun k => w.heap.size ≤ k) wr wr') : PnAt w wr' p s' := ⟨hp, h.2.trans he (fun k hk e => by omega)⟩
theorem PnAt.new {w wr wr' : World} {p : Nat} {s : PS} (h : PnAt w wr p s) (he : New wr wr') : PnAt w wr' p s := ⟨h.1.new he, h.2.then he⟩
/-- Beside a key's block. -/
structure PnK (w wr : World) (p : Nat) (s : PS) (X : Nat) (k : Int × Int) : Prop where
  pn : Pn (fun j => w.heap.size ≤ j ∧ j ≠ X) wr p s
  n : New w wr
  k : wr.heap[X]? = some (.cells #[.int .i64 k.1, .int .i64 k.2] 30)
theorem PnAt.key {w wr : World} {p : Nat} {s : PS} (h : PnAt w wr p s) (k : Int × Int) : PnK w (wr.alloc (.cells #[.int .i64 k.1, .int .i64 k.2] 30)) p s wr.heap.size k := ⟨h.1.apart, h.2.then (New.alloc1 _ _), blk_new _ _⟩
theorem PnK.step {w wr wr' : World} {p X : Nat} {k : Int × Int} {s s' : PS} (h : PnK w wr p s X k) (hp : Pn (fun j => w.heap.size ≤ j ∧ j ≠ X) wr' p s') (he : Ext (fun j => w.heap.size ≤ j ∧ j ≠ X) wr wr') : PnK w wr' p s' X k := ⟨hp, h.n.trans he (fun k hk e => by omega), he.keep h.k (fun e => e.2 rfl)⟩
theorem PnK.to {w wr : World} {p X : Nat} {k : Int × Int} {s : PS} (h : PnK w wr p s X k) : PnAt w wr p s := ⟨h.pn.wide (fun _ hk => hk.1), h.n⟩

set_option maxHeartbeats 4000000 in
theorem law_starves (a b c : Int) (w : World) (wa : (Lit.int .u8 a).wf = true) (wb : (Lit.int .u8 b).wf = true) (wc : (Lit.int .u8 c).wf = true) :
    Calls Try.prog 4 #[.int .u8 a, .int .u8 b, .int .u8 c] w fun e w' => e = .returned (.bool true) ∧ New w w' := by
  have ha := wf_of_u8 wa
  have hb := wf_of_u8 wb
  have hc := wf_of_u8 wc
  obtain ⟨a, rfl⟩ : ∃ k : Nat, a = k := ⟨a.toNat, by omega⟩
  obtain ⟨b, rfl⟩ : ∃ k : Nat, b = k := ⟨b.toNat, by omega⟩
  obtain ⟨c, rfl⟩ : ∃ k : Nat, c = k := ⟨c.toNat, by omega⟩
  obtain ⟨n, hn⟩ : ∃ k, k = 1 + a % 6 := ⟨_, rfl⟩
  obtain ⟨m, hm⟩ : ∃ k, k = b % 6 := ⟨_, rfl⟩
  obtain ⟨T, hT⟩ : ∃ k, k = c % 20 := ⟨_, rfl⟩
  have hn1 : 1 ≤ n := by omega
  have hn6 : n ≤ 6 := by omega
  have hm5 : m ≤ 5 := by omega
  have hT20 : T < 20 := by omega
  have en : (1 : Int) + (a : Int) % 6 = n := by omega
  have em : (b : Int) % 6 = m := by omega
  have eT : (c : Int) % 20 = T := by omega
  have HN := hide en
  have HM := hide em
  have HT := hide eT
  clear wa wb wc hn hm hT en em eT
  go_enter Try.func4, Try.ntmps4
  go_wp2_with fail
  refine (new_n 20 _ (by omega) (by omega)).mono ?_
  rintro e w1 ⟨p, rfl, h1, hn1'⟩
  have hF : PnAt w w1 p (fresh 20) := ⟨h1, hn1'⟩
  clear h1 hn1'
  go_wp2_with fail
  refine (awake_p _).mono ?_
  rintro e w2 ⟨rfl, hn2⟩
  replace hF := hF.new hn2
  clear hn2
  go_wp2_with fail
  rw [HN.out, HM.out]
  go_loopw [11] (fun s11 wr => ∃ (i : Nat) (s : PS), i ≤ m ∧ s11 = .int .i64 i ∧ PnAt w wr p s ∧ S1 i s) (fun a _ => m - (intOf a).toNat)
  case atStart => exact ⟨0, _, by omega, rfl, hF, S1.zero⟩
  case round =>
    clear hF
    obtain ⟨i, s, hi, rfl, h, hs⟩ := hrel
    by_cases him : i < m
    · have d1 : decide ((i : Int) < m) = true := decide_eq_true (by omega)
      have d1n : decide (i < m) = true := decide_eq_true (by omega)
      have hk := h.key ((i : Int), 1)
      go_wp2_with fail
      refine (know_n hk.pn ((i : Int), 1) 1 (s1_may (by omega)) (.inr rfl) (hs.new i (Nat.le_refl _)) (by rw [hs.len, hs.sv.most]; omega)).mono ?_
      rintro e w3 ⟨rfl, hp3, he3⟩
      have h3 := hk.step hp3 he3
      clear hk hp3 he3
      have k0 := (blk_cell h3.k 0).trans rfl
      have k1 := (blk_cell h3.k 1).trans rfl
      go_wp2_with fail
      refine (owe_n h3.pn ((i : Int), 1) 1000 ⟨((i : Int), 1), 1, 0, 0⟩ (know_fnd s _ _ (hs.new i (Nat.le_refl _))) (by omega) (by dsimp only; omega)).mono ?_
      rintro e w4 ⟨rfl, hp4, he4⟩
      have h4 := (h3.step hp4 he4).to
      clear k0 k1 h3 hp4 he4
      go_wp2_with fail
      exact ⟨⟨i + 1, _, by omega, by go_num, h4, hs.next (by omega)⟩, by simp [intOf]; omega⟩
    · have d1 : decide ((i : Int) < m) = false := decide_eq_false (by omega)
      have d1n : decide (i < m) = false := decide_eq_false (by omega)
      obtain rfl : i = m := by omega
      have hs2 := hs.done
      clear hs
      go_wp2_with fail
      go_loopw [13] (fun s13 wr => ∃ (t : Nat) (s : PS), t ≤ T ∧ s13 = .int .i64 t ∧ PnAt w wr p s ∧ S2 i t s) (fun a _ => T - (intOf a).toNat)
      case atStart => exact ⟨0, s, by omega, rfl, h, hs2⟩
      case round =>
        clear h hs2 s
        obtain ⟨t, s, htT, rfl, h, hs⟩ := hrel
        by_cases hlt : t < T
        · have d1 : decide ((t : Int) < (c : Int) % 20) = true := decide_eq_true (by rw [HT.out]; omega)
          go_wp2_with fail
          by_cases hz : s.u 0 = [] ∧ s.u 1 = []
          · refine (tick_nno h.1 hz.1 hz.2).mono ?_
            rintro e w3 ⟨rfl, hp3, he3⟩
            have h3 := h.step hp3 he3
            clear hz
            go_wp2_with fail
            exact ⟨⟨t + 1, s, by omega, by go_num, h3, hs.later⟩, by simp [intOf]; omega⟩
          · have hsome : ∃ s' x, tickS s = some (s', x) := by
              by_cases h0 : s.u 0 = []
              · exact hs.sv.wf.tick_some (c := 1) (by omega) (fun e => hz ⟨h0, e⟩)
              · exact hs.sv.wf.tick_some (c := 0) (by omega) h0
            obtain ⟨s', x, hx⟩ := hsome
            have hs' := hs.tick hx
            have HX := hide hx
            clear hx hz
            refine (tick_n h.1 HX.out (by have := hs.tot; omega) x.k.1 x.k.2 (x.iss + 1) rfl rfl).mono ?_
            rintro e w3 ⟨rfl, hp3, he3⟩
            have h3 := h.step hp3 he3
            go_wp2_with fail
            exact ⟨⟨t + 1, s', by omega, by go_num, h3, hs'⟩, by simp [intOf]; omega⟩
        · have d1 : decide ((t : Int) < (c : Int) % 20) = false := decide_eq_false (by rw [HT.out]; omega)
          have hs3 := hs.done (by omega)
          clear hs
          go_wp2_with fail
          go_loopw [14] (fun s14 wr => ∃ (j : Nat) (s : PS), j ≤ n ∧ s14 = .int .i64 j ∧ PnAt w wr p s ∧ S3 i j s) (fun a _ => n - (intOf a).toNat)
          case atStart => exact ⟨0, s, by omega, rfl, h, hs3⟩
          case round =>
            clear h hs3 s
            obtain ⟨j, s, hjn, rfl, h, hs⟩ := hrel
            by_cases hlt : j < n
            · have d1 : decide ((j : Int) < n) = true := decide_eq_true (by omega)
              have d1n : decide (j < n) = true := decide_eq_true (by omega)
              have hk := h.key ((j : Int), 2)
              go_wp2_with fail
              refine (know_n hk.pn ((j : Int), 2) 0 (s2_may (by omega)) (.inl rfl) (hs.pl j (Nat.le_refl _)) (by rw [hs.len, hs.sv.most]; omega)).mono ?_
              rintro e w3 ⟨rfl, hp3, he3⟩
              have h3 := hk.step hp3 he3
              clear hk hp3 he3
              have k0 := (blk_cell h3.k 0).trans rfl
              have k1 := (blk_cell h3.k 1).trans rfl
              go_wp2_with fail
              refine (owe_n h3.pn ((j : Int), 2) (1 + (j : Int)) ⟨((j : Int), 2), 0, 0, 0⟩ (know_fnd s _ _ (hs.pl j (Nat.le_refl _))) (by omega) (by dsimp only; omega)).mono ?_
              rintro e w4 ⟨rfl, hp4, he4⟩
              have h4 := (h3.step hp4 he4).to
              clear k0 k1 h3 hp4 he4
              go_wp2_with fail
              exact ⟨⟨j + 1, _, by omega, by go_num, h4, hs.next (by omega) (by omega) _ (by omega) (by omega)⟩, by simp [intOf]; omega⟩
            · have d1 : decide ((j : Int) < n) = false := decide_eq_false (by omega)
              have d1n : decide (j < n) = false := decide_eq_false (by omega)
              obtain rfl : j = n := by omega
              have hs4 := hs.done
              clear hs
              go_wp2_with fail
              go_loopw [16] (fun s16 wr => ∃ (t : Nat) (s : PS), t ≤ 5 * j ∧ s16 = .int .i64 t ∧ PnAt w wr p s ∧ S4 i j t s) (fun a _ => 5 * j - (intOf a).toNat)
              case atStart => exact ⟨0, s, by omega, rfl, h, hs4⟩
              case round =>
                clear h hs4 s
                obtain ⟨t, s, htT, rfl, h, hs⟩ := hrel
                by_cases hlt : t < 5 * j
                · have d1 : decide ((t : Int) < 5 * j) = true := decide_eq_true (by omega)
                  go_wp2_with fail
                  by_cases hz : s.u 0 = [] ∧ s.u 1 = []
                  · refine (tick_nno h.1 hz.1 hz.2).mono ?_
                    rintro e w3 ⟨rfl, hp3, he3⟩
                    have h3 := h.step hp3 he3
                    have hs' := hs.later hz.1
                    have hi0 : i = 0 := by
                      rcases Nat.eq_zero_or_pos i with e | e
                      · exact e
                      · exact absurd hz.2 (hs.sv.u1 e (by have := hs.tot; omega))
                    have i0 : decide (0 < (i : Int)) = false := decide_eq_false (by omega)
                    have i0n : decide (0 < i) = false := decide_eq_false (by omega)
                    clear hz hi0
                    go_wp2_with fail
                    exact ⟨⟨t + 1, s, by omega, by go_num, h3.new (New.alloc1 _ _), hs'⟩, by simp [intOf]; omega⟩
                  · have hsome : ∃ s' x, tickS s = some (s', x) := by
                      by_cases h0 : s.u 0 = []
                      · exact hs.sv.wf.tick_some (c := 1) (by omega) (fun e => hz ⟨h0, e⟩)
                      · exact hs.sv.wf.tick_some (c := 0) (by omega) h0
                    obtain ⟨s', x, hx⟩ := hsome
                    have hs' := hs.tick hx
                    have HX := hide hx
                    clear hx hz
                    refine (tick_n h.1 HX.out (by have := hs.tot; omega) x.k.1 x.k.2 (x.iss + 1) rfl rfl).mono ?_
                    rintro e w3 ⟨rfl, hp3, he3⟩
                    have h3 := h.step hp3 he3
                    go_wp2_with fail
                    exact ⟨⟨t + 1, s', by omega, by go_num, h3.new (New.alloc1 _ _), hs'⟩, by simp [intOf]; omega⟩
                · have d1 : decide ((t : Int) < 5 * j) = false := decide_eq_false (by omega)
                  have hend : ∀ q : Nat, q < j → 1 ≤ (ofK s.L ((q : Int), (2 : Int))).iss := by
                    have ht5 : t = 5 * j := by omega
                    rw [ht5] at hs
                    exact hs.end_
                  have HE := hide hend
                  clear hend
                  go_wp2_with fail
                  go_loopw [19] (fun s19 wr => ∃ (q : Nat), q ≤ j ∧ s19 = .int .i64 q ∧ PnAt w wr p s) (fun a _ => j - (intOf a).toNat)
                  case atStart => exact ⟨0, by omega, rfl, h⟩
                  case round =>
                    clear h
                    obtain ⟨q, hq, rfl, h⟩ := hrel
                    by_cases hlt : q < j
                    · have e1 : decide ((q : Int) < j) = true := decide_eq_true (by omega)
                      have e1n : decide (q < j) = true := decide_eq_true (by omega)
                      obtain ⟨v, hv⟩ : ∃ v, v = (ofK s.L ((q : Int), (2 : Int))).iss := ⟨_, rfl⟩
                      have hv1 := HE.out q hlt
                      rw [← hv] at hv1
                      have HV := hide hv
                      clear hv
                      have e2 : decide (v < 1) = false := decide_eq_false (by omega)
                      go_wp2_with fail
                      refine (issued_n h.1 ((q : Int), 2) (s2_may (by omega)).wf v HV.out).mono ?_
                      rintro e w5 ⟨rfl, hn5⟩
                      go_wp2_with fail
                      exact ⟨⟨q + 1, by omega, by go_num, h.new hn5⟩, by simp [intOf]; omega⟩
                    · have e1 : decide ((q : Int) < j) = false := decide_eq_false (by omega)
                      have e1n : decide (q < j) = false := decide_eq_false (by omega)
                      go_wp2_with fail
                      go_ret
                      exact ⟨rfl, h.2⟩
end Go.Proofs.Ytmonhhodbinagaa
