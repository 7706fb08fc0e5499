/- What may be of several rows; what calls on rows give back, plain and walked: the program's Of, Add, Union. -/
import Derived.Test.YtkiplbhnnjfjaaaS10
namespace Go.Proofs.Ytkiplbhnnjfjaaa
set_option linter.unusedVariables false
set_option linter.unusedSimpArgs false
open Go.RowKit Go.Proofs.YtkiplbhnnjfjaaaW.PrintWords Go.Proofs.YtkiplbhnnjfjaaaW.PrintLast Go.Proofs.YtkiplbhnnjfjaaaW.PrintMore Go.Proofs.Ytkiplbhnnjfjaaa.PP
set_option maxRecDepth 100000

def chk2 (a b : List Rg) : Int := if chk a = 0 then chk b else chk a
theorem chk_zero {l : List Rg} (h : chk l = 0) : l.length ≤ 256 ∧ Ord (-1) l := by
  unfold chk at h
  split at h
  · cases h
  · split at h
    · exact ⟨by omega, by assumption⟩
    · cases h
theorem chk2_zero {a b : List Rg} (h : chk2 a b = 0) : chk a = 0 ∧ chk b = 0 := by
  unfold chk2 at h
  split at h
  · exact ⟨by assumption, h⟩
  · contradiction
/-- What a call hands back that makes a row, or refuses. -/
def Res2 (r : List Rg × Int) (w : World) (e : Ending) (w' : World) : Prop := ∃ A' c', e = .returned (.tuple #[.slice A' r.1.length c', .int .i64 r.2]) ∧ Rd w' 2 A' r.1.length c' (kcs r.1) ∧ New w w'
theorem Res2.none (x : Int) {w w' : World} (h : New w w') : Res2 ([], x) w (.returned (.tuple #[.slice none 0 0, .int .i64 x])) w' := ⟨_, _, rfl, Rd.nil _ _, h⟩
def cellsOf2 (w : World) (ad : Addr) (A : Option Addr) (n c : Nat) (l : List Rg) (j : Nat) : Prop := w.cell? (ad.add j) = some (.slice A n c) ∧ Rd w 2 A n c (kcs l)
theorem rows_kd {w : World} {ad : Addr} {ls : List (List Rg)} (h : ∀ j l, ls[j]? = some l → ∃ A n c, w.cell? (ad.add j) = some (.slice A n c) ∧ Rd w 2 A n c (kcs l)) (hn : ls.length ≤ 1000) : Kd.C (Kd.slice 30 k30) w (some ad) (ls.map (List.map mkP)).length (ls.map (List.map mkP)) := by
  refine ⟨rfl, by rw [List.length_map]; omega, fun _ => ⟨ad, rfl, fun j p hj => ?_⟩⟩
  rw [List.getElem?_map] at hj
  obtain ⟨l, hl, rfl⟩ := Option.map_eq_some_iff.1 hj
  obtain ⟨A, n, c, hc, hr⟩ := h j l hl
  obtain ⟨h1, h2, h3⟩ := rowP hr
  refine ⟨[.slice A (l.map mkP).length c], rfl, ⟨A, c, rfl, h2, h1⟩, fun i u hu => ?_⟩
  match i, hu with
  | 0, hu =>
    cases hu
    rw [h3]
    show w.cell? (ad.add (j * 1 + 0)) = _
    rw [Nat.mul_one, Nat.add_zero]
    exact hc
theorem checked1_v (a : List Rg) (ha : a.length ≤ 1000000) (k : Nat) (hk : 1000000 < k) : sack_checked.f (k + 3) [a.map mkP] = some (chk a) := by
  have hw0 : wrap64 (0 + 1) = 1 := by unfold wrap64; omega
  unfold sack_checked.f
  simp only [sack_checked.l0, List.length_cons, List.length_nil]
  rw [if_pos (by omega), if_pos (by omega), if_pos (by omega), show rd_L2 [a.map mkP] 0 = a.map mkP from rfl, check_v a (by omega) _ (by omega), Option.bind_some]
  by_cases h : chk a = 0
  · rw [if_pos h, hw0, if_neg (by omega), h]
  · rw [if_neg h]
theorem checked2_v (a b : List Rg) (ha : a.length ≤ 1000000) (hb : b.length ≤ 1000000) (k : Nat) (hk : 1000000 < k) : sack_checked.f (k + 3) [a.map mkP, b.map mkP] = some (chk2 a b) := by
  have hw0 : wrap64 (0 + 1) = 1 := by unfold wrap64; omega
  have hw1 : wrap64 (1 + 1) = 2 := by unfold wrap64; omega
  unfold sack_checked.f chk2
  simp only [sack_checked.l0, List.length_cons, List.length_nil]
  rw [if_pos (by omega), if_pos (by omega), if_pos (by omega), show rd_L2 [a.map mkP, b.map mkP] 0 = a.map mkP from rfl, check_v a (by omega) _ (by omega), Option.bind_some]
  by_cases h : chk a = 0
  · rw [if_pos h, if_pos h, hw0, if_pos (by omega), if_pos (by omega), if_pos (by omega), show rd_L2 [a.map mkP, b.map mkP] 1 = b.map mkP from rfl, check_v b (by omega) _ (by omega), Option.bind_some]
    by_cases h2 : chk b = 0
    · rw [if_pos h2, hw1, if_neg (by omega), h2]
    · rw [if_neg h2]
  · rw [if_neg h, if_neg h]
theorem checked1_c (ad : Addr) (c : Nat) (A : Option Addr) (n d : Nat) (l : List Rg) (w : World) (hr : Rd w 1 (some ad) 1 c [.slice A n d]) (h : Rd w 2 A n d (kcs l)) (hn : n ≤ 1000000) :
    Calls Try.prog 40 #[.slice (some ad) 1 c] w fun e w' => e = .returned (.int .i64 (chk l)) ∧ New w w' := by
  have hl := h.lenk
  have hk := rows_kd (w := w) (ad := ad) (ls := [l]) (fun j x hx => by
    match j, hx with
    | 0, hx => cases hx; exact ⟨A, n, d, hr.cell ad rfl 0 _ rfl, h⟩) (by simp)
  have := sack_checked.calls (1000001 + 3) (some ad) c _ _ w hk (by have := hr.cap; simpa using this) (checked1_v l (by omega) 1000001 (by omega))
  exact this.mono fun _ _ ⟨he, hb⟩ => ⟨he, New.of_below hb⟩
theorem checked2_c (ad : Addr) (c : Nat) (A B : Option Addr) (n d m e : Nat) (a b : List Rg) (w : World) (hr : Rd w 1 (some ad) 2 c [.slice A n d, .slice B m e]) (h : Rd w 2 A n d (kcs a)) (g : Rd w 2 B m e (kcs b)) (hn : n ≤ 1000000) (hm : m ≤ 1000000) :
    Calls Try.prog 40 #[.slice (some ad) 2 c] w fun e w' => e = .returned (.int .i64 (chk2 a b)) ∧ New w w' := by
  have hl := h.lenk
  have gl := g.lenk
  have hk := rows_kd (w := w) (ad := ad) (ls := [a, b]) (fun j x hx => by
    match j, hx with
    | 0, hx => cases hx; exact ⟨A, n, d, hr.cell ad rfl 0 _ rfl, h⟩
    | 1, hx => cases hx; exact ⟨B, m, e, hr.cell ad rfl 1 _ rfl, g⟩) (by simp)
  have := sack_checked.calls (1000001 + 3) (some ad) c _ _ w hk (by have := hr.cap; simpa using this) (checked2_v a b (by omega) (by omega) 1000001 (by omega))
  exact this.mono fun _ _ ⟨he, hb⟩ => ⟨he, New.of_below hb⟩
def ofP (xs : List Int) : List Rg × Int := if ∀ x ∈ xs, 0 ≤ x ∧ x < tp then bnd (joined_ (xs.map num)) else ([], 5)
def addP (l : List Rg) (r : Rg) : List Rg × Int := if chk l = 0 then (if One r then bnd (joined_ (l ++ [r])) else ([], 5)) else ([], chk l)
def uniP (a b : List Rg) : List Rg × Int := if chk2 a b = 0 then bnd (joined_ (a ++ b)) else ([], chk2 a b)
def minP (a b : List Rg) : List Rg × Int := if chk2 a b = 0 then bnd (joined_ (mnus a b)) else ([], chk2 a b)
def gapP (l : List Rg) (r : Rg) : List Rg × Int := if chk l = 0 then (if One r then bnd (joined_ (mnus [r] l)) else ([], 5)) else ([], chk l)
theorem bnd_len (l : List Rg) : (bnd l).1.length ≤ l.length := by
  unfold bnd
  split <;> simp
theorem row_r {A : Option Addr} {n c : Nat} {l : List Rg} {w : World} (h : Rd w 2 A n c (kcs l)) (hn : n ≤ 1000000) : Calls Try.prog 39 #[.slice A n c] w (Res2 (bnd (joined_ l)) w) :=
  (row_c A n c l w h hn).mono fun _ _ ⟨A', c', he, ho, hn⟩ => ⟨A', c', he, ho.rd, hn⟩
set_option maxHeartbeats 800000 in
theorem uni_c (A B : Option Addr) (n c m d : Nat) (a b : List Rg) (w : World) (h : Rd w 2 A n c (kcs a)) (g : Rd w 2 B m d (kcs b)) (hn : n ≤ 400000) (hm : m ≤ 400000) :
    Calls Try.prog 29 #[.slice A n c, .slice B m d] w (Res2 (uniP a b) w) := by
  have hrl := rd_lit w 23 1 2 #[.slice A n c, .slice B m d] (by omega) rfl (by simp [Value.oneCell'])
  have hnl := New.alloc1 w (.cells #[.slice A n c, .slice B m d] 23)
  go_enter Try.func29, Try.ntmps29
  go_wp2_with fail
  refine (checked2_c _ _ A B n c m d a b _ hrl (h.new hnl) (g.new hnl) (by omega) (by omega)).mono ?_
  rintro e w1 ⟨rfl, hn1⟩
  by_cases hz : chk2 a b = 0
  · have HU := hide (show uniP a b = bnd (joined_ (a ++ b)) from if_pos hz)
    rw [hz]
    clear hz
    have hN := hnl.then hn1
    have hrl2 := rd_lit w1 23 1 2 #[.slice A n c, .slice B m d] (by omega) rfl (by simp [Value.oneCell'])
    have hnl2 := New.alloc1 w1 (.cells #[.slice A n c, .slice B m d] 23)
    go_wp2_with fail
    refine (concat_two _ _ A n c _ B m d _ _ hrl2 ((h.new hN).new hnl2) ((g.new hN).new hnl2) (by omega)).mono ?_
    rintro e w2 ⟨A2, c2, rfl, ho2, hn2⟩
    rw [← kcs_append] at ho2
    go_wp2_with fail
    refine (row_r ho2.rd (by omega)).mono ?_
    rintro e w3 ⟨A3, c3, rfl, hr3, hn3⟩
    go_wp2_with fail
    go_ret2
    rw [HU.out]
    exact ⟨A3, c3, rfl, hr3, hN.then (hnl2.then (hn2.then hn3))⟩
  · have HU := hide (show uniP a b = ([], chk2 a b) from if_neg hz)
    have e1 : (chk2 a b != 0) = true := by simpa using hz
    generalize chk2 a b = x at *
    clear hz
    go_wp2_with fail
    go_ret2
    rw [HU.out]
    exact Res2.none x (hnl.then hn1)
end Go.Proofs.Ytkiplbhnnjfjaaa
