/- Walks: what may be; the search for the first that is above. -/
import Derived.Test.YtconaojkonjheaaT2
namespace Go.Proofs.Ytconaojkonjheaa
open Go.RowKit Go.Maps
set_option maxRecDepth 100000

def vsi (l : List Int) : List Value := l.map (Value.int .i64)
theorem Rd.leni {w : World} {A : Option Addr} {n c : Nat} {l : List Int} (h : Rd w 1 A n c (vsi l)) : l.length = n := by
  have := h.len
  simp [vsi] at this
  omega
theorem Rd.celli {w : World} {ad : Addr} {n c : Nat} {l : List Int} (h : Rd w 1 (Option.some ad) n c (vsi l)) {k : Nat} {x : Int} (hx : l[k]? = Option.some x) : w.cell? (ad.add k) = Option.some (.int .i64 x) :=
  h.cell ad rfl k _ (by rw [vsi, List.getElem?_map, hx]; rfl)
/-- May a number be? -/
def mayN (n : Int) : Prop := 0 ≤ n ∧ n ≤ 1152921504606846976
instance (n : Int) : Decidable (mayN n) := inferInstanceAs (Decidable (_ ∧ _))

set_option maxHeartbeats 400000 in
theorem may_any (n : Int) (w : World) :
    Calls Try.prog 39 #[.int .i64 n] w fun e w' => e = .returned (.bool (decide (mayN n))) ∧ w = w' := by
  by_cases h0 : 0 ≤ n
  · have d1 : decide (0 ≤ n) = true := decide_eq_true h0
    by_cases h1 : n ≤ 1152921504606846976
    · have d2 : decide (n ≤ 1152921504606846976) = true := decide_eq_true h1
      have dm : decide (mayN n) = true := decide_eq_true ⟨h0, h1⟩
      rw [dm]
      go_enter Try.func39, Try.ntmps39
      go_wp2
      go_ret
      exact ⟨rfl, rfl⟩
    · have d2 : decide (n ≤ 1152921504606846976) = false := decide_eq_false h1
      have dm : decide (mayN n) = false := decide_eq_false (fun h => h1 h.2)
      rw [dm]
      go_enter Try.func39, Try.ntmps39
      go_wp2
      go_ret
      exact ⟨rfl, rfl⟩
  · have d1 : decide (0 ≤ n) = false := decide_eq_false h0
    have dm : decide (mayN n) = false := decide_eq_false (fun h => h0 h.1)
    rw [dm]
    go_enter Try.func39, Try.ntmps39
    go_wp2
    go_ret
    exact ⟨rfl, rfl⟩
theorem maynt_any (n : Int) (w : World) :
    Calls Try.prog 50 #[.int .i64 n] w fun e w' => e = .returned (.bool (!decide (mayN n))) ∧ w = w' := by
  go_enter Try.func50, Try.ntmps50
  go_wp2_with fail
  refine (may_any n _).mono ?_
  rintro e w1 ⟨rfl, rfl⟩
  go_wp2_with fail
  go_ret
  exact ⟨rfl, rfl⟩

set_option maxHeartbeats 800000 in
theorem contains_any (A : Option Addr) (n c : Nat) (l : List Int) (w : World) (h : Rd w 1 A n c (vsi l)) :
    Calls Try.prog 61 #[.slice A n c, .func (.func 50) #[] #[]] w fun e w' => ∃ r : Int, e = .returned (.int .i64 r) ∧ w = w' ∧ ((0 ≤ r ∧ ¬ ∀ x ∈ l, mayN x) ∨ (r = -1 ∧ ∀ x ∈ l, mayN x)) := by
  have hlen := h.leni
  have hcap := h.cap
  have htop := h.top
  have HL := hide hlen
  clear hlen
  go_enter Try.func61, Try.ntmps61
  go_wp2_with fail
  go_loop [8] (fun s => ∃ k : Nat, k ≤ n ∧ s = .int .i64 (k : Nat) ∧ ∀ x ∈ l.take k, mayN x) (fun s => n - (intOf s).toNat)
  case atStart => exact ⟨0, Nat.zero_le _, rfl, by simp⟩
  case round =>
    obtain ⟨k, hk, rfl, hall⟩ := hrel
    have HA := hide hall
    clear hall
    by_cases hkn : k < n
    · have d1 : decide ((k : Int) < n) = true := decide_eq_true (by omega)
      have d2 : decide (k < n) = true := decide_eq_true (by omega)
      obtain ⟨ad, rfl⟩ := h.some (by omega)
      obtain ⟨x, hx⟩ : ∃ x, l[k]? = some x := ⟨_, List.getElem?_eq_getElem (by have := HL.out; omega)⟩
      have hcx := h.celli hx
      have HX := hide hx
      clear hx
      go_wp2_with fail
      refine (maynt_any x _).mono ?_
      rintro e w1 ⟨rfl, rfl⟩
      by_cases hm : mayN x
      · rw [decide_eq_true hm]
        have HM := hide hm
        clear hm
        go_wp2_with fail
        refine ⟨⟨k + 1, by omega, by go_num, fun y hy => ?_⟩, by simp [intOf]; omega⟩
        rw [take_snoc l k x HX.out] at hy
        rcases List.mem_append.1 hy with hy | hy
        · exact HA.out y hy
        · cases List.mem_singleton.1 hy; exact HM.out
      · rw [decide_eq_false hm]
        have HM := hide hm
        clear hm
        go_wp2_with fail
        go_ret
        exact ⟨k, rfl, rfl, .inl ⟨by omega, fun hall => HM.out (hall x (List.mem_of_getElem? HX.out))⟩⟩
    · have d1 : decide ((k : Int) < n) = false := decide_eq_false (by omega)
      have d2 : decide (k < n) = false := decide_eq_false (by omega)
      go_wp2_with fail
      go_ret
      have := HA.out
      rw [List.take_of_length_le (by have := HL.out; omega)] at this
      exact ⟨-1, rfl, rfl, .inr ⟨rfl, this⟩⟩

theorem containsF_any (A : Option Addr) (n c : Nat) (l : List Int) (w : World) (h : Rd w 1 A n c (vsi l)) :
    Calls Try.prog 49 #[.slice A n c, .func (.func 50) #[] #[]] w fun e w' => e = .returned (.bool (!decide (∀ x ∈ l, mayN x))) ∧ w = w' := by
  by_cases hm : ∀ x ∈ l, mayN x
  · rw [decide_eq_true hm]
    have HM := hide hm
    clear hm
    go_enter Try.func49, Try.ntmps49
    go_wp2_with fail
    refine (contains_any A n c l _ h).mono ?_
    rintro e w1 ⟨r, rfl, rfl, ⟨h1, h2⟩ | ⟨rfl, h2⟩⟩
    · exact absurd HM.out h2
    · clear h2
      go_wp2_with fail
      go_ret
      exact ⟨rfl, rfl⟩
  · rw [decide_eq_false hm]
    have HM := hide hm
    clear hm
    go_enter Try.func49, Try.ntmps49
    go_wp2_with fail
    refine (contains_any A n c l _ h).mono ?_
    rintro e w1 ⟨r, rfl, rfl, ⟨h1, h2⟩ | ⟨rfl, h2⟩⟩
    · have d1 : decide (0 ≤ r) = true := decide_eq_true h1
      clear h2
      go_wp2_with fail
      go_ret
      exact ⟨rfl, rfl⟩
    · exact absurd h2 HM.out
/-- May the numbers be? -/
def mayL (l : List Int) : Prop := l.length ≤ 4096 ∧ ∀ x ∈ l, mayN x
def errL (l : List Int) : Int := if 4096 < l.length then 3 else if ∀ x ∈ l, mayN x then 0 else 5
theorem errL_yes {l : List Int} (h : mayL l) : errL l = 0 := by
  unfold errL
  rw [if_neg (by have := h.1; omega), if_pos h.2]
theorem errL_no {l : List Int} (h : ¬ mayL l) : errL l = 3 ∨ errL l = 5 := by
  unfold errL
  split
  · exact .inl rfl
  · rw [if_neg (fun hh => h ⟨by omega, hh⟩)]
    exact .inr rfl

set_option maxHeartbeats 400000 in
theorem check_any (A : Option Addr) (n c : Nat) (l : List Int) (w : World) (h : Rd w 1 A n c (vsi l)) :
    Calls Try.prog 32 #[.slice A n c] w fun e w' => e = .returned (.int .i64 (errL l)) ∧ w = w' := by
  have hlen := h.leni
  unfold errL
  rw [hlen]
  by_cases h4 : 4096 < n
  · have d1 : decide ((4096 : Int) < n) = true := decide_eq_true (by omega)
    rw [if_pos h4]
    go_enter Try.func32, Try.ntmps32
    go_wp2_with fail
    go_ret
    exact ⟨rfl, rfl⟩
  · have d1 : decide ((4096 : Int) < n) = false := decide_eq_false (by omega)
    rw [if_neg h4]
    by_cases hm : ∀ x ∈ l, mayN x
    · have hd := decide_eq_true hm
      rw [if_pos hm]
      have HD := hide hd
      clear hm hd
      go_enter Try.func32, Try.ntmps32
      go_wp2_with fail
      refine (containsF_any A n c l _ h).mono ?_
      rintro e w1 ⟨rfl, rfl⟩
      rw [HD.out]
      go_wp2_with fail
      go_ret
      exact ⟨rfl, rfl⟩
    · have hd := decide_eq_false hm
      rw [if_neg hm]
      have HD := hide hd
      clear hm hd
      go_enter Try.func32, Try.ntmps32
      go_wp2_with fail
      refine (containsF_any A n c l _ h).mono ?_
      rintro e w1 ⟨rfl, rfl⟩
      rw [HD.out]
      go_wp2_with fail
      go_ret
      exact ⟨rfl, rfl⟩

/-- Cells of highs. -/
def hcs (l : List (Int × Int)) : List Value := l.flatMap fun a => [.int .i64 a.1, .int .i64 a.2]
theorem Rd.lenh {w : World} {A : Option Addr} {n c : Nat} {l : List (Int × Int)} (h : Rd w 2 A n c (hcs l)) : l.length = n := by
  have := h.len
  rw [hcs, flat_len (sz := 2) (fun _ => rfl)] at this
  omega
theorem Rd.cellh {w : World} {ad : Addr} {n c : Nat} {l : List (Int × Int)} (h : Rd w 2 (Option.some ad) n c (hcs l)) {k : Nat} {x : Int × Int} (hx : l[k]? = Option.some x) : w.cell? (ad.add (k * 2)) = Option.some (.int .i64 x.1) ∧ w.cell? ⟨(ad.add (k * 2)).block, (ad.add (k * 2)).off + 1, none⟩ = Option.some (.int .i64 x.2) := by
  have g := fun j u (hj : j < 2) (hu : ([.int .i64 x.1, .int .i64 x.2] : List Value)[j]? = Option.some u) => h.cell ad rfl (k * 2 + j) u (by rw [hcs, flat_get (E := fun a : Int × Int => [.int .i64 a.1, .int .i64 a.2]) (sz := 2) (fun _ => rfl) l k j x hx hj]; exact hu)
  have e1 : ad.add (k * 2 + 1) = ⟨(ad.add (k * 2)).block, (ad.add (k * 2)).off + 1, none⟩ := by
    rw [← add_add]
    unfold Addr.add
    rw [if_neg (by omega)]
  exact ⟨g 0 _ (by omega) rfl, by rw [← e1]; exact g 1 _ (by omega) rfl⟩

/-- Is the i-th high above? -/
theorem above_any (p q b : Nat) (A : Option Addr) (n c : Nat) (hs : List (Int × Int)) (t : Int) (i : Nat) (x : Int × Int) (came rep reo ext late held : Int) (s : Value) (next : Int) (w : World)
    (hb : MBk w p came rep reo ext late held s (.slice A n c) next) (hq : w.cell? ⟨q, 0, none⟩ = some (.pointer (some ⟨p, 0, none⟩))) (ht : w.cell? ⟨b, 0, none⟩ = some (.int .i64 t)) (hr : Rd w 2 A n c (hcs hs)) (hx : hs[i]? = some x) :
    Calls Try.prog 53 #[.int .i64 i, .pointer (some ⟨q, 0, none⟩), .pointer (some ⟨b, 0, none⟩)] w fun e w' => e = .returned (.bool (decide (t < x.1))) ∧ ∃ nd, w' = w.drewN nd := by
  have hin : i < n := by have := (List.getElem?_eq_some_iff.1 hx).1; have := hr.lenh; omega
  obtain ⟨ad, rfl⟩ := hr.some (by omega)
  have hcx := (hr.cellh hx).1
  have hcap := hr.cap
  have htop := hr.top
  have c7 := (hb.c 7).trans rfl
  have d1 : decide ((i : Int) < n) = true := decide_eq_true (by omega)
  have d2 : decide (i < n) = true := decide_eq_true (by omega)
  have HX := hide hx
  clear hx
  go_enter Try.func53, Try.ntmps53
  go_wp2_with fail
  go_quiet (fail)
  go_wp2_with fail
  go_ret
  exact ⟨rfl, nq, rfl⟩

/-- The first high that is above t. -/
def Fst (hs : List (Int × Int)) (t : Int) (k : Nat) : Prop := k ≤ hs.length ∧ (∀ (j : Nat) (x : Int × Int), j < k → hs[j]? = some x → x.1 ≤ t) ∧ (∀ (j : Nat) (x : Int × Int), k ≤ j → hs[j]? = some x → t < x.1)
/-- Rising. -/
def Ris (hs : List (Int × Int)) : Prop := ∀ (i j : Nat) (x y : Int × Int), i < j → hs[i]? = some x → hs[j]? = some y → x.1 < y.1

set_option maxHeartbeats 2000000 in
theorem search_any (p q b : Nat) (A : Option Addr) (n c : Nat) (hs : List (Int × Int)) (t : Int) (came rep reo ext late held : Int) (s : Value) (next : Int) (w : World)
    (hb : MBk w p came rep reo ext late held s (.slice A n c) next) (hq : w.cell? ⟨q, 0, none⟩ = some (.pointer (some ⟨p, 0, none⟩))) (ht : w.cell? ⟨b, 0, none⟩ = some (.int .i64 t)) (hr : Rd w 2 A n c (hcs hs)) (hris : Ris hs) (hn : n ≤ 10000) :
    Calls Try.prog 41 #[.int .i64 n, .func (.func 53) #[] #[.pointer (some ⟨q, 0, none⟩), .pointer (some ⟨b, 0, none⟩)]] w fun e w' => ∃ k : Nat, e = .returned (.int .i64 k) ∧ Fst hs t k ∧ ∃ nd, w' = w.drewN nd := by
  have hlen := hr.lenh
  have HL := hide hlen
  clear hlen
  go_enter Try.func41, Try.ntmps41
  go_wp2_with fail
  go_loopw [5, 6] (fun s5 s6 wr => ∃ i j nd : Nat, i ≤ j ∧ j ≤ n ∧ s5 = .int .i64 (i : Nat) ∧ s6 = .int .i64 (j : Nat) ∧ Hid ((∀ (k : Nat) (x : Int × Int), k < i → hs[k]? = some x → x.1 ≤ t) ∧ (∀ (k : Nat) (x : Int × Int), j ≤ k → hs[k]? = some x → t < x.1)) ∧ wr = w.drewN nd) (fun a b _ => (intOf b).toNat - (intOf a).toNat)
  case atStart => exact ⟨0, n, 0, Nat.zero_le _, Nat.le_refl _, rfl, rfl, hide ⟨fun k x h => absurd h (Nat.not_lt_zero _), fun k x hk hx => absurd (List.getElem?_eq_some_iff.1 hx).1 (by have := HL.out; omega)⟩, rfl⟩
  case round =>
    obtain ⟨i, j, nd, hij, hj, rfl, rfl, hI, rfl⟩ := hrel
    by_cases hlt : i < j
    · have d1 : decide ((i : Int) < j) = true := decide_eq_true (by omega)
      have d2 : decide (i < j) = true := decide_eq_true (by omega)
      obtain ⟨m, hm⟩ : ∃ m, m = (i + j) / 2 := ⟨_, rfl⟩
      have hm1 : i ≤ m := by omega
      have hm2 : m < j := by omega
      obtain ⟨x, hx⟩ : ∃ x, hs[m]? = some x := ⟨_, List.getElem?_eq_getElem (by have := HL.out; omega)⟩
      have HX := hide hx
      have hmz : ((i : Int) + j) / 2 = (m : Nat) := by omega
      have HM := hide hm
      clear hx hm
      go_wp2_with fail
      have hnd : New w (w.drewN nd) := new_draw w nd
      have hcell : ∀ {a : Addr} {v : Value}, w.cell? a = some v → (w.drewN nd).cell? a = some v := fun h => h
      refine (above_any p q b A n c hs t m x came rep reo ext late held s next _ (hb.keep hnd (fun h => h)) (hcell hq) (hcell ht) (hr.new hnd) HX.out).mono ?_
      rintro e w1 ⟨rfl, nd1, rfl⟩
      by_cases htx : t < x.1
      · have d3 : decide (t < x.1) = true := decide_eq_true htx
        rw [d3]
        have HT := hide htx
        clear htx d3
        go_wp2_with fail
        refine ⟨⟨i, m, nd + nd1, by omega, by omega, rfl, rfl, hide ⟨hI.out.1, fun k y hk hy => ?_⟩, by simp [World.drewN_drewN]⟩, by simp [intOf]; omega⟩
        rcases Nat.lt_or_ge m k with h1 | h1
        · have := hris m k x y h1 HX.out hy; have := HT.out; omega
        · obtain rfl : k = m := by omega
          have h2 := HX.out
          rw [hy] at h2
          cases h2
          exact HT.out
      · have d3 : decide (t < x.1) = false := decide_eq_false htx
        rw [d3]
        have HT := hide htx
        clear htx d3
        go_wp2_with fail
        refine ⟨⟨m + 1, j, nd + nd1, by omega, by omega, by go_num, rfl, hide ⟨fun k y hk hy => ?_, hI.out.2⟩, by simp [World.drewN_drewN]⟩, by simp [intOf]; omega⟩
        rcases Nat.lt_or_ge k m with h1 | h1
        · have := hris k m y x h1 hy HX.out; have := HT.out; omega
        · obtain rfl : k = m := by omega
          have h2 := HX.out
          rw [hy] at h2
          cases h2
          have := HT.out
          omega
    · have d1 : decide ((i : Int) < j) = false := decide_eq_false (by omega)
      have d2 : decide (i < j) = false := decide_eq_false (by omega)
      go_wp2_with fail
      go_ret
      obtain rfl : i = j := by omega
      exact ⟨i, rfl, ⟨by have := HL.out; omega, hI.out.1, hI.out.2⟩, nd, rfl⟩
end Go.Proofs.Ytconaojkonjheaa
