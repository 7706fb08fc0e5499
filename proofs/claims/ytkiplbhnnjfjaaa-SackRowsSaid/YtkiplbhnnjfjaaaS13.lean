/- The document's calls on rows: walks; and both answer alike. -/
import Derived.Test.YtkiplbhnnjfjaaaZ1
namespace Go.Proofs.Ytkiplbhnnjfjaaa
set_option linter.unusedVariables false
set_option linter.unusedSimpArgs false
open Go.RowKit Go.Proofs.YtkiplbhnnjfjaaaW.PrintWords Go.Proofs.YtkiplbhnnjfjaaaW.PrintLast Go.Proofs.YtkiplbhnnjfjaaaW.PrintMore Go.Proofs.Ytkiplbhnnjfjaaa.PP
set_option maxRecDepth 100000

def addR (l : List Rg) (r : Rg) : List Rg × Int := if chk l = 0 then (if One r then bnd (put1 l r) else ([], 5)) else ([], chk l)
def uniR (a b : List Rg) : List Rg × Int := if chk2 a b = 0 then bnd (b.foldl put1 a) else ([], chk2 a b)
def minR (a b : List Rg) : List Rg × Int := if chk2 a b = 0 then bnd (b.foldl cuts a) else ([], chk2 a b)
def gapR (l : List Rg) (r : Rg) : List Rg × Int := if chk l = 0 then (if One r then minR [r] l else ([], 5)) else ([], chk l)

/-! ## plain -/
theorem joined_ok {l : List Rg} (h : ∀ r ∈ l, One r) : Ord (-1) (joined_ l) ∧ ∀ n, Hs (joined_ l) n ↔ Hs l n := by
  obtain ⟨h1, h2⟩ := joined (srtd l) (fun r hr => h r ((srtd_perm l).mem_iff.1 hr)) (srtd_srt l)
  exact ⟨h1, fun n => (h2 n).trans (hs_perm (srtd_perm l) n)⟩
theorem num_one {xs : List Int} (h : ∀ x ∈ xs, 0 ≤ x ∧ x < tp) : ∀ r ∈ xs.map num, One r := by
  intro r hr
  obtain ⟨x, hx, rfl⟩ := List.mem_map.1 hr
  have := h x hx
  exact ⟨this.1, by show x < x + 1; omega, by show x + 1 ≤ tp; omega⟩
theorem of_same (xs : List Int) : ofP xs = ofR xs := by
  unfold ofP ofR
  by_cases h : ∀ x ∈ xs, 0 ≤ x ∧ x < tp
  · rw [if_pos h, if_pos h]
    have h1 := num_one h
    obtain ⟨a1, a2⟩ := joined_ok h1
    obtain ⟨b1, b2⟩ := puts_ok (xs.map num) (l := []) trivial h1
    rw [ord_unique a1 b1 (fun n => by rw [a2 n, b2 n]; simp [Hs.nil])]
  · rw [if_neg h, if_neg h]
theorem add_same (l : List Rg) (r : Rg) : addP l r = addR l r := by
  unfold addP addR
  by_cases h : chk l = 0
  · rw [if_pos h, if_pos h]
    by_cases hr : One r
    · rw [if_pos hr, if_pos hr]
      have ho := (chk_zero h).2
      obtain ⟨a1, a2⟩ := joined_ok (l := l ++ [r]) (fun x hx => (List.mem_append.1 hx).elim (ho.one x) (fun hx => by rw [List.mem_singleton.1 hx]; exact hr))
      obtain ⟨b1, b2⟩ := put1_ok ho hr (by have := hr.1; omega)
      rw [ord_unique a1 b1 (fun n => by rw [a2 n, b2 n, hs_append, hs_cons]; simp [Hs.nil])]
    · rw [if_neg hr, if_neg hr]
  · rw [if_neg h, if_neg h]
theorem uni_same (a b : List Rg) : uniP a b = uniR a b := by
  unfold uniP uniR
  by_cases h : chk2 a b = 0
  · rw [if_pos h, if_pos h]
    obtain ⟨ha, hb⟩ := chk2_zero h
    have oa := (chk_zero ha).2
    have ob := (chk_zero hb).2
    obtain ⟨a1, a2⟩ := joined_ok (l := a ++ b) (fun x hx => (List.mem_append.1 hx).elim (oa.one x) (ob.one x))
    obtain ⟨b1, b2⟩ := puts_ok b oa ob.one
    rw [ord_unique a1 b1 (fun n => by rw [a2 n, b2 n, hs_append])]
  · rw [if_neg h, if_neg h]
theorem min_join {a b : List Rg} (oa : Ord (-1) a) (ob : Ord (-1) b) : joined_ (mnus a b) = b.foldl cuts a := by
  obtain ⟨m1, m2⟩ := mnus_ok oa.one ob
  obtain ⟨a1, a2⟩ := joined_ok m1
  obtain ⟨b1, b2⟩ := cutAll_ok b oa ob.one
  exact ord_unique a1 b1 (fun n => by rw [a2 n, m2 n, b2 n])
theorem min_same (a b : List Rg) : minP a b = minR a b := by
  unfold minP minR
  by_cases h : chk2 a b = 0
  · rw [if_pos h, if_pos h]
    obtain ⟨ha, hb⟩ := chk2_zero h
    rw [min_join (chk_zero ha).2 (chk_zero hb).2]
  · rw [if_neg h, if_neg h]
theorem chk_single {r : Rg} (hr : One r) : chk [r] = 0 := by
  unfold chk
  rw [if_neg (by simp), if_pos ⟨by have := hr.1; omega, hr, trivial⟩]
theorem gap_same (l : List Rg) (r : Rg) : gapP l r = gapR l r := by
  unfold gapP gapR
  by_cases h : chk l = 0
  · rw [if_pos h, if_pos h]
    by_cases hr : One r
    · rw [if_pos hr, if_pos hr]
      unfold minR
      have h2 : chk2 [r] l = 0 := by unfold chk2; rw [if_pos (chk_single hr), h]
      rw [if_pos h2, min_join (chk_zero (chk_single hr)).2 (chk_zero h).2]
    · rw [if_neg hr, if_neg hr]
  · rw [if_neg h, if_neg h]

/-! ## walks -/
theorem radd_v (l : List Rg) (r : Rg) (hl : l.length ≤ 1000000) (k : Nat) (hk : 2000010 < k) : nozzleref34_Add.f k (l.map mkR) r.1 r.2 = some ((addR l r).1.map mkR, (addR l r).2) := by
  unfold nozzleref34_Add.f addR
  rw [rcheck_v l (by omega) k (by omega), Option.bind_some]
  by_cases h : chk l = 0
  · rw [if_pos h, if_pos h, one_v, Option.bind_some]
    by_cases hr : One r
    · rw [if_pos (decide_eq_true (show One (r.1, r.2) from hr)), if_pos hr, with_v l hl r k (by omega), Option.bind_some, bound_v, Option.bind_some]
    · rw [if_neg (by rw [decide_eq_true_eq]; exact hr), if_neg hr]
      rfl
  · rw [if_neg h, if_neg h]
    rfl
theorem rchecks_v (a b : List Rg) (ha : a.length ≤ 1000000) (hb : b.length ≤ 1000000) (k : Nat) (hk : 1000010 < k) : nozzleref34_checks.f k (a.map mkR) (b.map mkR) = some (chk2 a b) := by
  unfold nozzleref34_checks.f chk2
  rw [rcheck_v a (by omega) k (by omega), Option.bind_some]
  by_cases h : chk a = 0
  · rw [if_pos h, if_pos h, rcheck_v b (by omega) k (by omega), Option.bind_some]
  · rw [if_neg h, if_neg h]
theorem radd_c (A : Option Addr) (n c : Nat) (l : List Rg) (r : Rg) (w : World) (h : Rd w 2 A n c (kcs l)) (hn : n ≤ 1000000) :
    Calls Try.prog 28 #[.slice A n c, .agg #[.int .i64 r.1, .int .i64 r.2]] w (Res2 (addR l r) w) := by
  obtain ⟨h1, h2, h3⟩ := rowR h
  have hl := h.lenk
  have := nozzleref34_Add.calls 2000011 A c _ r.1 r.2 _ _ w h1 h2 (radd_v l r (by omega) _ (by omega))
  rw [h3] at this
  refine this.mono fun _ _ ⟨v, he, hr, hb⟩ => ?_
  obtain ⟨A', c', rfl, ho⟩ := ownR hr
  exact ⟨A', c', he, ho.rd, New.of_below hb⟩
theorem rchecks_c (A B : Option Addr) (n c m d : Nat) (a b : List Rg) (w : World) (h : Rd w 2 A n c (kcs a)) (g : Rd w 2 B m d (kcs b)) (hn : n ≤ 1000000) (hm : m ≤ 1000000) :
    Calls Try.prog 51 #[.slice A n c, .slice B m d] w fun e w' => e = .returned (.int .i64 (chk2 a b)) ∧ New w w' := by
  obtain ⟨h1, h2, h3⟩ := rowR h
  obtain ⟨g1, g2, g3⟩ := rowR g
  have hl := h.lenk
  have gl := g.lenk
  have := nozzleref34_checks.calls 1000011 A c _ B d _ _ w h1 h2 g1 g2 (rchecks_v a b (by omega) (by omega) _ (by omega))
  rw [h3, g3] at this
  exact this.mono fun _ _ ⟨he, hb⟩ => ⟨he, New.of_below hb⟩
set_option maxHeartbeats 400000 in
theorem bound_c (A : Option Addr) (n c : Nat) (l : List Rg) (w : World) (h : Rd w 2 A n c (kcs l)) (hn : n ≤ 1000000) :
    Calls Try.prog 44 #[.slice A n c] w (Res2 (bnd l) w) := by
  have hl := h.lenk
  go_enter Try.func44, Try.ntmps44
  by_cases hb : 256 < n
  · have e1 : decide ((256 : Int) < n) = true := decide_eq_true (by omega)
    have e2 : decide (256 < n) = true := decide_eq_true hb
    have HB := hide (show bnd l = ([], 3) from if_pos (by omega))
    clear hb hl
    go_wp2_with fail
    go_ret2
    rw [HB.out]
    exact Res2.none 3 (Ext.refl _ _)
  · have e1 : decide ((256 : Int) < n) = false := decide_eq_false (by omega)
    have e2 : decide (256 < n) = false := decide_eq_false hb
    have HB := hide (show bnd l = (l, 0) from if_neg (by omega))
    have HL := hide hl
    clear hb hl
    go_wp2_with fail
    go_ret2
    rw [HB.out]
    exact ⟨A, c, by rw [HL.out]; rfl, by rw [HL.out]; exact h, Ext.refl _ _⟩
def fewL (l : List Rg) : List Rg := if 300 < l.length then l.take 300 else l
theorem few_len (l : List Rg) : (fewL l).length ≤ 300 := by
  unfold fewL
  split
  · simp; omega
  · omega
set_option maxHeartbeats 400000 in
theorem few_c (A : Option Addr) (n c : Nat) (l : List Rg) (w : World) (h : Rd w 2 A n c (kcs l)) :
    Calls Try.prog 17 #[.slice A n c] w fun e w' => e = .returned (.slice A (fewL l).length c) ∧ Rd w' 2 A (fewL l).length c (kcs (fewL l)) ∧ w = w' := by
  have hl := h.lenk
  have hcap := h.cap
  have htop := h.top
  go_enter Try.func17, Try.ntmps17
  by_cases hb : 300 < n
  · have e1 : decide ((300 : Int) < n) = true := decide_eq_true (by omega)
    have e2 : decide (300 < n) = true := decide_eq_true hb
    have HB := hide (show fewL l = l.take 300 from if_pos (by omega))
    have HN := hide (show (l.take 300).length = 300 by rw [List.length_take]; omega)
    have s1 := run_cut_h (P := Try.prog) 32 53 2 Try.underlying32 (by kernel_rfl) A n c 300 300 rfl (by omega) .i64
    have h3 := h.takek 300 (by omega)
    clear hl
    go_wp2_with fail
    go_ret
    rw [HB.out, HN.out]
    exact ⟨rfl, h3, rfl⟩
  · have e1 : decide ((300 : Int) < n) = false := decide_eq_false (by omega)
    have e2 : decide (300 < n) = false := decide_eq_false hb
    have HB := hide (show fewL l = l from if_neg (by omega))
    have HL := hide hl
    clear hb hl
    go_wp2_with fail
    go_ret
    rw [HB.out, HL.out]
    exact ⟨rfl, h, rfl⟩
theorem puts_len : ∀ (s l : List Rg), (s.foldl put1 l).length ≤ l.length + s.length
  | [], l => by simp
  | x :: t, l => by
    have := puts_len t (put1 l x)
    have := put1_len l x
    simp only [List.foldl_cons, List.length_cons]
    omega
set_option maxHeartbeats 1600000 in
theorem runi_c (A B : Option Addr) (n c m d : Nat) (a b : List Rg) (w : World) (h : Rd w 2 A n c (kcs a)) (g : Rd w 2 B m d (kcs b)) (hn : n ≤ 400000) (hm : m ≤ 400000) :
    Calls Try.prog 30 #[.slice A n c, .slice B m d] w (Res2 (uniR a b) w) := by
  have hl := h.lenk
  have gl := g.lenk
  have HL := hide hl
  have GL := hide gl
  clear hl gl
  go_enter Try.func30, Try.ntmps30
  go_wp2_with fail
  refine (rchecks_c A B n c m d a b _ h g (by omega) (by omega)).mono ?_
  rintro e w1 ⟨rfl, hn1⟩
  by_cases hz : chk2 a b = 0
  · have HU := hide (show uniR a b = bnd (b.foldl put1 a) from if_pos hz)
    rw [hz]
    clear hz
    have gcap := g.cap
    have gtop := g.top
    go_wp2_with fail
    go_loopw [7, 8] (fun s7 s8 wr => New w wr ∧ ∃ k A' c' o, k ≤ m ∧ s8 = .int .i64 (k : Nat) ∧ o = (b.take k).foldl put1 a ∧ s7 = .slice A' o.length c' ∧ Rd wr 2 A' o.length c' (kcs o)) (fun _ i _ => m - (intOf i).toNat)
    case atStart => exact ⟨hn1, 0, A, c, a, Nat.zero_le _, rfl, rfl, by rw [HL.out], by rw [HL.out]; exact h.new hn1⟩
    case round =>
      obtain ⟨hnw, k, A', c', o, hk, rfl, hod, rfl, ho⟩ := hrel
      have hol : o.length ≤ 1000000 := by
        rw [hod]
        have h1 := puts_len (b.take k) a
        have := HL.out
        simp only [List.length_take] at h1
        omega
      have HOD := hide hod
      clear hod
      by_cases hkn : k < m
      · have d1 : decide ((k : Int) < m) = true := decide_eq_true (by omega)
        have d2 : decide (k < m) = true := decide_eq_true (by omega)
        obtain ⟨ad, rfl⟩ := g.some (by omega)
        obtain ⟨x, hx⟩ : ∃ x, b[k]? = some x := ⟨_, List.getElem?_eq_getElem (by have := GL.out; omega)⟩
        have hnext := hide (show (b.take (k + 1)).foldl put1 a = put1 o x by rw [foldl_take put1 a b k x hx, ← HOD.out])
        obtain ⟨x0, x1⟩ := (g.new hnw).cellk hx
        clear hx
        go_wp2_with fail
        refine (with_c ho hol x).mono ?_
        rintro e w2 ⟨A2, c2, rfl, ho2, hn2⟩
        clear x0 x1
        go_wp2_with fail
        go_roundw
        case rel => exact ⟨hnw.then hn2, k + 1, A2, c2, put1 o x, by omega, by go_num, by rw [hnext.out], rfl, ho2.rd⟩
        case measure => simp [intOf]; omega
      · have d1 : decide ((k : Int) < m) = false := decide_eq_false (by omega)
        have d2 : decide (k < m) = false := decide_eq_false (by omega)
        obtain rfl : k = m := by omega
        have hfin := hide (show b.foldl put1 a = o by rw [HOD.out, List.take_of_length_le (by have := GL.out; omega)])
        go_wp2_with fail
        refine (bound_c A' _ c' o _ ho hol).mono ?_
        rintro e w3 ⟨A3, c3, rfl, hr3, hn3⟩
        go_wp2_with fail
        go_ret2
        rw [HU.out, hfin.out]
        exact ⟨A3, c3, rfl, hr3, hnw.then hn3⟩
  · have HU := hide (show uniR a b = ([], chk2 a b) from if_neg hz)
    have e1 : (chk2 a b != 0) = true := by simpa using hz
    generalize chk2 a b = x at *
    clear hz
    go_wp2_with fail
    go_ret2
    rw [HU.out]
    exact Res2.none x hn1
/-- A row in order that lost a range has at most one range more. -/
theorem cuts_one : ∀ {l : List Rg} {e : Int} {r : Rg}, Ord e l → One r → (cuts l r).length ≤ l.length + 1
  | [], _, _, _, _ => by simp [cuts]
  | a :: t, e, r, h, hr => by
    obtain ⟨g1, ⟨g2, g3, g4⟩, g5⟩ := h
    have hc : cuts (a :: t) r = cut1 a r ++ cuts t r := rfl
    rw [hc, List.length_append, List.length_cons]
    by_cases h2 : max a.1 r.2 < a.2
    · -- behind a nothing is cut
      have hno : ∀ {t : List Rg} {e : Int}, Ord e t → r.2 ≤ e → (cuts t r).length ≤ t.length := by
        intro t
        induction t with
        | nil => intro e _ _; simp [cuts]
        | cons b t ih =>
          intro e ho he
          obtain ⟨k1, ⟨k2, k3, k4⟩, k5⟩ := ho
          have hc : cuts (b :: t) r = cut1 b r ++ cuts t r := rfl
          rw [hc, List.length_append, List.length_cons]
          have := ih k5 (by omega)
          have : (cut1 b r).length ≤ 1 := by
            unfold cut1
            obtain ⟨q1, q2, q3⟩ := hr
            rw [if_neg (show ¬ b.1 < min b.2 r.1 by omega)]
            split <;> simp
          omega
      have := hno g5 (by omega)
      have := cut1_len a r
      omega
    · have := cuts_one g5 hr
      have : (cut1 a r).length ≤ 1 := by
        unfold cut1
        rw [if_neg h2]
        split <;> simp
      omega
theorem cutAll_len : ∀ (s : List Rg) {l : List Rg}, Ord (-1) l → (∀ r ∈ s, One r) → (s.foldl cuts l).length ≤ l.length + s.length
  | [], l, _, _ => by simp
  | x :: t, l, h, h1 => by
    have hx := h1 x (by simp)
    have := cutAll_len t (cuts_ok h hx).1 (fun y hy => h1 y (by simp [hy]))
    have := cuts_one h hx
    simp only [List.foldl_cons, List.length_cons]
    omega
set_option maxHeartbeats 1600000 in
theorem rmin_c (A B : Option Addr) (n c m d : Nat) (a b : List Rg) (w : World) (h : Rd w 2 A n c (kcs a)) (g : Rd w 2 B m d (kcs b)) (hn : n ≤ 400000) (hm : m ≤ 400000) :
    Calls Try.prog 32 #[.slice A n c, .slice B m d] w (Res2 (minR a b) w) := by
  have hl := h.lenk
  have gl := g.lenk
  have HL := hide hl
  have GL := hide gl
  clear hl gl
  go_enter Try.func32, Try.ntmps32
  go_wp2_with fail
  refine (rchecks_c A B n c m d a b _ h g (by omega) (by omega)).mono ?_
  rintro e w1 ⟨rfl, hn1⟩
  by_cases hz : chk2 a b = 0
  · have HU := hide (show minR a b = bnd (b.foldl cuts a) from if_pos hz)
    have HOK := hide (show Ord (-1) a ∧ ∀ r ∈ b, One r from ⟨(chk_zero (chk2_zero hz).1).2, (chk_zero (chk2_zero hz).2).2.one⟩)
    rw [hz]
    clear hz
    have gcap := g.cap
    have gtop := g.top
    go_wp2_with fail
    go_loopw [7, 8] (fun s7 s8 wr => New w wr ∧ ∃ k A' c' o, k ≤ m ∧ s8 = .int .i64 (k : Nat) ∧ o = (b.take k).foldl cuts a ∧ s7 = .slice A' o.length c' ∧ Rd wr 2 A' o.length c' (kcs o)) (fun _ i _ => m - (intOf i).toNat)
    case atStart => exact ⟨hn1, 0, A, c, a, Nat.zero_le _, rfl, rfl, by rw [HL.out], by rw [HL.out]; exact h.new hn1⟩
    case round =>
      obtain ⟨hnw, k, A', c', o, hk, rfl, hod, rfl, ho⟩ := hrel
      have hol : o.length ≤ 1000000 := by
        rw [hod]
        have h1 := cutAll_len (b.take k) HOK.out.1 (fun r hr => HOK.out.2 r (List.mem_of_mem_take hr))
        have := HL.out
        simp only [List.length_take] at h1
        omega
      have HOD := hide hod
      clear hod
      by_cases hkn : k < m
      · have d1 : decide ((k : Int) < m) = true := decide_eq_true (by omega)
        have d2 : decide (k < m) = true := decide_eq_true (by omega)
        obtain ⟨ad, rfl⟩ := g.some (by omega)
        obtain ⟨x, hx⟩ : ∃ x, b[k]? = some x := ⟨_, List.getElem?_eq_getElem (by have := GL.out; omega)⟩
        have hnext := hide (show (b.take (k + 1)).foldl cuts a = cuts o x by rw [foldl_take cuts a b k x hx, ← HOD.out])
        obtain ⟨x0, x1⟩ := (g.new hnw).cellk hx
        clear hx
        go_wp2_with fail
        refine (without_c ho hol x).mono ?_
        rintro e w2 ⟨A2, c2, rfl, ho2, hn2⟩
        clear x0 x1
        go_wp2_with fail
        go_roundw
        case rel => exact ⟨hnw.then hn2, k + 1, A2, c2, cuts o x, by omega, by go_num, by rw [hnext.out], rfl, ho2.rd⟩
        case measure => simp [intOf]; omega
      · have d1 : decide ((k : Int) < m) = false := decide_eq_false (by omega)
        have d2 : decide (k < m) = false := decide_eq_false (by omega)
        obtain rfl : k = m := by omega
        have hfin := hide (show b.foldl cuts a = o by rw [HOD.out, List.take_of_length_le (by have := GL.out; omega)])
        go_wp2_with fail
        refine (bound_c A' _ c' o _ ho hol).mono ?_
        rintro e w3 ⟨A3, c3, rfl, hr3, hn3⟩
        go_wp2_with fail
        go_ret2
        rw [HU.out, hfin.out]
        exact ⟨A3, c3, rfl, hr3, hnw.then hn3⟩
  · have HU := hide (show minR a b = ([], chk2 a b) from if_neg hz)
    have e1 : (chk2 a b != 0) = true := by simpa using hz
    generalize chk2 a b = x at *
    clear hz
    go_wp2_with fail
    go_ret2
    rw [HU.out]
    exact Res2.none x hn1
set_option maxHeartbeats 800000 in
theorem rgap_c (A : Option Addr) (n c : Nat) (l : List Rg) (r : Rg) (w : World) (h : Rd w 2 A n c (kcs l)) (hn : n ≤ 1000) :
    Calls Try.prog 34 #[.slice A n c, .agg #[.int .i64 r.1, .int .i64 r.2]] w (Res2 (gapR l r) w) := by
  have hn0 := New.alloc1 w (.cells #[.int .i64 r.1, .int .i64 r.2] 53)
  have b0 := blk_new w (.cells #[.int .i64 r.1, .int .i64 r.2] 53)
  go_enter Try.func34, Try.ntmps34
  go_upto_region 1 with (fail)
  obtain ⟨w0, hw0⟩ : ∃ v, v = w.alloc (.cells #[.int .i64 r.1, .int .i64 r.2] 53) := ⟨_, rfl⟩
  rw [← hw0] at hn0 b0 ⊢
  clear hw0
  go_wp2_with fail
  refine (rcheck_c (h.new hn0) (by omega)).mono ?_
  rintro e w1 ⟨rfl, hn1⟩
  have hN := hn0.then hn1
  have b1 := hn1.keep b0
  by_cases hz : chk l = 0
  · have HU := hide (show gapR l r = if One r then minR [r] l else ([], 5) from if_pos hz)
    rw [hz]
    clear hz
    have c0 := (blk_cell b1 0).trans rfl
    have c1 := (blk_cell b1 1).trans rfl
    go_wp2_with fail
    refine (rone_c r.1 r.2 _).mono ?_
    rintro e w2 ⟨rfl, hn2⟩
    have b2 := hn2.keep b1
    clear c0 c1
    have hN2 := hN.then hn2
    by_cases hr : One (r.1, r.2)
    · have HV := hide (HU.out.trans (if_pos (show One r from hr)))
      rw [decide_eq_true hr]
      clear hr
      have c0 := (blk_cell b2 0).trans rfl
      have c1 := (blk_cell b2 1).trans rfl
      have hrb := rd_lit w2 53 2 1 #[.int .i64 r.1, .int .i64 r.2] (by omega) rfl (by simp [Value.oneCell'])
      have hnb := New.alloc1 w2 (.cells #[.int .i64 r.1, .int .i64 r.2] 53)
      go_wp2_with fail
      refine (rmin_c _ A 1 _ n c [r] l _ (by simpa [kcs] using hrb) ((h.new hN2).new hnb) (by omega) (by omega)).mono ?_
      rintro e w3 ⟨A2, c2, rfl, hr2, hn3⟩
      clear c0 c1
      go_wp2_with fail
      go_ret2
      rw [HV.out]
      exact ⟨A2, c2, rfl, hr2, hN2.then (hnb.then hn3)⟩
    · have HV := hide (HU.out.trans (if_neg (show ¬ One r from hr)))
      rw [decide_eq_false hr]
      clear hr
      go_wp2_with fail
      go_ret2
      rw [HV.out]
      exact Res2.none 5 hN2
  · have HU := hide (show gapR l r = ([], chk l) from if_neg hz)
    have e1 : (chk l != 0) = true := by simpa using hz
    generalize chk l = x at *
    clear hz
    go_wp2_with fail
    go_ret2
    rw [HU.out]
    exact Res2.none x hN
end Go.Proofs.Ytkiplbhnnjfjaaa
