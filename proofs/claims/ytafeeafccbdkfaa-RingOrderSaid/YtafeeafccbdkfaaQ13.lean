/- The law on the order of the things. -/
import Derived.Test.YtafeeafccbdkfaaQ12
import Derived.Test.YtafeeafccbdkfaaR2
import Derived.Deep.DeepCutAuto
import Derived.Test.YtafeeafccbdkfaaQ5s
import Derived.Test.YtafeeafccbdkfaaQ2s
namespace Go.Proofs.Ytafeeafccbdkfaa
open Go.RowKit
set_option maxRecDepth 100000

def vsb (l : List Bool) : List Value := l.map Value.bool
theorem new_lit_s (r : Int) (room : Nat) (w : World) (e : r = room) (h1 : 1 ≤ room) (h2 : room ≤ 1024) :
    Calls Try.prog 15 #[.int .i64 r] w fun e w' => e = .returned (.tuple #[.pointer (some ⟨w.heap.size, 0, none⟩), .int .i64 0]) ∧ Rngs w' w.heap.size none 0 0 [] room ∧ New w w' := by
  subst e
  exact new_s room w h1 h2

/-- Two rows of the call's own and a ring, each in blocks of its own. -/
structure Ord (w wr : World) (p : Nat) (A1 : Option Addr) (n1 c1 : Nat) (i1 : List ByteArray) (A2 : Option Addr) (n2 c2 : Nat) (i2 : List ByteArray) (Ar : Option Addr) (nr cr : Nat) (q : List ByteArray) : Prop where
  o1 : Own wr w.heap.size 9 1 A1 n1 c1 (vss i1)
  o2 : Own wr w.heap.size 9 1 A2 n2 c2 (vss i2)
  rg : Rngs wr p Ar nr cr q 8
  d12 : ∀ k, inA A1 k → ¬ inA A2 k
  d1 : ∀ k, inA A1 k → ¬ Tch p Ar k
  d2 : ∀ k, inA A2 k → ¬ Tch p Ar k
  hp : w.heap.size ≤ p
  nw : New w wr
namespace Ord
variable {w wr w' : World} {p : Nat} {A1 : Option Addr} {n1 c1 : Nat} {i1 : List ByteArray} {A2 : Option Addr} {n2 c2 : Nat} {i2 : List ByteArray} {Ar : Option Addr} {nr cr : Nat} {q : List ByteArray}
theorem new (h : Ord w wr p A1 n1 c1 i1 A2 n2 c2 i2 Ar nr cr q) (hn : New wr w') : Ord w w' p A1 n1 c1 i1 A2 n2 c2 i2 Ar nr cr q :=
  ⟨h.o1.new hn, h.o2.new hn, h.rg.new hn, h.d12, h.d1, h.d2, h.hp, h.nw.then hn⟩
theorem ring (h : Ord w wr p A1 n1 c1 i1 A2 n2 c2 i2 Ar nr cr q) {Ar' : Option Addr} {nr' cr' : Nat} {q' : List ByteArray} (hr : Rngs w' p Ar' nr' cr' q' 8) (he : Ext (Tch p Ar) wr w') (hf : Frs wr Ar Ar') : Ord w w' p A1 n1 c1 i1 A2 n2 c2 i2 Ar' nr' cr' q' := by
  have sep : ∀ {A : Option Addr}, (∀ k, inA A k → ¬ Tch p Ar k) → (∀ k, inA A k → k < wr.heap.size) → ∀ k, inA A k → ¬ Tch p Ar' k := by
    intro A hd hl k hk ht
    rcases ht with ht | ht
    · exact hd k hk (.inl ht)
    · rcases hf k ht with h1 | h1
      · exact hd k hk (.inr h1)
      · have := hl k hk; omega
  exact ⟨h.o1.keep he h.d1, h.o2.keep he h.d2, hr, h.d12, sep h.d1 (fun k hk => (h.o1.at_ hk).2), sep h.d2 (fun k hk => (h.o2.at_ hk).2), h.hp,
    (h.nw.to.trans (T := fun k => w.heap.size ≤ k) (S := fun k => w.heap.size ≤ k) (he.mono (fun k _ hk => by
      rcases hk with rfl | hk
      · exact h.hp
      · have := (h.rg.own.at_ hk).1; have := h.hp; omega)) (fun _ _ h => h)).mono (fun k hk h => absurd hk (by omega))⟩
theorem row1 (h : Ord w wr p A1 n1 c1 i1 A2 n2 c2 i2 Ar nr cr q) {A' : Option Addr} {n' c' : Nat} {i' : List ByteArray} (ho : Own w' w.heap.size 9 1 A' n' c' (vss i')) (he : Ext (inA A1) wr w') (hA : A' = A1 ∨ A' = some ⟨wr.heap.size, 0, none⟩) : Ord w w' p A' n' c' i' A2 n2 c2 i2 Ar nr cr q := by
  refine ⟨ho, h.o2.keep he (fun k hk hj => h.d12 k hj hk), h.rg.keep he (fun hj => h.d1 _ hj (.inl rfl)) (fun k hk hj => h.d1 k hj (.inr hk)), ?_, ?_, h.d2, h.hp, h.nw.trans he (fun k hk hj => by have := (h.o1.at_ hj).1; omega)⟩
  · intro k hk hj
    rcases hA with rfl | rfl
    · exact h.d12 k hk hj
    · have := (h.o2.at_ hj).2
      have h1 := (inA_some _ _).1 hk
      have h1 : wr.heap.size = k := h1
      omega
  · intro k hk hj
    rcases hA with rfl | rfl
    · exact h.d1 k hk hj
    · have h1 := (inA_some _ _).1 hk
      have h1 : wr.heap.size = k := h1
      rcases hj with rfl | hj
      · have := h.rg.lt; omega
      · have := (h.rg.own.at_ hj).2; omega
theorem row2 (h : Ord w wr p A1 n1 c1 i1 A2 n2 c2 i2 Ar nr cr q) {A' : Option Addr} {n' c' : Nat} {i' : List ByteArray} (ho : Own w' w.heap.size 9 1 A' n' c' (vss i')) (he : Ext (inA A2) wr w') (hA : A' = A2 ∨ A' = some ⟨wr.heap.size, 0, none⟩) : Ord w w' p A1 n1 c1 i1 A' n' c' i' Ar nr cr q := by
  refine ⟨h.o1.keep he (fun k hk hj => h.d12 k hk hj), ho, h.rg.keep he (fun hj => h.d2 _ hj (.inl rfl)) (fun k hk hj => h.d2 k hj (.inr hk)), ?_, h.d1, ?_, h.hp, h.nw.trans he (fun k hk hj => by have := (h.o2.at_ hj).1; omega)⟩
  · intro k hj hk
    rcases hA with rfl | rfl
    · exact h.d12 k hj hk
    · have := (h.o1.at_ hj).2
      have h1 := (inA_some _ _).1 hk
      have h1 : wr.heap.size = k := h1
      omega
  · intro k hk hj
    rcases hA with rfl | rfl
    · exact h.d2 k hk hj
    · have h1 := (inA_some _ _).1 hk
      have h1 : wr.heap.size = k := h1
      rcases hj with rfl | hj
      · have := h.rg.lt; omega
      · have := (h.rg.own.at_ hj).2; omega
end Ord

/-- What holds before round i. -/
def RelO (w : World) (p : Nat) (n : Nat) (g : Nat) (s7 s8 s9 : Value) (wr : World) : Prop :=
  ∃ i A1 n1 c1 i1 A2 n2 c2 i2 Ar nr cr q, g = 40 - i ∧ i ≤ 40 ∧ s7 = .slice A1 n1 c1 ∧ s8 = .slice A2 n2 c2 ∧ s9 = .int .i64 (i : Nat) ∧ Hid (i1 = i2 ++ q) ∧ n1 ≤ i ∧ Ord w wr p A1 n1 c1 i1 A2 n2 c2 i2 Ar nr cr q
def CutO (w : World) (p : Nat) (i : Nat) (A2 : Option Addr) (n2 c2 : Nat) (i2 : List ByteArray) (s7 : Value) (wr : World) : Prop :=
  ∃ A1 n1 c1 i1 Ar nr cr x q, s7 = .slice A1 n1 c1 ∧ Hid (i1 = i2 ++ x :: q) ∧ n1 ≤ i + 1 ∧ Ord w wr p A1 n1 c1 i1 A2 n2 c2 i2 Ar nr cr (x :: q)

/-- Push of one thing, whatever the room. -/
theorem push_t (p : Nat) (A : Option Addr) (n c : Nat) (xs : List ByteArray) (B : Option Addr) (d : Nat) (x : ByteArray) (w : World) (h : Rngs w p A n c xs 8) (hl : Rd w 1 B 1 d (vss [x])) :
    Calls Try.prog 16 #[.pointer (some ⟨p, 0, none⟩), .slice B 1 d] w fun e w' => ∃ (v : Int) (A' : Option Addr) (n' c' : Nat) (xs' : List ByteArray), e = .returned (.int .i64 v) ∧ Rngs w' p A' n' c' xs' 8 ∧ Ext (Tch p A) w w' ∧ Frs w A A' ∧ ((v = 0 ∧ Hid (xs' = xs ++ [x])) ∨ (v = 8 ∧ n' = 8 ∧ Hid (xs' = xs))) := by
  by_cases hr : n + 1 ≤ 8
  · refine (push_s p A n c xs 8 B 1 d [x] w h hl hr).mono ?_
    rintro e w' ⟨A', c', rfl, h1, h2, h3⟩
    exact ⟨0, A', _, c', _, rfl, h1, h2, h3, .inl ⟨rfl, hide rfl⟩⟩
  · refine (push_no_s p A n c xs 8 B 1 d w h hr (by omega)).mono ?_
    rintro e w' ⟨rfl, nd, rfl⟩
    have := h.le
    exact ⟨8, A, n, c, xs, rfl, h.new (new_draw w nd), (new_draw w nd).to, fun k hk => .inl hk, .inr ⟨rfl, by omega, hide rfl⟩⟩

set_option maxHeartbeats 4000000 in
theorem law_order_walk (A : Option Addr) (n c : Nat) (l : List ByteArray) (B : Option Addr) (m d : Nat) (b : List Bool) (w : World) (h : Rd w 1 A n c (vss l)) (hb : Rd w 1 B m d (vsb b)) :
    Calls Try.prog 4 #[.slice A n c, .slice B m d] w fun e w' => e = .returned (.bool true) ∧ New w w' := by
  go_enter Try.func4, Try.ntmps4
  go_wp2_with fail
  refine (new_lit_s 8 8 _ rfl (by omega) (by omega)).mono ?_
  rintro e w1 ⟨rfl, hr1, hn1⟩
  go_wp2_with fail
  refine (awake_any _).mono ?_
  rintro e w2 ⟨rfl, hn2⟩
  go_wp2_with fail
  obtain ⟨p, hp⟩ : ∃ p, p = w.heap.size := ⟨_, rfl⟩
  have hord : Ord w w2 p none 0 0 [] none 0 0 [] none 0 0 [] := ⟨Own.nil _ _ _ _, Own.nil _ _ _ _, by rw [hp]; exact hr1.new hn2, (fun k hk => absurd hk (inA_none k)), (fun k hk => absurd hk (inA_none k)), (fun k hk => absurd hk (inA_none k)), by omega, hn1.then hn2⟩
  rw [← hp]
  clear hp hr1 hn1 hn2
  have hlen := h.lens
  have hblen : b.length = m := by have := hb.len; simp [vsb] at this; omega
  have HL := hide hlen
  have HB := hide hblen
  clear hlen hblen
  go_loopg [7, 8, 9] 40 (fun g s7 s8 s9 wr => RelO w p n g s7 s8 s9 wr)
  case atStart => exact ⟨0, none, 0, 0, [], none, 0, 0, [], none, 0, 0, [], rfl, by omega, rfl, rfl, rfl, hide rfl, by omega, hord⟩
  case round =>
    clear hord
    obtain ⟨i, A1, n1, c1, i1, A2, n2, c2, i2, Ar, nr, cr, q, hgk, hi, rfl, rfl, rfl, hio, hn1, hO⟩ := hrel
    by_cases hgo : i < n ∧ i < 40
    · obtain ⟨hi2, hi40⟩ := hgo
      have hz : decide ((i : Int) < n) = true := decide_eq_true (by omega)
      have hz2 : decide (i < n) = true := decide_eq_true (by omega)
      have hz6 : decide ((i : Int) < 40) = true := decide_eq_true (by omega)
      obtain ⟨ad, rfl⟩ := h.some (by omega)
      obtain ⟨x, hx⟩ : ∃ x, l[i]? = some x := ⟨_, List.getElem?_eq_getElem (by have := HL.out; omega)⟩
      have hcx := (h.new hO.nw).cells hx
      have HX := hide hx
      have HG := hide hgk
      clear hx hgk
      go_wp2_with fail
      refine (push_t p Ar nr cr q _ _ x _ (hO.rg.new (New.alloc1 _ _)) (rd_box wr _ _ rfl)).mono ?_
      rintro e w1 ⟨v, Ar1, nr1, cr1, q1, rfl, hr1, he1, hf1, hv⟩
      have hO1 := (hO.new (New.alloc1 wr _)).ring hr1 he1 hf1
      go_upto_if 44 with (fail)
      go_cut [7] (fun s7 wc => CutO w p i A2 n2 c2 i2 s7 wc)
      case first =>
        rcases hv with ⟨rfl, hq1⟩ | ⟨rfl, rfl, hq1⟩
        · obtain ⟨x', q', e'⟩ : ∃ x' q', q1 = x' :: q' := by rw [hq1.out]; cases q <;> simp
          have hcx1 := (h.new hO1.nw).cells HX.out
          have hsz := hO1.nw.size
          go_wp2_with (at_builtin; refine app_s rfl _ _ rfl w.heap.size rfl rfl (hO1.o1.new (New.alloc1 _ _)) (rd_box _ _ _ rfl) (by omega) (by simp; omega) ?_; intro A1' c1' w2 ho2 he2 hA2)
          go_meet
          subst e'
          refine ⟨A1', n1 + 1, c1', i1 ++ [x], Ar1, nr1, cr1, x', q', rfl, hide (by rw [hio.out, List.append_assoc]; exact congrArg _ hq1.out.symm), by omega, (hO1.new (New.alloc1 w1 _)).row1 (by rw [vss_append]; exact ho2) he2 hA2⟩
        · obtain ⟨x', q', e'⟩ : ∃ x' q', q1 = x' :: q' := by
            have := hO1.rg.len
            cases q1 with
            | nil => simp at this
            | cons a b => exact ⟨_, _, rfl⟩
          go_wp2_with fail
          refine (len_s p Ar1 8 cr1 q1 8 _ hO1.rg).mono ?_
          rintro e w2 ⟨rfl, rfl⟩
          go_wp2_with fail
          go_meet
          subst e'
          exact ⟨A1, n1, c1, i1, Ar1, 8, cr1, x', q', rfl, hide (by rw [hio.out, hq1.out]), by omega, hO1⟩
      case rest =>
        clear hcx hO hr1 he1 hf1 hv hO1 hio
        obtain ⟨A1', n1', c1', i1', Ar', nr', cr', x', q', rfl, hio', hn1', hO'⟩ := hcut
        by_cases hm : i < m
        · have dm : decide ((i : Int) < m) = true := decide_eq_true (by omega)
          have dm2 : decide (i < m) = true := decide_eq_true (by omega)
          obtain ⟨bd, rfl⟩ := hb.some (by omega)
          obtain ⟨v, hv⟩ : ∃ v, b[i]? = some v := ⟨_, List.getElem?_eq_getElem (by have := HB.out; omega)⟩
          have hcb := (hb.new hO'.nw).cell bd rfl i (.bool v) (by rw [vsb, List.getElem?_map, hv]; rfl)
          clear hv
          cases v with
          | false =>
            go_wp2_with fail
            go_roundg (40 - (i + 1))
            case measure => have := HG.out; omega
            case rel => exact ⟨i + 1, A1', n1', c1', i1', A2, n2, c2, i2, Ar', nr', cr', _, rfl, by omega, rfl, rfl, by go_num, hio', by omega, hO'⟩
          | true =>
            go_wp2_with fail
            refine (pop_s p Ar' nr' cr' x' q' 8 _ hO'.rg).mono ?_
            rintro e w2 ⟨Ar2, cr2, rfl, hr2, he2, hf2⟩
            have hO2 := hO'.ring hr2 he2 hf2
            have hsz := hO2.nw.size
            have hl2 := hO2.o2.rd.lens
            have hl1 := hO2.o1.rd.lens
            have hle2 : n2 ≤ 41 := by rw [← hl2]; have := congrArg List.length hio'.out; simp at this; omega
            clear hl1 hl2
            go_wp2_with (at_builtin; refine app_s rfl _ _ rfl w.heap.size rfl rfl (hO2.o2.new (New.alloc1 _ _)) (rd_box _ _ _ rfl) (by omega) (by simp; omega) ?_; intro A2' c2' w3 ho3 he3 hA3)
            go_roundg (40 - (i + 1))
            case measure => have := HG.out; omega
            case rel => exact ⟨i + 1, A1', n1', c1', i1', A2', n2 + 1, c2', i2 ++ [x'], Ar2, nr' - 1, cr2, q', rfl, by omega, rfl, rfl, by go_num, hide (by rw [hio'.out]; simp), by omega, (hO2.new (New.alloc1 w2 _)).row2 (by rw [vss_append]; exact ho3) he3 hA3⟩
        · have dm : decide ((i : Int) < m) = false := decide_eq_false (by omega)
          have dm2 : decide (i < m) = false := decide_eq_false (by omega)
          go_wp2_with fail
          go_roundg (40 - (i + 1))
          case measure => have := HG.out; omega
          case rel => exact ⟨i + 1, A1', n1', c1', i1', A2, n2, c2, i2, Ar', nr', cr', _, rfl, by omega, rfl, rfl, by go_num, hio', by omega, hO'⟩
    · have hl2 := hO.o2.rd.lens
      have hl1 := hO.o1.rd.lens
      have hlq := hO.rg.len
      have hsum : n1 = n2 + nr := by have := congrArg List.length hio.out; simp at this; omega
      have hle := hO.rg.le
      have hend : (decide ((i : Int) < n) = false ∧ decide (i < n) = false ∧ decide ((i : Int) < 40) = false) ∨ (decide ((i : Int) < n) = false ∧ decide (i < n) = false ∧ decide ((i : Int) < 40) = true) ∨ (decide ((i : Int) < n) = true ∧ decide (i < n) = true ∧ decide ((i : Int) < 40) = false) := by
        by_cases hi2 : i < n
        · exact .inr (.inr ⟨decide_eq_true (by omega), decide_eq_true (by omega), decide_eq_false (by omega)⟩)
        · by_cases h4 : i < 40
          · exact .inr (.inl ⟨decide_eq_false (by omega), decide_eq_false (by omega), decide_eq_true (by omega)⟩)
          · exact .inl ⟨decide_eq_false (by omega), decide_eq_false (by omega), decide_eq_false (by omega)⟩
      have H2 := hide hl2
      have H1 := hide hl1
      have HQ := hide hlq
      have HG := hide hgk
      clear hl1 hl2 hlq hgk
      subst hsum
      have hrd1 := hO.o1.rd
      obtain ⟨hnl⟩ : Nonempty (n2 + nr ≤ 40) := ⟨by omega⟩
      rcases hend with ⟨hz, hz2, hz6⟩ | ⟨hz, hz2, hz6⟩ | ⟨hz, hz2, hz6⟩ <;> (
        go_wp2_with fail
        refine (list_s p Ar nr cr q 8 _ hO.rg).mono ?_
        rintro e w2 ⟨A3, c3, rfl, ho3, hn3⟩
        have hO2 := hO.new hn3
        have hsz := hO2.nw.size
        go_wp2_with (at_builtin; refine app_s rfl _ _ rfl w.heap.size rfl rfl hO2.o2 ho3.rd (by omega) (by omega) ?_; intro A2' c2' w3 ho4 he4 hA4)
        have hn4 : New w w3 := hO2.nw.trans he4 (fun k hk hj => by have := (hO2.o2.at_ hj).1; omega)
        have r1 := (hO2.o1.keep he4 (fun k hk hj => hO2.d12 k hk hj)).rd
        have r2 := ho4.rd
        rw [← vss_append, ← hio.out] at r2
        have l1 : i1.length = n2 + nr := H1.out
        have HL1 := hide l1
        clear l1 H1
        generalize n2 + nr = M at *
        go_loopw [12] (fun j wj => New w3 wj ∧ ∃ k : Nat, k ≤ M ∧ j = .int .i64 (k : Nat)) (fun j _ => M - (intOf j).toNat)
        case atStart => exact ⟨Ext.refl _ _, 0, Nat.zero_le _, rfl⟩
        case round =>
          obtain ⟨hnj, k, hk, rfl⟩ := hrel
          by_cases hkM : k < M
          · have k1 : decide ((k : Int) < M) = true := decide_eq_true (by omega)
            have k2 : decide (k < M) = true := decide_eq_true (by omega)
            obtain ⟨a1, rfl⟩ := r1.some (by omega)
            obtain ⟨a2, rfl⟩ := r2.some (by omega)
            obtain ⟨y, hy⟩ : ∃ y, i1[k]? = some y := ⟨_, List.getElem?_eq_getElem (by have := HL1.out; omega)⟩
            have g1 := (r1.new hnj).cells hy
            have g2 := (r2.new hnj).cells hy
            clear hy
            go_wp2_with fail
            go_quiet (fail)
            go_wp2_with fail
            exact ⟨⟨hnj.then (new_draw _ _), k + 1, by omega, by go_num⟩, by simp [intOf]; omega⟩
          · have k1 : decide ((k : Int) < M) = false := decide_eq_false (by omega)
            have k2 : decide (k < M) = false := decide_eq_false (by omega)
            go_wp2_with fail
            go_ret
            exact ⟨rfl, hn4.then hnj⟩)

open Go.ChangeShapes Go.WideShapes in
theorem open_rows9 {H : Type} {enc : TypeId × Value → H} {W : World} {a : Option Addr} {n c : Nat} {d : DataW H} {ps : List MemPlace} {ts : List TypeId} {ds : List (DataW H)} {j t : Nat}
    (hsz : (DataW.weightsEach Try.prog ts ds).all (· ≤ reachBytes) = true) (ht : ts[j]? = some t) (hd : ds[j]? = some d) (e : t = 39) (h : DataW.Trod enc Try.prog W 0 (fun _ => true) true 39 (.slice a n c) d ps) :
    ∃ l : List ByteArray, Rd W 1 a n c (vss l) ∧ True := by
  subst e
  obtain ⟨l, hr, _⟩ := open_strs Try.underlying39 Try.underlying9 (by kernel_rfl) rfl hsz ht hd h
  exact ⟨l, hr, trivial⟩
open Go.ChangeShapes Go.WideShapes in
theorem open_rows4 {H : Type} {enc : TypeId × Value → H} {W : World} {a : Option Addr} {n c : Nat} {d : DataW H} {ps : List MemPlace} {ts : List TypeId} {ds : List (DataW H)} {j t : Nat}
    (hsz : (DataW.weightsEach Try.prog ts ds).all (· ≤ reachBytes) = true) (ht : ts[j]? = some t) (hd : ds[j]? = some d) (e : t = 40) (h : DataW.Trod enc Try.prog W 0 (fun _ => true) true 40 (.slice a n c) d ps) :
    ∃ l : List Bool, Rd W 1 a n c (vsb l) ∧ True := by
  subst e
  obtain ⟨l, hr⟩ := open_bools Try.underlying40 Try.underlying4 (by kernel_rfl) rfl hsz ht hd h
  exact ⟨l, hr, trivial⟩

theorem law_order (A : Option Addr) (n c : Nat) (l : List ByteArray) (B : Option Addr) (m d : Nat) (b : List Bool) (w : World) (h : Rd w 1 A n c (vss l)) (_ : True) (hb : Rd w 1 B m d (vsb b)) (_ : True) :
    Calls Try.prog 4 #[.slice A n c, .slice B m d] w fun e w' => e = .returned (.bool true) ∧ New w w' :=
  law_order_walk A n c l B m d b w h hb
end Go.Proofs.Ytafeeafccbdkfaa
