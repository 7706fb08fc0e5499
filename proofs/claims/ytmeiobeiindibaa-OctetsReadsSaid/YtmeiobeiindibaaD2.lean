/- Walks: the law on readers. -/
import Derived.Test.YtmeiobeiindibaaD1
import Derived.Test.YtmeiobeiindibaaC7
import Derived.Deep.DeepCutAuto
namespace Go.Proofs.Ytmeiobeiindibaa
open Go.RowKit
set_option maxRecDepth 100000

/-- The cells of calls. -/
def opCells (l : List (Int × Int)) : List Value := l.flatMap fun o => [.int .u8 o.1, .int .i64 o.2]
theorem opCells_length (l : List (Int × Int)) : (opCells l).length = l.length * 2 := by
  induction l with
  | nil => rfl
  | cons o l ih => rw [opCells, List.flatMap_cons, List.length_append, ← opCells, ih]; simp; omega
theorem opCells_get (l : List (Int × Int)) (i : Nat) (h : i < l.length) : ∃ o ∈ l, (opCells l)[i * 2]? = some (.int .u8 o.1) ∧ (opCells l)[i * 2 + 1]? = some (.int .i64 o.2) := by
  induction l generalizing i with
  | nil => simp at h
  | cons o l ih =>
    rw [show opCells (o :: l) = .int .u8 o.1 :: .int .i64 o.2 :: opCells l from rfl]
    cases i with
    | zero => exact ⟨o, List.mem_cons_self, rfl, rfl⟩
    | succ i =>
      obtain ⟨o', hm, h0, h1⟩ := ih i (by simpa using h)
      refine ⟨o', List.mem_cons_of_mem _ hm, ?_, ?_⟩
      · rw [show (i + 1) * 2 = i * 2 + 1 + 1 by omega, List.getElem?_cons_succ, List.getElem?_cons_succ]; exact h0
      · rw [show (i + 1) * 2 + 1 = (i * 2 + 1) + 1 + 1 by omega, List.getElem?_cons_succ, List.getElem?_cons_succ]; exact h1
theorem add_off (a : Addr) (j : Nat) (h : j ≠ 0) : a.add j = ⟨a.block, a.off + j, none⟩ := by unfold Addr.add; rw [if_neg h]
theorem op_at {w : World} {ad : Addr} {n c : Nat} {l : List (Int × Int)} (h : Rd w 2 (some ad) n c (opCells l)) (i : Nat) (hi : i < n) : ∃ kd v, (kd, v) ∈ l ∧ w.cell? (ad.add (i * 2)) = some (.int .u8 kd) ∧ w.cell? ⟨(ad.add (i * 2)).block, (ad.add (i * 2)).off + 1, none⟩ = some (.int .i64 v) := by
  have hl := h.len
  rw [opCells_length] at hl
  obtain ⟨o, hm, h0, h1⟩ := opCells_get l i (by omega)
  refine ⟨o.1, o.2, hm, h.cell ad rfl _ _ h0, ?_⟩
  rw [← add_off _ 1 (by omega), add_add]
  exact h.cell ad rfl _ _ h1
theorem New.cell {w w' : World} (h : New w w') {a : Addr} {v : Value} (hc : w.cell? a = some v) : w'.cell? a = some v :=
  (World.cell?_of_block (h.block _ (World.block_lt_of_cell? w _ hc) (fun h => h))).trans hc
/-- The box in which the document's reader lies. -/
def Box (w : World) (q : Nat) (A : Option Addr) (m c : Nat) (bad : Bool) : Prop := w.heap[q]? = some (.cells #[.slice A m c, .bool bad] 35)

def HRd (w : World) (A : Option Addr) (m c : Nat) (l : List Int) : Prop := Rd w 1 A m c (bts l)
theorem HRd.mk {w : World} {A : Option Addr} {m c : Nat} {l : List Int} (h : Rd w 1 A m c (bts l)) : HRd w A m c l := h
theorem HRd.out {w : World} {A : Option Addr} {m c : Nat} {l : List Int} (h : HRd w A m c l) : Rd w 1 A m c (bts l) := h
/-- Behind the document's Take. -/
def CutT (w wr : World) (t : List Int) (bad : Bool) (n : Int) (v8 v9 : Value) (wc : World) : Prop := ∃ (A1 : Option Addr) (m1 c1 : Nat) (A2 : Option Addr) (m2 c2 pn : Nat),
  v8 = .pointer (some ⟨pn, 0, none⟩) ∧ v9 = .slice A2 m2 c2 ∧ HRd w A1 m1 c1 (takeS t bad n).1 ∧ HRd w A2 m2 c2 (takeS t bad n).2.2 ∧ Box wc pn A1 m1 c1 (takeS t bad n).2.1 ∧ New wr wc
def CutN (w wr : World) (t : List Int) (bad : Bool) (n : Int) (v8 v9 : Value) (wc : World) : Prop := ∃ (A1 : Option Addr) (m1 c1 : Nat) (pn : Nat),
  v8 = .pointer (some ⟨pn, 0, none⟩) ∧ v9 = .int .u64 (numS t bad n).2.2 ∧ HRd w A1 m1 c1 (numS t bad n).1 ∧ Box wc pn A1 m1 c1 (numS t bad n).2.1 ∧ New wr wc
/-- The two readers stand alike. -/
def RelS (w : World) (p q : Nat) (wr : World) : Prop := ∃ (t : List Int) (Ax : Option Addr) (mx cx : Nat) (Ar : Option Addr) (mr cr : Nat) (bad : Bool), Rdr wr p Ax mx cx (!bad) ∧ Box wr q Ar mr cr bad ∧ HRd w Ax mx cx t ∧ HRd w Ar mr cr t ∧ isB t ∧ (bad = true → t = []) ∧ t.length ≤ 500 ∧ New w wr
/-- What holds at each round's head. -/
def Rel (w : World) (p q n2 g : Nat) (s7 : Value) (wr : World) : Prop := ∃ (i : Nat), i ≤ n2 ∧ i ≤ 60 ∧ g = 60 - i ∧ s7 = .int .i64 i ∧ RelS w p q wr
theorem ext_new {w a b : World} {p : Nat} (h : New w a) (k : Ext (fun k => k = p) a b) (hp : w.heap.size ≤ p) : New w b := Ext.trans h k (fun i hi e => by omega)

set_option maxHeartbeats 4000000 in
theorem law_reads_walk (A : Option Addr) (m c : Nat) (l : List Int) (AO : Option Addr) (n2 cO : Nat) (ops : List (Int × Int)) (w : World) (hr : Rd w 1 A m c (bts l)) (hl : isB l) (ho : Rd w 2 AO n2 cO (opCells ops)) :
    Calls Try.prog 4 #[.slice A m c, .slice AO n2 cO] w fun e w' => e = .returned (.bool true) ∧ New w w' := by
  obtain ⟨k, hk⟩ : ∃ k, k = min m 500 := ⟨_, rfl⟩
  obtain ⟨b, hb⟩ : ∃ b, b = l.take k := ⟨_, rfl⟩
  have hkm : k ≤ m := by omega
  have hr' := hr.take k hkm
  rw [Nat.mul_one, bts_take, ← hb] at hr'
  have hl' : isB b := fun x hx => hl x (by rw [hb] at hx; exact List.mem_of_mem_take hx)
  have h5 : k ≤ 500 := by omega
  have hlb : b.length = k := by have := hr'.len; rw [bts_length] at this; omega
  have HK := hide hk
  clear hk hb
  go_enter Try.func4, Try.ntmps4
  go_wp2_with fail
  refine (cut_any A m c k _ hr.cap HK.out).mono ?_
  rintro e w1 ⟨rfl, rfl⟩
  go_wp2_with fail
  refine (new_any A k c _).mono ?_
  rintro e w1 ⟨p, rfl, hp, hd, hn1⟩
  have hlt := blk_lt hd
  go_wp2_with fail
  refine (awake_any _).mono ?_
  rintro e w2 ⟨rfl, hn2⟩
  have hx2 : Box w2 w1.heap.size A k c false := hn2.keep (blk_new w1 _)
  have hw2 : New w w2 := hn1.then (New.then (New.alloc1 w1 _) hn2)
  have hd2 := hd.keep (New.then (New.alloc1 w1 _) hn2) (fun h => h)
  obtain ⟨q, hq⟩ : ∃ q, q = w1.heap.size := ⟨_, rfl⟩
  rw [← hq] at hx2
  have hpq : w.heap.size ≤ p ∧ w.heap.size ≤ q ∧ p < q := by have := hn1.size; omega
  go_wp2_with fail
  rw [← hq]
  clear hq hn2 hn1 hd hlt
  have hrd := HRd.mk hr'
  clear hr hr'
  go_loopg [7] 60 (fun g s7 wr => Rel w p q n2 g s7 wr)
  case atStart => exact ⟨0, Nat.zero_le _, by omega, rfl, rfl, b, A, k, c, A, k, c, false, hd2, hx2, hrd.out, hrd.out, hl', (fun h => by cases h), by omega, hw2⟩
  case round =>
    obtain ⟨i, hi, hi6, rfl, rfl, hS⟩ := hrel
    by_cases hgo : i < n2 ∧ i < 60
    · obtain ⟨hi2, hi60⟩ := hgo
      have hz : decide ((i : Int) < n2) = true := decide_eq_true (by omega)
      have hz6 : decide ((i : Int) < 60) = true := decide_eq_true (by omega)
      obtain ⟨t, Ax, mx, cx, Ar, mr, cr, bad, hdr, hbr, hrx, hrr, hB, hbad, ht, hnw⟩ := hS
      obtain ⟨ad, rfl⟩ := ho.some (by omega)
      obtain ⟨kd, n, hmem, hk0, hk1⟩ := op_at ho i hi2
      have hk0w := hnw.cell hk0
      have hk1w := hnw.cell hk1
      go_upto_if 42 with (fail)
      go_cut [] (fun wc => RelS w p q wc)
      case first =>
          have hlt : t.length = mr := by have := hrr.out.len; rw [bts_length] at this; omega
          have hlx : t.length = mx := by have := hrx.out.len; rw [bts_length] at this; omega
          have b0 : ∀ x : Lat (fun _ => False) wr, x.W.cell? ⟨q, 0, none⟩ = some (.slice Ar mr cr) := fun x => blk_cell (New.keep x.ext hbr) 0
          have b1 : ∀ x : Lat (fun _ => False) wr, x.W.cell? ⟨q, 1, none⟩ = some (.bool bad) := fun x => blk_cell (New.keep x.ext hbr) 1
          have o1 : ∀ x : Lat (fun _ => False) wr, x.W.cell? ⟨(ad.add (i * 2)).block, (ad.add (i * 2)).off + 1, none⟩ = some (.int .i64 n) := fun x => New.cell x.ext hk1w
          by_cases hkd : (kd.tmod 3 == 2) = true
          · go_upto_region 9 with (fail)
            go_cut [8, 9] (fun v8 v9 wc => CutT w wr t bad n v8 v9 wc)
            case first =>
              refine mix_start (fun _ => False) wr (by kernel_rfl) ?_
              refine mix_batch [0, 1, 2, 3, 4, 5] (by kernel_rfl) 7 _ _ _ (by kernel_rfl) (lat_mem (by (repeat (first | exact Ext.refl _ _ | assumption | apply Ext.alloc | apply Ext.drewN | apply Ext.drew | refine Ext.setCell ?_ (fun h => by first | rfl | exact absurd h (by dsimp only; omega)) _)))) ?_
              simp only [pickOps, List.getD_cons_zero, List.getD_cons_succ]
              repeat (go_big_quiet_step (fail))
              refine wpQuiet_nil ?_
              refine mix_two (i := 6) (j := 10) (by kernel_rfl) rfl rfl (fun K hK => ?_) (fun K hK => ?_)
              · go_simp
                refine (rtake_any Ar mr cr t n bad _ (hrr.out.new (hnw.then (by (repeat (first | exact Ext.refl _ _ | assumption | apply Ext.alloc | apply Ext.drewN | apply Ext.drew | refine Ext.setCell ?_ (fun h => by first | rfl | exact absurd h (by dsimp only; omega)) _)))))).mono ?_
                rintro e wa ⟨A1, m1, c1, A2, m2, c2, rfl, hs1, hs2, hna⟩
                have hna' : New wr wa := New.then (by (repeat (first | exact Ext.refl _ _ | assumption | apply Ext.alloc | apply Ext.drewN | apply Ext.drew | refine Ext.setCell ?_ (fun h => by first | rfl | exact absurd h (by dsimp only; omega)) _))) hna
                refine hK.out _ _ (lat_mem (by (repeat (first | exact Ext.refl _ _ | assumption | apply Ext.alloc | apply Ext.drewN | apply Ext.drew | refine Ext.setCell ?_ (fun h => by first | rfl | exact absurd h (by dsimp only; omega)) _)))) ?_
                clear hK
                refine mix_batch [7, 8, 9] (by kernel_rfl) 3 _ _ _ (by kernel_rfl) (lat_mem (by (repeat (first | exact Ext.refl _ _ | assumption | apply Ext.alloc | apply Ext.drewN | apply Ext.drew | refine Ext.setCell ?_ (fun h => by first | rfl | exact absurd h (by dsimp only; omega)) _)))) ?_
                simp only [pickOps, List.getD_cons_zero, List.getD_cons_succ]
                repeat (go_big_quiet_step (fail))
                refine wpQuiet_nil ?_
                refine mix_loud (i := 10) (by kernel_rfl) rfl (fun K hK => ?_)
                go_simp
                refine hK.out _ _ (lat_mem (by (repeat (first | exact Ext.refl _ _ | assumption | apply Ext.alloc | apply Ext.drewN | apply Ext.drew | refine Ext.setCell ?_ (fun h => by first | rfl | exact absurd h (by dsimp only; omega)) _)))) ?_
                clear hK
                refine mix_loud (i := 11) (by kernel_rfl) rfl (fun K hK => ?_)
                go_simp
                refine hK.out _ _ (lat_mem (by (repeat (first | exact Ext.refl _ _ | assumption | apply Ext.alloc | apply Ext.drewN | apply Ext.drew | refine Ext.setCell ?_ (fun h => by first | rfl | exact absurd h (by dsimp only; omega)) _)))) ?_
                clear hK
                refine mix_batch [12] (by kernel_rfl) 0 _ _ _ (by kernel_rfl) (lat_mem (by (repeat (first | exact Ext.refl _ _ | assumption | apply Ext.alloc | apply Ext.drewN | apply Ext.drew | refine Ext.setCell ?_ (fun h => by first | rfl | exact absurd h (by dsimp only; omega)) _)))) ?_
                simp only [pickOps, List.getD_cons_zero, List.getD_cons_succ]
                repeat (go_big_quiet_step (fail))
                refine wpQuiet_nil ?_
                refine wpAnyH_done (by kernel_rfl) (NoPanic.normal ?_) _
                go_wp2_with fail
                go_meet
                exact ⟨A1, m1, c1, A2, m2, c2, _, rfl, rfl, hs1 w hrr.out, hs2 w hrr.out, blk_new wa _, by (repeat (first | exact Ext.refl _ _ | assumption | apply Ext.alloc | apply Ext.drewN | apply Ext.drew | refine Ext.setCell ?_ (fun h => by first | rfl | exact absurd h (by dsimp only; omega)) _))⟩
              · go_simp
                have hnb : New wr (wr.drew.alloc (.cells #[.slice none 0 0, .bool false] 35)) := by (repeat (first | exact Ext.refl _ _ | assumption | apply Ext.alloc | apply Ext.drewN | apply Ext.drew | refine Ext.setCell ?_ (fun h => by first | rfl | exact absurd h (by dsimp only; omega)) _))
                have hbb : (wr.drew.alloc (.cells #[.slice none 0 0, .bool false] 35)).heap[wr.heap.size]? = some (.cells #[.slice none 0 0, .bool false] 35) := blk_new wr.drew _
                refine hK.out _ _ (lat_mem (by (repeat (first | exact Ext.refl _ _ | assumption | apply Ext.alloc | apply Ext.drewN | apply Ext.drew | refine Ext.setCell ?_ (fun h => by first | rfl | exact absurd h (by dsimp only; omega)) _)))) ?_
                clear hK
                refine mix_loud (i := 6) (by kernel_rfl) rfl (fun K hK => ?_)
                go_simp
                refine (rtake_any Ar mr cr t n bad _ (hrr.out.new (hnw.then hnb))).mono ?_
                rintro e wa ⟨A1, m1, c1, A2, m2, c2, rfl, hs1, hs2, hna⟩
                have hna' : New wr wa := hnb.then hna
                have hbc := hna.keep hbb
                have c0 : wa.cell? ⟨wr.heap.size, 0, none⟩ = some (.slice none 0 0) := blk_cell hbc 0
                have c1' : wa.cell? ⟨wr.heap.size, 1, none⟩ = some (.bool false) := blk_cell hbc 1
                have f0 := blk_free hbc 0
                have f1 := blk_free hbc 1
                refine hK.out _ _ (lat_mem (by (repeat (first | exact Ext.refl _ _ | assumption | apply Ext.alloc | apply Ext.drewN | apply Ext.drew | refine Ext.setCell ?_ (fun h => by first | rfl | exact absurd h (by dsimp only; omega)) _)))) ?_
                clear hK
                refine mix_batch [7, 8, 9] (by kernel_rfl) 2 _ _ _ (by kernel_rfl) (lat_mem (by (repeat (first | exact Ext.refl _ _ | assumption | apply Ext.alloc | apply Ext.drewN | apply Ext.drew | refine Ext.setCell ?_ (fun h => by first | rfl | exact absurd h (by dsimp only; omega)) _)))) ?_
                simp only [pickOps, List.getD_cons_zero, List.getD_cons_succ]
                repeat (go_big_quiet_step (fail))
                refine wpQuiet_nil ?_
                refine mix_loud (i := 11) (by kernel_rfl) rfl (fun K hK => ?_)
                go_simp
                refine hK.out _ _ (lat_mem (by (repeat (first | exact Ext.refl _ _ | assumption | apply Ext.alloc | apply Ext.drewN | apply Ext.drew | refine Ext.setCell ?_ (fun h => by first | rfl | exact absurd h (by dsimp only; omega)) _)))) ?_
                clear hK
                clear c0 c1' f0 f1
                refine mix_batch [12] (by kernel_rfl) 0 _ _ _ (by kernel_rfl) (lat_mem (by (repeat (first | exact Ext.refl _ _ | assumption | apply Ext.alloc | apply Ext.drewN | apply Ext.drew | refine Ext.setCell ?_ (fun h => by first | rfl | exact absurd h (by dsimp only; omega)) _)))) ?_
                simp only [pickOps, List.getD_cons_zero, List.getD_cons_succ]
                repeat (go_big_quiet_step (fail))
                refine wpQuiet_nil ?_
                refine wpAnyH_done (by kernel_rfl) (NoPanic.normal ?_) _
                go_wp2_with fail
                go_meet
                exact ⟨A1, m1, c1, A2, m2, c2, _, rfl, rfl, hs1 w hrr.out, hs2 w hrr.out, blk_set (blk_set hbc 0 _) 1 _, by (repeat (first | exact Ext.refl _ _ | assumption | apply Ext.alloc | apply Ext.drewN | apply Ext.drew | refine Ext.setCell ?_ (fun h => by first | rfl | exact absurd h (by dsimp only; omega)) _))⟩
            case rest =>
              obtain ⟨A1, m1, c1, A2, m2, c2, pn, rfl, rfl, hs1, hs2, hbp, hnc⟩ := hcut
              have hbq := New.keep hnc hbr
              have g0 : wc.cell? ⟨pn, 0, none⟩ = some (.slice A1 m1 c1) := blk_cell hbp 0
              have g1 : wc.cell? ⟨pn, 1, none⟩ = some (.bool (takeS t bad n).2.1) := blk_cell hbp 1
              have k0 : wc.cell? ⟨q, 0, none⟩ = some (.slice Ar mr cr) := blk_cell hbq 0
              have k1 : wc.cell? ⟨q, 1, none⟩ = some (.bool bad) := blk_cell hbq 1
              have f0 := blk_free hbq 0
              have f1 := blk_free hbq 1
              clear b0 b1 o1
              have hw3 : Ext (fun k => k = q) wc ((wc.setCell ⟨q, 0, none⟩ (.slice A1 m1 c1)).setCell ⟨q, 1, none⟩ (.bool (takeS t bad n).2.1)) := ((Ext.refl _ wc).set (by rfl)).set (by rfl)
              have hb3 := blk_set (blk_set hbq 0 (.slice A1 m1 c1)) 1 (.bool (takeS t bad n).2.1)
              have hd3 := (hdr.keep hnc (fun h => h)).keep hw3 (by omega)
              have hn3 := ext_new (hnw.then hnc) hw3 hpq.2.1
              clear hbr hdr hbp
              go_wp2_with fail
              clear g0 g1 k0 k1 f0 f1
              generalize (wc.setCell ⟨q, 0, none⟩ (.slice A1 m1 c1)).setCell ⟨q, 1, none⟩ (.bool (takeS t bad n).2.1) = w3 at *
              have ho3 : ∀ x : Lat (fun k => k = p) w3, x.W.cell? ⟨(ad.add (i * 2)).block, (ad.add (i * 2)).off + 1, none⟩ = some (.int .i64 n) := fun x => New.cell (ext_new hn3 x.ext hpq.1) hk1
              have hc3 : ∀ x : Lat (fun k => k = p) w3, (convert 22 9 (.slice A2 m2 c2)).run Try.prog x.W = .ok (.string (strOfNums (takeS t bad n).2.2)) x.W := fun x => Str.of (hs2.out.new (ext_new hn3 x.ext hpq.1))
              refine mix_start (fun k => k = p) w3 (by kernel_rfl) ?_
              refine mix_batch [0, 1, 2, 3, 4, 5, 8, 9] (by kernel_rfl) 3 _ _ _ (by kernel_rfl) (lat_mem (by (repeat (first | exact Ext.refl _ _ | assumption | apply Ext.alloc | apply Ext.drewN | apply Ext.drew | refine Ext.setCell ?_ (fun h => by first | rfl | exact absurd h (by dsimp only; omega)) _)))) ?_
              simp only [pickOps, List.getD_cons_zero, List.getD_cons_succ]
              repeat (go_big_quiet_step (fail))
              refine wpQuiet_nil ?_
              refine mix_loud (i := 6) (by kernel_rfl) rfl (fun K hK => ?_)
              go_simp
              refine (ptake_any p Ax mx cx t n bad _ (hd3.keep (show New w3 w3.drew by (repeat (first | exact Ext.refl _ _ | assumption | apply Ext.alloc | apply Ext.drewN | apply Ext.drew | refine Ext.setCell ?_ (fun h => by first | rfl | exact absurd h (by dsimp only; omega)) _))) (fun h => h)) (hrx.out.new (hn3.then (by (repeat (first | exact Ext.refl _ _ | assumption | apply Ext.alloc | apply Ext.drewN | apply Ext.drew | refine Ext.setCell ?_ (fun h => by first | rfl | exact absurd h (by dsimp only; omega)) _))))) (by omega) hbad).mono ?_
              rintro e w4 ⟨A4, m4, c4, A5, m5, c5, rfl, hr4, hd4, hs4, he4⟩
              have he4' : Ext (fun k => k = p) w3 w4 := Ext.trans (show Ext (fun k => k = p) w3 w3.drew by (repeat (first | exact Ext.refl _ _ | assumption | apply Ext.alloc | apply Ext.drewN | apply Ext.drew | refine Ext.setCell ?_ (fun h => by first | rfl | exact absurd h (by dsimp only; omega)) _))) he4 (fun _ _ h => h)
              refine hK.out _ _ (lat_mem he4') (mix_next he4' (fun _ _ (h : False) => h.elim) ?_)
              clear hK
              have hc4 : ∀ x : Lat (fun _ => False) w4, (convert 22 9 (.slice A4 m4 c4)).run Try.prog x.W = .ok (.string (strOfNums (takeS t bad n).2.2)) x.W := fun x => Str.of (hr4.new x.ext)
              refine mix_batch [7, 10] (by kernel_rfl) 0 _ _ _ (by kernel_rfl) (lat_mem (by (repeat (first | exact Ext.refl _ _ | assumption | apply Ext.alloc | apply Ext.drewN | apply Ext.drew | refine Ext.setCell ?_ (fun h => by first | rfl | exact absurd h (by dsimp only; omega)) _)))) ?_
              simp only [pickOps, List.getD_cons_zero, List.getD_cons_succ]
              repeat (go_big_quiet_step (fail))
              refine wpQuiet_nil ?_
              refine wpAnyH_done (by kernel_rfl) (NoPanic.normal ?_) _
              clear hc3 hc4 ho3
              go_wp2_with fail
              go_meet
              exact ⟨(takeS t bad n).1, A5, m5, c5, A1, m1, c1, (takeS t bad n).2.1, hd4, Ext.keep he4' hb3 (by omega), hs4 w hrx.out, hs1, takeS_isB t bad n hB, takeS_bad t bad n, Nat.le_trans (takeS_len t bad n) ht, ext_new hn3 he4' hpq.1⟩
          · go_upto_region 13 with (fail)
            go_cut [10, 11] (fun v8 v9 wc => CutN w wr t bad n v8 v9 wc)
            case first =>
              refine mix_start (fun _ => False) wr (by kernel_rfl) ?_
              refine mix_batch [0, 1, 2, 3, 4, 5] (by kernel_rfl) 7 _ _ _ (by kernel_rfl) (lat_mem (by (repeat (first | exact Ext.refl _ _ | assumption | apply Ext.alloc | apply Ext.drewN | apply Ext.drew | refine Ext.setCell ?_ (fun h => by first | rfl | exact absurd h (by dsimp only; omega)) _)))) ?_
              simp only [pickOps, List.getD_cons_zero, List.getD_cons_succ]
              repeat (go_big_quiet_step (fail))
              refine wpQuiet_nil ?_
              refine mix_two (i := 6) (j := 10) (by kernel_rfl) rfl rfl (fun K hK => ?_) (fun K hK => ?_)
              · go_simp
                refine (rnumber_any Ar mr cr t n bad _ (hrr.out.new (hnw.then (by (repeat (first | exact Ext.refl _ _ | assumption | apply Ext.alloc | apply Ext.drewN | apply Ext.drew | refine Ext.setCell ?_ (fun h => by first | rfl | exact absurd h (by dsimp only; omega)) _))))) hB).mono ?_
                rintro e wa ⟨A1, m1, c1, rfl, hs1, hna⟩
                have hna' : New wr wa := New.then (by (repeat (first | exact Ext.refl _ _ | assumption | apply Ext.alloc | apply Ext.drewN | apply Ext.drew | refine Ext.setCell ?_ (fun h => by first | rfl | exact absurd h (by dsimp only; omega)) _))) hna
                refine hK.out _ _ (lat_mem (by (repeat (first | exact Ext.refl _ _ | assumption | apply Ext.alloc | apply Ext.drewN | apply Ext.drew | refine Ext.setCell ?_ (fun h => by first | rfl | exact absurd h (by dsimp only; omega)) _)))) ?_
                clear hK
                refine mix_batch [7, 8, 9] (by kernel_rfl) 3 _ _ _ (by kernel_rfl) (lat_mem (by (repeat (first | exact Ext.refl _ _ | assumption | apply Ext.alloc | apply Ext.drewN | apply Ext.drew | refine Ext.setCell ?_ (fun h => by first | rfl | exact absurd h (by dsimp only; omega)) _)))) ?_
                simp only [pickOps, List.getD_cons_zero, List.getD_cons_succ]
                repeat (go_big_quiet_step (fail))
                refine wpQuiet_nil ?_
                refine mix_loud (i := 10) (by kernel_rfl) rfl (fun K hK => ?_)
                go_simp
                refine hK.out _ _ (lat_mem (by (repeat (first | exact Ext.refl _ _ | assumption | apply Ext.alloc | apply Ext.drewN | apply Ext.drew | refine Ext.setCell ?_ (fun h => by first | rfl | exact absurd h (by dsimp only; omega)) _)))) ?_
                clear hK
                refine mix_loud (i := 11) (by kernel_rfl) rfl (fun K hK => ?_)
                go_simp
                refine hK.out _ _ (lat_mem (by (repeat (first | exact Ext.refl _ _ | assumption | apply Ext.alloc | apply Ext.drewN | apply Ext.drew | refine Ext.setCell ?_ (fun h => by first | rfl | exact absurd h (by dsimp only; omega)) _)))) ?_
                clear hK
                refine mix_batch [12] (by kernel_rfl) 0 _ _ _ (by kernel_rfl) (lat_mem (by (repeat (first | exact Ext.refl _ _ | assumption | apply Ext.alloc | apply Ext.drewN | apply Ext.drew | refine Ext.setCell ?_ (fun h => by first | rfl | exact absurd h (by dsimp only; omega)) _)))) ?_
                simp only [pickOps, List.getD_cons_zero, List.getD_cons_succ]
                repeat (go_big_quiet_step (fail))
                refine wpQuiet_nil ?_
                refine wpAnyH_done (by kernel_rfl) (NoPanic.normal ?_) _
                go_wp2_with fail
                go_meet
                exact ⟨A1, m1, c1, _, rfl, rfl, hs1 w hrr.out, blk_new wa _, by (repeat (first | exact Ext.refl _ _ | assumption | apply Ext.alloc | apply Ext.drewN | apply Ext.drew | refine Ext.setCell ?_ (fun h => by first | rfl | exact absurd h (by dsimp only; omega)) _))⟩
              · go_simp
                have hnb : New wr (wr.drew.alloc (.cells #[.slice none 0 0, .bool false] 35)) := by (repeat (first | exact Ext.refl _ _ | assumption | apply Ext.alloc | apply Ext.drewN | apply Ext.drew | refine Ext.setCell ?_ (fun h => by first | rfl | exact absurd h (by dsimp only; omega)) _))
                have hbb : (wr.drew.alloc (.cells #[.slice none 0 0, .bool false] 35)).heap[wr.heap.size]? = some (.cells #[.slice none 0 0, .bool false] 35) := blk_new wr.drew _
                refine hK.out _ _ (lat_mem (by (repeat (first | exact Ext.refl _ _ | assumption | apply Ext.alloc | apply Ext.drewN | apply Ext.drew | refine Ext.setCell ?_ (fun h => by first | rfl | exact absurd h (by dsimp only; omega)) _)))) ?_
                clear hK
                refine mix_loud (i := 6) (by kernel_rfl) rfl (fun K hK => ?_)
                go_simp
                refine (rnumber_any Ar mr cr t n bad _ (hrr.out.new (hnw.then hnb)) hB).mono ?_
                rintro e wa ⟨A1, m1, c1, rfl, hs1, hna⟩
                have hna' : New wr wa := hnb.then hna
                have hbc := hna.keep hbb
                have c0 : wa.cell? ⟨wr.heap.size, 0, none⟩ = some (.slice none 0 0) := blk_cell hbc 0
                have c1' : wa.cell? ⟨wr.heap.size, 1, none⟩ = some (.bool false) := blk_cell hbc 1
                have f0 := blk_free hbc 0
                have f1 := blk_free hbc 1
                refine hK.out _ _ (lat_mem (by (repeat (first | exact Ext.refl _ _ | assumption | apply Ext.alloc | apply Ext.drewN | apply Ext.drew | refine Ext.setCell ?_ (fun h => by first | rfl | exact absurd h (by dsimp only; omega)) _)))) ?_
                clear hK
                refine mix_batch [7, 8, 9] (by kernel_rfl) 2 _ _ _ (by kernel_rfl) (lat_mem (by (repeat (first | exact Ext.refl _ _ | assumption | apply Ext.alloc | apply Ext.drewN | apply Ext.drew | refine Ext.setCell ?_ (fun h => by first | rfl | exact absurd h (by dsimp only; omega)) _)))) ?_
                simp only [pickOps, List.getD_cons_zero, List.getD_cons_succ]
                repeat (go_big_quiet_step (fail))
                refine wpQuiet_nil ?_
                refine mix_loud (i := 11) (by kernel_rfl) rfl (fun K hK => ?_)
                go_simp
                refine hK.out _ _ (lat_mem (by (repeat (first | exact Ext.refl _ _ | assumption | apply Ext.alloc | apply Ext.drewN | apply Ext.drew | refine Ext.setCell ?_ (fun h => by first | rfl | exact absurd h (by dsimp only; omega)) _)))) ?_
                clear hK
                clear c0 c1' f0 f1
                refine mix_batch [12] (by kernel_rfl) 0 _ _ _ (by kernel_rfl) (lat_mem (by (repeat (first | exact Ext.refl _ _ | assumption | apply Ext.alloc | apply Ext.drewN | apply Ext.drew | refine Ext.setCell ?_ (fun h => by first | rfl | exact absurd h (by dsimp only; omega)) _)))) ?_
                simp only [pickOps, List.getD_cons_zero, List.getD_cons_succ]
                repeat (go_big_quiet_step (fail))
                refine wpQuiet_nil ?_
                refine wpAnyH_done (by kernel_rfl) (NoPanic.normal ?_) _
                go_wp2_with fail
                go_meet
                exact ⟨A1, m1, c1, _, rfl, rfl, hs1 w hrr.out, blk_set (blk_set hbc 0 _) 1 _, by (repeat (first | exact Ext.refl _ _ | assumption | apply Ext.alloc | apply Ext.drewN | apply Ext.drew | refine Ext.setCell ?_ (fun h => by first | rfl | exact absurd h (by dsimp only; omega)) _))⟩
            case rest =>
              obtain ⟨A1, m1, c1, pn, rfl, rfl, hs1, hbp, hnc⟩ := hcut
              have hbq := New.keep hnc hbr
              have g0 : wc.cell? ⟨pn, 0, none⟩ = some (.slice A1 m1 c1) := blk_cell hbp 0
              have g1 : wc.cell? ⟨pn, 1, none⟩ = some (.bool (numS t bad n).2.1) := blk_cell hbp 1
              have k0 : wc.cell? ⟨q, 0, none⟩ = some (.slice Ar mr cr) := blk_cell hbq 0
              have k1 : wc.cell? ⟨q, 1, none⟩ = some (.bool bad) := blk_cell hbq 1
              have f0 := blk_free hbq 0
              have f1 := blk_free hbq 1
              clear b0 b1 o1
              have hw3 : Ext (fun k => k = q) wc ((wc.setCell ⟨q, 0, none⟩ (.slice A1 m1 c1)).setCell ⟨q, 1, none⟩ (.bool (numS t bad n).2.1)) := ((Ext.refl _ wc).set (by rfl)).set (by rfl)
              have hb3 := blk_set (blk_set hbq 0 (.slice A1 m1 c1)) 1 (.bool (numS t bad n).2.1)
              have hd3 := (hdr.keep hnc (fun h => h)).keep hw3 (by omega)
              have hn3 := ext_new (hnw.then hnc) hw3 hpq.2.1
              clear hbr hdr hbp
              have hk3 := New.cell hn3 hk1
              go_wp2_with fail
              refine (pnumber_any p Ax mx cx t n bad _ hd3 (hrx.out.new hn3) hB hbad).mono ?_
              rintro e w4 ⟨A5, m5, c5, rfl, hd4, hs4, he4⟩
              clear g0 g1 k0 k1 f0 f1
              go_wp2_with fail
              go_meet
              exact ⟨(numS t bad n).1, A5, m5, c5, A1, m1, c1, (numS t bad n).2.1, hd4, Ext.keep he4 hb3 (by omega), hs4 w hrx.out, hs1, numS_isB t bad n hB, numS_bad t bad n, Nat.le_trans (numS_len t bad n) ht, ext_new hn3 he4 hpq.1⟩
      case rest =>
        clear hdr hbr hrx hrr hbad ht
        obtain ⟨t1, Ay, my, cy, As, ms, cs, bad1, hdr, hbr, hrx, hrr, hB1, hbad, ht, hnc⟩ := hcut
        have hlt : t1.length = ms := by have := hrr.out.len; rw [bts_length] at this; omega
        have hlx : t1.length = my := by have := hrx.out.len; rw [bts_length] at this; omega
        obtain rfl : my = ms := by omega
        have g0 : ∀ x : Lat (fun _ => False) wc, x.W.cell? ⟨q, 0, none⟩ = some (.slice As my cs) := fun x => blk_cell (New.keep x.ext hbr) 0
        have g1 : ∀ x : Lat (fun _ => False) wc, x.W.cell? ⟨q, 1, none⟩ = some (.bool bad1) := fun x => blk_cell (New.keep x.ext hbr) 1
        go_upto_region 17 with (fail)
        refine mix_start (fun _ => False) wc (by kernel_rfl) ?_
        refine mix_batch [0, 2, 3, 4] (by kernel_rfl) 9 _ _ _ (by kernel_rfl) (lat_mem (by (repeat (first | exact Ext.refl _ _ | assumption | apply Ext.alloc | apply Ext.drewN | apply Ext.drew | refine Ext.setCell ?_ (fun h => by first | rfl | exact absurd h (by dsimp only; omega)) _)))) ?_
        simp only [pickOps, List.getD_cons_zero, List.getD_cons_succ]
        repeat (go_big_quiet_step (fail))
        refine wpQuiet_nil ?_
        refine mix_loud (i := 1) (by kernel_rfl) rfl (fun K hK => ?_)
        go_simp
        refine (pleft_any p Ay my cy t1 bad1 _ (hdr.keep (show New wc wc.drew by (repeat (first | exact Ext.refl _ _ | assumption | apply Ext.alloc | apply Ext.drewN | apply Ext.drew | refine Ext.setCell ?_ (fun h => by first | rfl | exact absurd h (by dsimp only; omega)) _))) (fun h => h)) hlx hbad).mono ?_
        rintro e wd ⟨rfl, rfl⟩
        refine hK.out _ _ (lat_mem (by (repeat (first | exact Ext.refl _ _ | assumption | apply Ext.alloc | apply Ext.drewN | apply Ext.drew | refine Ext.setCell ?_ (fun h => by first | rfl | exact absurd h (by dsimp only; omega)) _)))) ?_
        clear hK
        refine mix_batch [5, 6, 7, 9, 10] (by kernel_rfl) 3 _ _ _ (by kernel_rfl) (lat_mem (by (repeat (first | exact Ext.refl _ _ | assumption | apply Ext.alloc | apply Ext.drewN | apply Ext.drew | refine Ext.setCell ?_ (fun h => by first | rfl | exact absurd h (by dsimp only; omega)) _)))) ?_
        simp only [pickOps, List.getD_cons_zero, List.getD_cons_succ]
        repeat (go_big_quiet_step (fail))
        refine wpQuiet_nil ?_
        refine mix_loud (i := 8) (by kernel_rfl) rfl (fun K hK => ?_)
        go_simp
        refine (isBad_any p Ay my cy (!bad1) _ (hdr.keep (show New wc wc.drew by (repeat (first | exact Ext.refl _ _ | assumption | apply Ext.alloc | apply Ext.drewN | apply Ext.drew | refine Ext.setCell ?_ (fun h => by first | rfl | exact absurd h (by dsimp only; omega)) _))) (fun h => h))).mono ?_
        rintro e wd ⟨rfl, rfl⟩
        refine hK.out _ _ (lat_mem (by (repeat (first | exact Ext.refl _ _ | assumption | apply Ext.alloc | apply Ext.drewN | apply Ext.drew | refine Ext.setCell ?_ (fun h => by first | rfl | exact absurd h (by dsimp only; omega)) _)))) ?_
        clear hK
        refine mix_batch [11, 12] (by kernel_rfl) 0 _ _ _ (by kernel_rfl) (lat_mem (by (repeat (first | exact Ext.refl _ _ | assumption | apply Ext.alloc | apply Ext.drewN | apply Ext.drew | refine Ext.setCell ?_ (fun h => by first | rfl | exact absurd h (by dsimp only; omega)) _)))) ?_
        simp only [pickOps, List.getD_cons_zero, List.getD_cons_succ]
        repeat (go_big_quiet_step (fail))
        refine wpQuiet_nil ?_
        refine wpAnyH_done (by kernel_rfl) (NoPanic.normal ?_) _
        clear g0 g1
        go_wp2_with fail
        go_roundg (60 - (i + 1))
        case measure => omega
        case rel => exact ⟨i + 1, by omega, by omega, rfl, by go_num, t1, Ay, my, cy, As, my, cs, bad1, hdr.keep (show New wc wc.drew by (repeat (first | exact Ext.refl _ _ | assumption | apply Ext.alloc | apply Ext.drewN | apply Ext.drew | refine Ext.setCell ?_ (fun h => by first | rfl | exact absurd h (by dsimp only; omega)) _))) (fun h => h), hbr, hrx, hrr, hB1, hbad, ht, hnc.then (by (repeat (first | exact Ext.refl _ _ | assumption | apply Ext.alloc | apply Ext.drewN | apply Ext.drew | refine Ext.setCell ?_ (fun h => by first | rfl | exact absurd h (by dsimp only; omega)) _)))⟩
    · obtain ⟨t, Ax, mx, cx, Ar, mr, cr, bad, hdr, hbr, hrx, hrr, hB, hbad, ht, hnw⟩ := hS
      clear hdr hbr hrx hrr hB hbad ht
      by_cases hi2 : i < n2
      · have hz : decide ((i : Int) < n2) = true := decide_eq_true (by omega)
        have hz6 : decide ((i : Int) < 60) = false := decide_eq_false (by omega)
        have hev : Rdr (wr.alloc (.cells #[.slice none 0 0, .bool false] 48)) wr.heap.size none 0 0 false := blk_new wr _
        go_wp2_with fail
        refine (isBad_nil _).mono ?_
        rintro e wd ⟨rfl, rfl⟩
        go_wp2_with fail
        refine (isBad_any _ none 0 0 false _ hev).mono ?_
        rintro e wd ⟨rfl, rfl⟩
        go_wp2_with fail
        refine (number_nil 1 _).mono ?_
        rintro e wd ⟨rfl, rfl⟩
        go_wp2_with fail
        refine (take_bad _ none 0 0 0 _ hev).mono ?_
        rintro e wd ⟨rfl, rfl⟩
        go_wp2_with fail
        refine (left_nil _).mono ?_
        rintro e wd ⟨rfl, rfl⟩
        go_wp2_with fail
        refine (left_bad _ none 0 0 _ hev).mono ?_
        rintro e wd ⟨rfl, rfl⟩
        go_wp2_with fail
        go_ret
        exact ⟨rfl, hnw.then (by (repeat (first | exact Ext.refl _ _ | assumption | apply Ext.alloc | apply Ext.drewN | apply Ext.drew | refine Ext.setCell ?_ (fun h => by first | rfl | exact absurd h (by dsimp only; omega)) _)))⟩
      · have hz : decide ((i : Int) < n2) = false := decide_eq_false (by omega)
        have hev : Rdr (wr.alloc (.cells #[.slice none 0 0, .bool false] 48)) wr.heap.size none 0 0 false := blk_new wr _
        go_wp2_with fail
        refine (isBad_nil _).mono ?_
        rintro e wd ⟨rfl, rfl⟩
        go_wp2_with fail
        refine (isBad_any _ none 0 0 false _ hev).mono ?_
        rintro e wd ⟨rfl, rfl⟩
        go_wp2_with fail
        refine (number_nil 1 _).mono ?_
        rintro e wd ⟨rfl, rfl⟩
        go_wp2_with fail
        refine (take_bad _ none 0 0 0 _ hev).mono ?_
        rintro e wd ⟨rfl, rfl⟩
        go_wp2_with fail
        refine (left_nil _).mono ?_
        rintro e wd ⟨rfl, rfl⟩
        go_wp2_with fail
        refine (left_bad _ none 0 0 _ hev).mono ?_
        rintro e wd ⟨rfl, rfl⟩
        go_wp2_with fail
        go_ret
        exact ⟨rfl, hnw.then (by (repeat (first | exact Ext.refl _ _ | assumption | apply Ext.alloc | apply Ext.drewN | apply Ext.drew | refine Ext.setCell ?_ (fun h => by first | rfl | exact absurd h (by dsimp only; omega)) _)))⟩
end Go.Proofs.Ytmeiobeiindibaa
