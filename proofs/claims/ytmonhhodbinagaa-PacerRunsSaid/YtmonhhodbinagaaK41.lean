/- The document's pacer: a turn. -/
import Derived.Test.YtmonhhodbinagaaK40
import Derived.Test.YtmonhhodbinagaaK35
namespace Go.Proofs.Ytmonhhodbinagaa
open Go.RowKit Go.Maps
set_option maxRecDepth 100000

theorem upd_upd {α : Type} (u : Nat → α) (c : Nat) (a b : α) : upd (upd u c a) c b = upd u c b := by
  funext d
  unfold upd
  split <;> rfl
theorem turn_dy (x : DA) (T : Nat → Prop) (w : World) (h : x.ok T w) (hs1 : x.n1 ≤ 1000) (hs2 : x.n2 ≤ 1000) (hr0 : 0 ≤ x.s.run) (hr1 : x.s.run ≤ 4) (c : Nat) (run : Int) (ht : turnOf x.s = (c, true, run)) (k : Int × Int) (rest : List (Int × Int)) (hu : x.s.u c = k :: rest) :
    Calls Try.prog 45 #[x.v] w fun e w' => ∃ y : DA, e = .returned (.tuple #[y.v, kV k, .bool true]) ∧ y.ok T w' ∧ y.s = turnS x.s c rest run ∧ New w w' := by
  have h1 := h.l1
  have h2 := h.l2
  unfold turnOf at ht
  split at ht
  · next hh =>
    obtain ⟨rfl, rfl⟩ : 1 = c ∧ (0 : Int) = run := ⟨congrArg Prod.fst ht, congrArg (fun u => u.2.2) ht⟩
    exact turn_d1a x T w h hs1 hs2 hr0 hr1 (by omega) k rest hu
  · next hn =>
    split at ht
    · next hh =>
      obtain ⟨rfl, rfl⟩ : 1 = c ∧ x.s.run + 1 = run := ⟨congrArg Prod.fst ht, congrArg (fun u => u.2.2) ht⟩
      exact turn_d1b x T w h hs1 hs2 hr0 hr1 (by omega) hh.2 k rest hu
    · next hm =>
      split at ht
      · next hh =>
        obtain ⟨rfl, rfl⟩ : 0 = c ∧ (0 : Int) = run := ⟨congrArg Prod.fst ht, congrArg (fun u => u.2.2) ht⟩
        by_cases h0 : x.n2 = 0
        · exact turn_d0b x T w h hs1 hs2 hr0 hr1 h0 k rest hu
        · exact turn_d0a x T w h hs1 hs2 hr0 hr1 (by omega) (by omega) k rest hu
      · simp at ht
set_option maxHeartbeats 4000000 in
theorem tick_d (x : DA) (T : Nat → Prop) (w : World) (h : x.ok T w) (hT : ∀ j, T j → j < w.heap.size) (hw : x.s.Wf) (c : Nat) (run : Int) (ht : turnOf x.s = (c, true, run)) (rest : List (Int × Int)) (z : Kn) (hu : x.s.u c = z.k :: rest) (hz : z ∈ x.s.L) (hcls : z.cls = (c : Int)) (hp1 : 1 ≤ z.pend) (h60 : x.s.total < 1152921504606846976) (s' : PS) (hs' : s' = { x.s with run := run, total := x.s.total + 1, u := upd x.s.u c (if 1 < z.pend then rest ++ [z.k] else rest), L := setK x.s.L (told z) }) :
    Calls Try.prog 36 #[x.v] w fun e w' => ∃ y : DA, e = .returned (.tuple #[y.v, kV z.k, .int .i64 (z.iss + 1), .bool true]) ∧ y.ok T w' ∧ y.s = s' ∧ New w w' := by
  have hl0 : x.n0 ≤ 512 := by have := h.l0; have := hw.m1; have := hw.m2; omega
  have hl1 : x.n1 ≤ 512 := by have := h.l1; have := hw.ulen 0; omega
  have hl2 : x.n2 ≤ 512 := by have := h.l2; have := hw.ulen 1; omega
  have hc2 : c = 0 ∨ c = 1 := by have := hw.cls z hz; omega
  have hpp := hw.p1 z hz
  have hi0 := hw.i0 z hz
  have hi1 := hw.i1 z hz
  have ht0 := hw.t0
  have htot : x.s.total + 1 ≤ 1152921504606846976 := by omega
  obtain ⟨i, hpos, hi, hil⟩ := Pos.yes hw.nd hz
  have HS := hide hs'
  have HT := hide ht
  have HU := hide hu
  have HC := hide hcls
  have HPO := hide hpos
  have HI := hide hi
  have hin : i < x.n0 := by have := h.l0; omega
  clear hs' ht hu hcls hpos hi hil hz
  obtain ⟨w0, hw0, b1, b2, b3, hn0, hz0⟩ := threeNew w x.o zP #[.int .i64 0, .int .i64 0] 46 46 49
  go_enter Try.func36, Try.ntmps36
  go_upto_region 1 with (fail)
  rw [← hw0]
  clear hw0
  have hb0 : w.heap.size + 3 ≤ w0.heap.size := by omega
  clear hz0
  obtain ⟨T2, hT2⟩ : ∃ T2 : Nat → Prop, T2 = fun j => T j ∨ (w.heap.size ≤ j ∧ j < w0.heap.size) := ⟨_, rfl⟩
  have hTl : ∀ j, T2 j → j < w0.heap.size := fun j hj => by
    rw [hT2] at hj
    exact hj.elim (fun hj => Nat.lt_of_lt_of_le (hT j hj) hn0.size) (fun hj => hj.2)
  have hTT : ∀ j, T j → T2 j := fun j hj => by rw [hT2]; exact .inl hj
  have hTp : T2 w.heap.size := by rw [hT2]; exact .inr ⟨Nat.le_refl _, by omega⟩
  have hTr : T2 (w.heap.size + 1) := by rw [hT2]; exact .inr ⟨by omega, by omega⟩
  have hTg : T2 (w.heap.size + 2) := by rw [hT2]; exact .inr ⟨by omega, by omega⟩
  have h0 : x.ok T2 w0 := (h.wide (S := T2) (fun j hj => by rw [hT2] at hj; exact hj.imp id (fun hj => hj.1))).new hn0
  clear hT2
  have c0 := (blk_cell b1 0).trans rfl
  have c1 := (blk_cell b1 1).trans rfl
  have c2 := (blk_cell b1 2).trans rfl
  have c3 := (blk_cell b1 3).trans rfl
  have c4 := (blk_cell b1 4).trans rfl
  have c5 := (blk_cell b1 5).trans rfl
  go_wp2_with fail
  refine (turn_dy x T2 _ h0 (by omega) (by omega) hw.r0 hw.r1 c run HT.out z.k rest HU.out).mono ?_
  rintro e w1 ⟨y, he, hok, hys, hn1⟩
  replace he : e = .returned (.tuple #[.agg #[.slice y.a0 y.n0 y.c0, .slice y.a1 y.n1 y.c1, .slice y.a2 y.n2 y.c2, .int .i64 y.s.most, .int .i64 y.s.run, .int .i64 y.s.total], .agg #[.int .i64 z.k.1, .int .i64 z.k.2], .bool true]) := he
  subst he
  have hyL : y.s.L = x.s.L := by rw [hys]; rfl
  have hyt : y.s.total = x.s.total := by rw [hys]; rfl
  have hyn : y.n0 = x.n0 := by rw [← hok.l0, hyL]; exact h.l0
  have hl0 : y.n0 ≤ 512 := by omega
  have hl1 : y.n1 ≤ 1000 := by
    rw [← hok.l1, hys]
    show (upd x.s.u c rest 0).length ≤ 1000
    rcases hc2 with rfl | rfl
    · rw [upd_same]; have := h0.l1; rw [HU.out] at this; simp at this; omega
    · rw [upd_other _ _ (by decide)]; have := h0.l1; omega
  have hl2 : y.n2 ≤ 1000 := by
    rw [← hok.l2, hys]
    show (upd x.s.u c rest 1).length ≤ 1000
    rcases hc2 with rfl | rfl
    · rw [upd_other _ _ (by decide)]; have := h0.l2; omega
    · rw [upd_same]; have := h0.l2; rw [HU.out] at this; simp at this; omega
  have hty : y.s.total + 1 ≤ 1152921504606846976 := by omega
  have hty0 : 0 ≤ y.s.total := by omega
  have hin : i < y.n0 := by omega
  have HI : Hid (y.s.L[i]? = some z) := hide (by rw [hyL]; exact HI.out)
  have HPO : Hid (Pos y.s.L z.k i) := hide (by rw [hyL]; exact HPO.out)
  have HND : Hid (y.s.L.map Kn.k).Nodup := hide (by rw [hyL]; exact hw.nd)
  have HYS := hide hys
  have HYL := hide hyL
  clear hys hyL hyt hyn
  have p1 := hn1.keep b1
  have q1 := hn1.keep b2
  have g1 := hn1.keep b3
  clear c0 c1 c2 c3 c4 c5
  have hlt1 : w.heap.size < w1.heap.size := blk_lt p1
  have c0 := (blk_cell p1 0).trans rfl
  have cf0 := blk_free p1 0
  have c1 := (blk_cell p1 1).trans rfl
  have cf1 := blk_free p1 1
  have c2 := (blk_cell p1 2).trans rfl
  have cf2 := blk_free p1 2
  have c3 := (blk_cell p1 3).trans rfl
  have cf3 := blk_free p1 3
  have c4 := (blk_cell p1 4).trans rfl
  have cf4 := blk_free p1 4
  have c5 := (blk_cell p1 5).trans rfl
  have cf5 := blk_free p1 5
  go_upto_region 2 with (fail)
  obtain ⟨w2, hw2, p2, S2⟩ := set6 p1 rfl (.slice y.a0 y.n0 y.c0) (.slice y.a1 y.n1 y.c1) (.slice y.a2 y.n2 y.c2) (.int .i64 y.s.most) (.int .i64 y.s.run) (.int .i64 y.s.total)
  have hse : w2.heap.size = w1.heap.size := by rw [hw2]; simp
  rw [← hw2]
  clear hw2 c0 c1 c2 c3 c4 c5 cf0 cf1 cf2 cf3 cf4 cf5
  have q2 := S2.keep q1 (by omega)
  have g2 := S2.keep g1 (by omega)
  have hok2 := hok.keep S2 (fun j e => .inl (by rw [show j = w.heap.size from e]; exact hTp))
  have N2 : New w w2 := (hn0.then hn1).trans S2 (fun j hj e => by omega)
  have hn3 := New.alloc1 w2 (.cells #[.int .i64 z.k.1, .int .i64 z.k.2] 49)
  have kb := blk_new w2 (.cells #[.int .i64 z.k.1, .int .i64 z.k.2] 49)
  generalize w2.alloc (.cells #[.int .i64 z.k.1, .int .i64 z.k.2] 49) = w3 at *
  rw [hse] at kb
  obtain ⟨K, hK0⟩ : ∃ K, K = w1.heap.size := ⟨_, rfl⟩
  rw [← hK0] at kb ⊢
  have hKlo : w.heap.size + 3 ≤ K := by have := hn1.size; omega
  have hTK : ¬ T2 K := fun hh => by have := hTl K hh; have := hn1.size; omega
  clear hK0 hse
  have p3 := hn3.keep p2
  have q3 := hn3.keep q2
  have g3 := hn3.keep g2
  have hok3 := hok2.new hn3
  have N3 := N2.then hn3
  have hlt3 : w.heap.size < w3.heap.size := blk_lt p3
  have c0 := (blk_cell p3 0).trans rfl
  have c1 := (blk_cell p3 1).trans rfl
  have c2 := (blk_cell p3 2).trans rfl
  have c3 := (blk_cell p3 3).trans rfl
  have c4 := (blk_cell p3 4).trans rfl
  have c5 := (blk_cell p3 5).trans rfl
  have k0 := (blk_cell kb 0).trans rfl
  have k1 := (blk_cell kb 1).trans rfl
  go_wp2_with fail
  refine (find_d y z.k i _ hok3.r0 (by omega) HPO.out).mono ?_
  rintro e w4 ⟨rfl, hn4⟩
  have p4 := hn4.keep p3
  have q4 := hn4.keep q3
  have g4 := hn4.keep g3
  have kb4 := hn4.keep kb
  have hok4 := hok3.new hn4
  have N4 := N3.then hn4
  clear c0 c1 c2 c3 c4 c5 k0 k1
  have d3 : decide (i < y.n0) = true := decide_eq_true hin
  obtain ⟨ad, hA⟩ := hok4.r0.some (by omega)
  have hrr := hok4.r0
  rw [hA] at hrr
  obtain ⟨t0, t1, t2, t3, t4⟩ := hrr.cell5 HI.out
  have c0 : w4.cell? ⟨w.heap.size, 0, none⟩ = some (.slice (some ad) y.n0 y.c0) := by rw [← hA]; exact (blk_cell p4 0).trans rfl
  have hlt4 : w.heap.size < w4.heap.size := blk_lt p4
  have hKlt4 : K < w4.heap.size := blk_lt kb4
  clear hrr hA
  go_upto_region 6 with (fail)
  have hx5 := blk_new w4 (.cells (kn5 z) 59)
  have hn5 := New.alloc1 w4 (.cells (kn5 z) 59)
  obtain ⟨w5, hw5⟩ : ∃ v, v = w4.alloc (.cells (kn5 z) 59) := ⟨_, rfl⟩
  rw [← hw5] at hx5 hn5
  rw [show w4.alloc (.cells #[.int .i64 z.k.1, .int .i64 z.k.2, .int .i64 z.cls, .int .i64 z.pend, .int .i64 z.iss] 59) = w5 from hw5.symm]
  clear hw5 c0 t0 t1 t2 t3 t4
  obtain ⟨X, hX⟩ : ∃ X, X = w4.heap.size := ⟨_, rfl⟩
  rw [← hX] at hx5 ⊢
  have hXK : K < X := by omega
  have hX4 : w4.heap.size ≤ X := by omega
  clear hX
  have p5 := hn5.keep p4
  have q5 := hn5.keep q4
  have g5 := hn5.keep g4
  have kb5 := hn5.keep kb4
  have hok5 := hok4.new hn5
  have N5 := N4.then hn5
  have x3 := (blk_cell hx5 3).trans rfl
  have x4 := (blk_cell hx5 4).trans rfl
  have xf3 := blk_free hx5 3
  have xf4 := blk_free hx5 4
  have c5 := (blk_cell p5 5).trans rfl
  have cf5 := blk_free p5 5
  go_upto_region 9 with (fail)
  have S7 : Ext (fun j => j = X) w5 ((w5.setCell ⟨X, 3, none⟩ (.int .i64 (z.pend - 1))).setCell ⟨X, 4, none⟩ (.int .i64 (z.iss + 1))) := ((Ext.refl _ w5).set (by rfl)).set (by rfl)
  have hx7 := blk_set (blk_set hx5 3 (.int .i64 (z.pend - 1))) 4 (.int .i64 (z.iss + 1))
  generalize (w5.setCell ⟨X, 3, none⟩ (.int .i64 (z.pend - 1))).setCell ⟨X, 4, none⟩ (.int .i64 (z.iss + 1)) = w7 at *
  clear x3 x4 xf3 xf4 c5 cf5
  have p7 := S7.keep p5 (by omega)
  have q7 := S7.keep q5 (by omega)
  have g7 := S7.keep g5 (by omega)
  have kb7 := S7.keep kb5 (by omega)
  have N7 : New w w7 := N5.trans S7 (fun j hj e => by omega)
  have S8 : Ext (fun j => j = w.heap.size) w7 (w7.setCell ⟨w.heap.size, 5, none⟩ (.int .i64 (y.s.total + 1))) := (Ext.refl _ w7).set (by rfl)
  have p8 := blk_set p7 5 (.int .i64 (y.s.total + 1))
  generalize w7.setCell ⟨w.heap.size, 5, none⟩ (.int .i64 (y.s.total + 1)) = w8 at *
  have hx8 := S8.keep hx7 (by omega)
  have q8 := S8.keep q7 (by omega)
  have g8 := S8.keep g7 (by omega)
  have kb8 := S8.keep kb7 (by omega)
  have N8 : New w w8 := N7.trans S8 (fun j hj e => by omega)
  obtain ⟨u, hu⟩ : ∃ u : DA, u = ⟨{ y.s with total := y.s.total + 1 }, y.a0, y.n0, y.c0, y.a1, y.n1, y.c1, y.a2, y.n2, y.c2⟩ := ⟨_, rfl⟩
  obtain ⟨tz, htz⟩ : ∃ tz, tz = told z := ⟨_, rfl⟩
  have p8 : w8.heap[w.heap.size]? = some (.cells u.o 46) := by rw [hu]; exact p8
  have hx8 : w8.heap[X]? = some (.cells (kn5 tz) 59) := by rw [htz]; exact hx8
  have hoky : y.ok T2 w8 := hok4.keep ((hn5.to.trans (S := fun j => j = X ∨ j = w.heap.size) (S7.mono (fun j _ e => .inl e)) (fun _ _ h => h)).trans (S8.mono (fun j _ e => .inr e)) (fun _ _ h => h)) (fun j e => e.elim (fun e => .inr (by omega)) (fun e => .inl (by rw [e]; exact hTp)))
  have hok8 : u.ok T2 w8 := by rw [hu]; exact ⟨hoky.r0, hoky.r1, hoky.r2, hoky.t0, hoky.t1, hoky.t2⟩
  have hul0 : u.n0 ≤ 1000 := by rw [hu]; show y.n0 ≤ 1000; omega
  have hul1 : u.n1 ≤ 1000 := by rw [hu]; exact hl1
  have hul2 : u.n2 ≤ 1000 := by rw [hu]; exact hl2
  have HUI : Hid (u.s.L[i]? = some z) := hide (by rw [hu]; exact HI.out)
  have HUN : Hid (u.s.L.map Kn.k).Nodup := hide (by rw [hu]; exact HND.out)
  have HKZ : Hid (z.k = tz.k) := hide (by rw [htz]; rfl)
  have hcz : Hid (tz.cls = 0 ∨ tz.cls = 1) := hide (by rw [htz]; show z.cls = 0 ∨ z.cls = 1; have := HC.out; omega)
  have HUU := hide hu
  have HTZ := hide htz
  have hT8 : ∀ j, T2 j → j < w8.heap.size := fun j hj => by have := hTl j hj; have := (hn1.then (show New w1 w1 from Ext.refl _ _)).size; have := N8.size; have h8 := S8.size; have h7 := S7.size; have h5 := hn5.size; have h4 := hn4.size; have h3 := hn3.size; have h2 := S2.size; omega
  clear hu htz p7 hx7
  by_cases hb : 1 < z.pend
  · have d9 : decide (1 < z.pend) = true := decide_eq_true (by omega)
    have HB := hide hb
    clear hb
    have xx : w8.cell? ⟨X, 3, none⟩ = some (.int .i64 (z.pend - 1)) := by have := HTZ.out; have h9 := (blk_cell hx8 3); rw [this] at h9; exact h9
    have xx0 : w8.cell? ⟨X, 0, none⟩ = some (.int .i64 z.k.1) := by have := HTZ.out; have h9 := (blk_cell hx8 0); rw [this] at h9; exact h9
    have xx1 : w8.cell? ⟨X, 1, none⟩ = some (.int .i64 z.k.2) := by have := HTZ.out; have h9 := (blk_cell hx8 1); rw [this] at h9; exact h9
    have xx2 : w8.cell? ⟨X, 2, none⟩ = some (.int .i64 z.cls) := by have := HTZ.out; have h9 := (blk_cell hx8 2); rw [this] at h9; exact h9
    have xx4 : w8.cell? ⟨X, 4, none⟩ = some (.int .i64 (z.iss + 1)) := by have := HTZ.out; have h9 := (blk_cell hx8 4); rw [this] at h9; exact h9
    have c0 := (blk_cell p8 0).trans rfl
    have c1 := (blk_cell p8 1).trans rfl
    have c2 := (blk_cell p8 2).trans rfl
    have c3 := (blk_cell p8 3).trans rfl
    have c4 := (blk_cell p8 4).trans rfl
    have c5 := (blk_cell p8 5).trans rfl
    go_wp2_with fail
    have hbeh := behind_d u tz hcz.out T2 w8 hok8 hT8 hul1 hul2
    rw [show kn5 tz = #[.int .i64 z.k.1, .int .i64 z.k.2, .int .i64 z.cls, .int .i64 (z.pend - 1), .int .i64 (z.iss + 1)] by rw [HTZ.out]; rfl] at hbeh
    refine hbeh.mono ?_
    rintro e w9 ⟨v, he, hokv, hvs, hn9⟩
    replace he : e = .returned (.agg #[.slice v.a0 v.n0 v.c0, .slice v.a1 v.n1 v.c1, .slice v.a2 v.n2 v.c2, .int .i64 v.s.most, .int .i64 v.s.run, .int .i64 v.s.total]) := he
    subst he
    clear hbeh c0 c1 c2 c3 c4 c5 xx xx0 xx1 xx2 xx4
    have hvL : v.s.L = u.s.L := by rw [hvs]; rfl
    have hvn : v.n0 = u.n0 := by rw [← hokv.l0, hvL]; exact hok8.l0
    have hvl0 : v.n0 ≤ 1000 := by omega
    have HVI : Hid (v.s.L[i]? = some z) := hide (by rw [hvL]; exact HUI.out)
    have HVN : Hid (v.s.L.map Kn.k).Nodup := hide (by rw [hvL]; exact HUN.out)
    have HVS := hide hvs
    clear hvs hvL hvn
    have p9 := hn9.keep p8
    have q9 := hn9.keep q8
    have g9 := hn9.keep g8
    have kb9 := hn9.keep kb8
    have hx9 := hn9.keep hx8
    have hlt9 : w.heap.size < w9.heap.size := blk_lt p9
    have c0 := (blk_cell p9 0).trans rfl
    have cf0 := blk_free p9 0
    have c1 := (blk_cell p9 1).trans rfl
    have cf1 := blk_free p9 1
    have c2 := (blk_cell p9 2).trans rfl
    have cf2 := blk_free p9 2
    have c3 := (blk_cell p9 3).trans rfl
    have cf3 := blk_free p9 3
    have c4 := (blk_cell p9 4).trans rfl
    have cf4 := blk_free p9 4
    have c5 := (blk_cell p9 5).trans rfl
    have cf5 := blk_free p9 5
    go_upto_region 11 with (fail)
    obtain ⟨wp, hwp, pp, Sp⟩ := set6 p9 rfl (.slice v.a0 v.n0 v.c0) (.slice v.a1 v.n1 v.c1) (.slice v.a2 v.n2 v.c2) (.int .i64 v.s.most) (.int .i64 v.s.run) (.int .i64 v.s.total)
    rw [← hwp]
    clear hwp c0 c1 c2 c3 c4 c5 cf0 cf1 cf2 cf3 cf4 cf5
    have qp := Sp.keep q9 (by omega)
    have gp := Sp.keep g9 (by omega)
    have kbp := Sp.keep kb9 (by omega)
    have hxp := Sp.keep hx9 (by omega)
    have hokp := hokv.keep Sp (fun j e => .inl (by rw [show j = w.heap.size from e]; exact hTp))
    have Np : New w wp := (N8.then hn9).trans Sp (fun j hj e => by omega)
    have hTpp : ∀ j, T2 j → j < wp.heap.size := fun j hj => Nat.lt_of_lt_of_le (hT8 j hj) (Nat.le_trans hn9.size Sp.size)
    have h0c : ∀ y : Lat (fun j => j = w.heap.size + 1 ∨ j = w.heap.size + 2) wp, y.W.cell? ⟨w.heap.size, 0, none⟩ = some (.slice v.a0 v.n0 v.c0) := fun y => (blk_cell (y.ext.keep pp (by omega)) 0).trans rfl
    have h1c : ∀ y : Lat (fun j => j = w.heap.size + 1 ∨ j = w.heap.size + 2) wp, y.W.cell? ⟨w.heap.size, 1, none⟩ = some (.slice v.a1 v.n1 v.c1) := fun y => (blk_cell (y.ext.keep pp (by omega)) 1).trans rfl
    have h2c : ∀ y : Lat (fun j => j = w.heap.size + 1 ∨ j = w.heap.size + 2) wp, y.W.cell? ⟨w.heap.size, 2, none⟩ = some (.slice v.a2 v.n2 v.c2) := fun y => (blk_cell (y.ext.keep pp (by omega)) 2).trans rfl
    have h3c : ∀ y : Lat (fun j => j = w.heap.size + 1 ∨ j = w.heap.size + 2) wp, y.W.cell? ⟨w.heap.size, 3, none⟩ = some (.int .i64 v.s.most) := fun y => (blk_cell (y.ext.keep pp (by omega)) 3).trans rfl
    have h4c : ∀ y : Lat (fun j => j = w.heap.size + 1 ∨ j = w.heap.size + 2) wp, y.W.cell? ⟨w.heap.size, 4, none⟩ = some (.int .i64 v.s.run) := fun y => (blk_cell (y.ext.keep pp (by omega)) 4).trans rfl
    have h5c : ∀ y : Lat (fun j => j = w.heap.size + 1 ∨ j = w.heap.size + 2) wp, y.W.cell? ⟨w.heap.size, 5, none⟩ = some (.int .i64 v.s.total) := fun y => (blk_cell (y.ext.keep pp (by omega)) 5).trans rfl
    have h0x : ∀ y : Lat (fun j => j = w.heap.size + 1 ∨ j = w.heap.size + 2) wp, y.W.cell? ⟨X, 0, none⟩ = some (.int .i64 tz.k.1) := fun y => (blk_cell (y.ext.keep hxp (by omega)) 0).trans rfl
    have h1x : ∀ y : Lat (fun j => j = w.heap.size + 1 ∨ j = w.heap.size + 2) wp, y.W.cell? ⟨X, 1, none⟩ = some (.int .i64 tz.k.2) := fun y => (blk_cell (y.ext.keep hxp (by omega)) 1).trans rfl
    have h2x : ∀ y : Lat (fun j => j = w.heap.size + 1 ∨ j = w.heap.size + 2) wp, y.W.cell? ⟨X, 2, none⟩ = some (.int .i64 tz.cls) := fun y => (blk_cell (y.ext.keep hxp (by omega)) 2).trans rfl
    have h3x : ∀ y : Lat (fun j => j = w.heap.size + 1 ∨ j = w.heap.size + 2) wp, y.W.cell? ⟨X, 3, none⟩ = some (.int .i64 tz.pend) := fun y => (blk_cell (y.ext.keep hxp (by omega)) 3).trans rfl
    have h4x : ∀ y : Lat (fun j => j = w.heap.size + 1 ∨ j = w.heap.size + 2) wp, y.W.cell? ⟨X, 4, none⟩ = some (.int .i64 tz.iss) := fun y => (blk_cell (y.ext.keep hxp (by omega)) 4).trans rfl
    have h0k : ∀ y : Lat (fun j => j = w.heap.size + 1 ∨ j = w.heap.size + 2) wp, y.W.cell? ⟨K, 0, none⟩ = some (.int .i64 z.k.1) := fun y => (blk_cell (y.ext.keep kbp (by omega)) 0).trans rfl
    have h1k : ∀ y : Lat (fun j => j = w.heap.size + 1 ∨ j = w.heap.size + 2) wp, y.W.cell? ⟨K, 1, none⟩ = some (.int .i64 z.k.2) := fun y => (blk_cell (y.ext.keep kbp (by omega)) 1).trans rfl
    go_wp2_with fail
    refine mix_start (fun j => j = w.heap.size + 1 ∨ j = w.heap.size + 2) wp (by kernel_rfl) ?_
    refine mix_batch [0, 1, 2, 4, 5, 6] (by kernel_rfl) 5 _ _ _ (by kernel_rfl) (lat_mem (by (repeat (first | exact Ext.refl _ _ | assumption | apply Ext.alloc | apply Ext.drewN | apply Ext.drew | refine Ext.setCell ?_ (fun h => by first | rfl | exact absurd h (by dsimp only; omega)) _)))) ?_
    simp only [pickOps, List.getD_cons_zero, List.getD_cons_succ]
    repeat (go_big_quiet_step (fail))
    refine wpQuiet_nil ?_
    refine mix_loud (i := 3) (by kernel_rfl) rfl (fun K hK => ?_)
    go_simp
    have hnd : New wp wp.drew := by (repeat (first | exact Ext.refl _ _ | assumption | apply Ext.alloc | apply Ext.drewN | apply Ext.drew | refine Ext.setCell ?_ (fun h => by first | rfl | exact absurd h (by dsimp only; omega)) _))
    refine (with_d v i z tz HVI.out HKZ.out HVN.out T2 _ (hokp.new hnd) (fun j hj => Nat.lt_of_lt_of_le (hTpp j hj) hnd.size) (by omega)).mono ?_
    rintro e wa ⟨o, he, hoka, hos, hna⟩
    replace he : e = .returned (.agg #[.slice o.a0 o.n0 o.c0, .slice o.a1 o.n1 o.c1, .slice o.a2 o.n2 o.c2, .int .i64 o.s.most, .int .i64 o.s.run, .int .i64 o.s.total]) := he
    subst he
    have HOS := hide hos
    clear hos
    have Na : New wp wa := hnd.then hna
    refine hK.out _ _ (lat_mem Na.to) ?_
    clear hK
    have qa := Na.keep qp
    have ga := Na.keep gp
    have r0 := (blk_cell qa 0).trans rfl
    have rf0 := blk_free qa 0
    have r1 := (blk_cell qa 1).trans rfl
    have rf1 := blk_free qa 1
    have r2 := (blk_cell qa 2).trans rfl
    have rf2 := blk_free qa 2
    have r3 := (blk_cell qa 3).trans rfl
    have rf3 := blk_free qa 3
    have r4 := (blk_cell qa 4).trans rfl
    have rf4 := blk_free qa 4
    have r5 := (blk_cell qa 5).trans rfl
    have rf5 := blk_free qa 5
    refine mix_loud (i := 7) (by kernel_rfl) rfl (fun K hK => ?_)
    go_simp
    obtain ⟨wb, hwb, pb, Sb⟩ := set6 qa rfl (.slice o.a0 o.n0 o.c0) (.slice o.a1 o.n1 o.c1) (.slice o.a2 o.n2 o.c2) (.int .i64 o.s.most) (.int .i64 o.s.run) (.int .i64 o.s.total)
    rw [← hwb]
    have Eb : Ext (fun j => j = w.heap.size + 1 ∨ j = w.heap.size + 2) wp wb := Na.to.trans (Sb.mono (fun j _ e => .inl e)) (fun _ _ h => h)
    have Ebd : Ext (fun j => j = w.heap.size + 1 ∨ j = w.heap.size + 2) wp wb.drew := Eb.trans (show New wb wb.drew by (repeat (first | exact Ext.refl _ _ | assumption | apply Ext.alloc | apply Ext.drewN | apply Ext.drew | refine Ext.setCell ?_ (fun h => by first | rfl | exact absurd h (by dsimp only; omega)) _))).to (fun _ _ h => h)
    refine hK.out _ _ (lat_mem (by first | exact Eb | exact Ebd)) ?_
    clear hK hwb r0 r1 r2 r3 r4 r5 rf0 rf1 rf2 rf3 rf4 rf5
    have gb := Sb.keep ga (by omega)
    have u0 := (blk_cell gb 0).trans rfl
    have uf0 := blk_free gb 0
    have u1 := (blk_cell gb 1).trans rfl
    have uf1 := blk_free gb 1
    refine mix_loud (i := 8) (by kernel_rfl) rfl (fun K hK => ?_)
    go_simp
    obtain ⟨wc, hwc, gc, Sc⟩ := set2 gb rfl (.int .i64 z.k.1) (.int .i64 z.k.2)
    rw [← hwc]
    have Ec : Ext (fun j => j = w.heap.size + 1 ∨ j = w.heap.size + 2) wp wc := Eb.trans (Sc.mono (fun j _ e => .inr e)) (fun _ _ h => h)
    have Ecd : Ext (fun j => j = w.heap.size + 1 ∨ j = w.heap.size + 2) wp wc.drew := Ec.trans (show New wc wc.drew by (repeat (first | exact Ext.refl _ _ | assumption | apply Ext.alloc | apply Ext.drewN | apply Ext.drew | refine Ext.setCell ?_ (fun h => by first | rfl | exact absurd h (by dsimp only; omega)) _))).to (fun _ _ h => h)
    refine hK.out _ _ (lat_mem (by first | exact Ec | exact Ecd)) ?_
    clear hK hwc u0 u1 uf0 uf1
    refine mix_batch [9, 10] (by kernel_rfl) 0 _ _ _ (by kernel_rfl) (lat_mem (by (repeat (first | exact Ext.refl _ _ | assumption | apply Ext.alloc | apply Ext.drewN | apply Ext.drew | refine Ext.setCell ?_ (fun h => by first | rfl | exact absurd h (by dsimp only; omega)) _)))) ?_
    simp only [pickOps, List.getD_cons_zero, List.getD_cons_succ]
    repeat (go_big_quiet_step (fail))
    refine wpQuiet_nil ?_
    refine wpAnyH_done (by kernel_rfl) (NoPanic.normal ?_) _
    have pc := Sc.keep pb (by omega)
    have z0 := (blk_cell pc 0).trans rfl
    have z1 := (blk_cell pc 1).trans rfl
    have z2 := (blk_cell pc 2).trans rfl
    have z3 := (blk_cell pc 3).trans rfl
    have z4 := (blk_cell pc 4).trans rfl
    have z5 := (blk_cell pc 5).trans rfl
    have y0 := (blk_cell gc 0).trans rfl
    have y1 := (blk_cell gc 1).trans rfl
    go_wp2_with fail
    have Nc : New w wc := Np.trans Ec (fun j hj e => by omega)
    have hokc := (hoka.keep Sb (fun j e => .inl (by rw [show j = w.heap.size + 1 from e]; exact hTr))).keep Sc (fun j e => .inl (by rw [show j = w.heap.size + 2 from e]; exact hTg))
    have Ncd : New w wc.drew := Nc.then (show New wc wc.drew by (repeat (first | exact Ext.refl _ _ | assumption | apply Ext.alloc | apply Ext.drewN | apply Ext.drew | refine Ext.setCell ?_ (fun h => by first | rfl | exact absurd h (by dsimp only; omega)) _)))
    have hokd := hokc.new (show New wc wc.drew by (repeat (first | exact Ext.refl _ _ | assumption | apply Ext.alloc | apply Ext.drewN | apply Ext.drew | refine Ext.setCell ?_ (fun h => by first | rfl | exact absurd h (by dsimp only; omega)) _)))
    have hiss : z.iss + 1 = tz.iss := by rw [HTZ.out]; rfl
    first
      | (refine bodyPost_ret (v := .tuple #[o.v, kV z.k, .int .i64 tz.iss, .bool true]) (by simp [results, Try.results36, go_sem, z0, z1, z2, z3, z4, z5, y0, y1]) rfl ?_; refine ⟨o, by rw [hiss], hokd.wide (fun j hj => .inl (hTT j hj)), ?_, Ncd⟩)
      | (refine bodyPost_ret (v := .tuple #[o.v, kV z.k, .int .i64 tz.iss, .bool true]) (by simp [results, Try.results36, go_sem, z0, z1, z2, z3, z4, z5, y0, y1]) rfl ?_; refine ⟨o, by rw [hiss], hokc.wide (fun j hj => .inl (hTT j hj)), ?_, Nc⟩)
    rw [HS.out, HOS.out, HVS.out, HUU.out, HYS.out, HTZ.out]
    have hcc : (told z).cls.toNat = c := by show z.cls.toNat = c; have := HC.out; omega
    simp only [turnS, behS, hcc, upd_upd, upd_same, if_pos HB.out]
    rfl

  · have d9 : decide (1 < z.pend) = false := decide_eq_false (by omega)
    have HB := hide hb
    clear hb
    have xx : w8.cell? ⟨X, 3, none⟩ = some (.int .i64 (z.pend - 1)) := by have := HTZ.out; have h9 := (blk_cell hx8 3); rw [this] at h9; exact h9
    go_upto_region 11 with (fail)
    clear xx
    have h0c : ∀ y : Lat (fun j => j = w.heap.size + 1 ∨ j = w.heap.size + 2) w8, y.W.cell? ⟨w.heap.size, 0, none⟩ = some (.slice u.a0 u.n0 u.c0) := fun y => (blk_cell (y.ext.keep p8 (by omega)) 0).trans rfl
    have h1c : ∀ y : Lat (fun j => j = w.heap.size + 1 ∨ j = w.heap.size + 2) w8, y.W.cell? ⟨w.heap.size, 1, none⟩ = some (.slice u.a1 u.n1 u.c1) := fun y => (blk_cell (y.ext.keep p8 (by omega)) 1).trans rfl
    have h2c : ∀ y : Lat (fun j => j = w.heap.size + 1 ∨ j = w.heap.size + 2) w8, y.W.cell? ⟨w.heap.size, 2, none⟩ = some (.slice u.a2 u.n2 u.c2) := fun y => (blk_cell (y.ext.keep p8 (by omega)) 2).trans rfl
    have h3c : ∀ y : Lat (fun j => j = w.heap.size + 1 ∨ j = w.heap.size + 2) w8, y.W.cell? ⟨w.heap.size, 3, none⟩ = some (.int .i64 u.s.most) := fun y => (blk_cell (y.ext.keep p8 (by omega)) 3).trans rfl
    have h4c : ∀ y : Lat (fun j => j = w.heap.size + 1 ∨ j = w.heap.size + 2) w8, y.W.cell? ⟨w.heap.size, 4, none⟩ = some (.int .i64 u.s.run) := fun y => (blk_cell (y.ext.keep p8 (by omega)) 4).trans rfl
    have h5c : ∀ y : Lat (fun j => j = w.heap.size + 1 ∨ j = w.heap.size + 2) w8, y.W.cell? ⟨w.heap.size, 5, none⟩ = some (.int .i64 u.s.total) := fun y => (blk_cell (y.ext.keep p8 (by omega)) 5).trans rfl
    have h0x : ∀ y : Lat (fun j => j = w.heap.size + 1 ∨ j = w.heap.size + 2) w8, y.W.cell? ⟨X, 0, none⟩ = some (.int .i64 tz.k.1) := fun y => (blk_cell (y.ext.keep hx8 (by omega)) 0).trans rfl
    have h1x : ∀ y : Lat (fun j => j = w.heap.size + 1 ∨ j = w.heap.size + 2) w8, y.W.cell? ⟨X, 1, none⟩ = some (.int .i64 tz.k.2) := fun y => (blk_cell (y.ext.keep hx8 (by omega)) 1).trans rfl
    have h2x : ∀ y : Lat (fun j => j = w.heap.size + 1 ∨ j = w.heap.size + 2) w8, y.W.cell? ⟨X, 2, none⟩ = some (.int .i64 tz.cls) := fun y => (blk_cell (y.ext.keep hx8 (by omega)) 2).trans rfl
    have h3x : ∀ y : Lat (fun j => j = w.heap.size + 1 ∨ j = w.heap.size + 2) w8, y.W.cell? ⟨X, 3, none⟩ = some (.int .i64 tz.pend) := fun y => (blk_cell (y.ext.keep hx8 (by omega)) 3).trans rfl
    have h4x : ∀ y : Lat (fun j => j = w.heap.size + 1 ∨ j = w.heap.size + 2) w8, y.W.cell? ⟨X, 4, none⟩ = some (.int .i64 tz.iss) := fun y => (blk_cell (y.ext.keep hx8 (by omega)) 4).trans rfl
    have h0k : ∀ y : Lat (fun j => j = w.heap.size + 1 ∨ j = w.heap.size + 2) w8, y.W.cell? ⟨K, 0, none⟩ = some (.int .i64 z.k.1) := fun y => (blk_cell (y.ext.keep kb8 (by omega)) 0).trans rfl
    have h1k : ∀ y : Lat (fun j => j = w.heap.size + 1 ∨ j = w.heap.size + 2) w8, y.W.cell? ⟨K, 1, none⟩ = some (.int .i64 z.k.2) := fun y => (blk_cell (y.ext.keep kb8 (by omega)) 1).trans rfl
    go_wp2_with fail
    refine mix_start (fun j => j = w.heap.size + 1 ∨ j = w.heap.size + 2) w8 (by kernel_rfl) ?_
    refine mix_batch [0, 1, 2, 4, 5, 6] (by kernel_rfl) 5 _ _ _ (by kernel_rfl) (lat_mem (by (repeat (first | exact Ext.refl _ _ | assumption | apply Ext.alloc | apply Ext.drewN | apply Ext.drew | refine Ext.setCell ?_ (fun h => by first | rfl | exact absurd h (by dsimp only; omega)) _)))) ?_
    simp only [pickOps, List.getD_cons_zero, List.getD_cons_succ]
    repeat (go_big_quiet_step (fail))
    refine wpQuiet_nil ?_
    refine mix_loud (i := 3) (by kernel_rfl) rfl (fun K hK => ?_)
    go_simp
    have hnd : New w8 w8.drew := by (repeat (first | exact Ext.refl _ _ | assumption | apply Ext.alloc | apply Ext.drewN | apply Ext.drew | refine Ext.setCell ?_ (fun h => by first | rfl | exact absurd h (by dsimp only; omega)) _))
    refine (with_d u i z tz HUI.out HKZ.out HUN.out T2 _ (hok8.new hnd) (fun j hj => Nat.lt_of_lt_of_le (hT8 j hj) hnd.size) (by omega)).mono ?_
    rintro e wa ⟨o, he, hoka, hos, hna⟩
    replace he : e = .returned (.agg #[.slice o.a0 o.n0 o.c0, .slice o.a1 o.n1 o.c1, .slice o.a2 o.n2 o.c2, .int .i64 o.s.most, .int .i64 o.s.run, .int .i64 o.s.total]) := he
    subst he
    have HOS := hide hos
    clear hos
    have Na : New w8 wa := hnd.then hna
    refine hK.out _ _ (lat_mem Na.to) ?_
    clear hK
    have qa := Na.keep q8
    have ga := Na.keep g8
    have r0 := (blk_cell qa 0).trans rfl
    have rf0 := blk_free qa 0
    have r1 := (blk_cell qa 1).trans rfl
    have rf1 := blk_free qa 1
    have r2 := (blk_cell qa 2).trans rfl
    have rf2 := blk_free qa 2
    have r3 := (blk_cell qa 3).trans rfl
    have rf3 := blk_free qa 3
    have r4 := (blk_cell qa 4).trans rfl
    have rf4 := blk_free qa 4
    have r5 := (blk_cell qa 5).trans rfl
    have rf5 := blk_free qa 5
    refine mix_loud (i := 7) (by kernel_rfl) rfl (fun K hK => ?_)
    go_simp
    obtain ⟨wb, hwb, pb, Sb⟩ := set6 qa rfl (.slice o.a0 o.n0 o.c0) (.slice o.a1 o.n1 o.c1) (.slice o.a2 o.n2 o.c2) (.int .i64 o.s.most) (.int .i64 o.s.run) (.int .i64 o.s.total)
    rw [← hwb]
    have Eb : Ext (fun j => j = w.heap.size + 1 ∨ j = w.heap.size + 2) w8 wb := Na.to.trans (Sb.mono (fun j _ e => .inl e)) (fun _ _ h => h)
    have Ebd : Ext (fun j => j = w.heap.size + 1 ∨ j = w.heap.size + 2) w8 wb.drew := Eb.trans (show New wb wb.drew by (repeat (first | exact Ext.refl _ _ | assumption | apply Ext.alloc | apply Ext.drewN | apply Ext.drew | refine Ext.setCell ?_ (fun h => by first | rfl | exact absurd h (by dsimp only; omega)) _))).to (fun _ _ h => h)
    refine hK.out _ _ (lat_mem (by first | exact Eb | exact Ebd)) ?_
    clear hK hwb r0 r1 r2 r3 r4 r5 rf0 rf1 rf2 rf3 rf4 rf5
    have gb := Sb.keep ga (by omega)
    have u0 := (blk_cell gb 0).trans rfl
    have uf0 := blk_free gb 0
    have u1 := (blk_cell gb 1).trans rfl
    have uf1 := blk_free gb 1
    refine mix_loud (i := 8) (by kernel_rfl) rfl (fun K hK => ?_)
    go_simp
    obtain ⟨wc, hwc, gc, Sc⟩ := set2 gb rfl (.int .i64 z.k.1) (.int .i64 z.k.2)
    rw [← hwc]
    have Ec : Ext (fun j => j = w.heap.size + 1 ∨ j = w.heap.size + 2) w8 wc := Eb.trans (Sc.mono (fun j _ e => .inr e)) (fun _ _ h => h)
    have Ecd : Ext (fun j => j = w.heap.size + 1 ∨ j = w.heap.size + 2) w8 wc.drew := Ec.trans (show New wc wc.drew by (repeat (first | exact Ext.refl _ _ | assumption | apply Ext.alloc | apply Ext.drewN | apply Ext.drew | refine Ext.setCell ?_ (fun h => by first | rfl | exact absurd h (by dsimp only; omega)) _))).to (fun _ _ h => h)
    refine hK.out _ _ (lat_mem (by first | exact Ec | exact Ecd)) ?_
    clear hK hwc u0 u1 uf0 uf1
    refine mix_batch [9, 10] (by kernel_rfl) 0 _ _ _ (by kernel_rfl) (lat_mem (by (repeat (first | exact Ext.refl _ _ | assumption | apply Ext.alloc | apply Ext.drewN | apply Ext.drew | refine Ext.setCell ?_ (fun h => by first | rfl | exact absurd h (by dsimp only; omega)) _)))) ?_
    simp only [pickOps, List.getD_cons_zero, List.getD_cons_succ]
    repeat (go_big_quiet_step (fail))
    refine wpQuiet_nil ?_
    refine wpAnyH_done (by kernel_rfl) (NoPanic.normal ?_) _
    have pc := Sc.keep pb (by omega)
    have z0 := (blk_cell pc 0).trans rfl
    have z1 := (blk_cell pc 1).trans rfl
    have z2 := (blk_cell pc 2).trans rfl
    have z3 := (blk_cell pc 3).trans rfl
    have z4 := (blk_cell pc 4).trans rfl
    have z5 := (blk_cell pc 5).trans rfl
    have y0 := (blk_cell gc 0).trans rfl
    have y1 := (blk_cell gc 1).trans rfl
    go_wp2_with fail
    have Nc : New w wc := N8.trans Ec (fun j hj e => by omega)
    have hokc := (hoka.keep Sb (fun j e => .inl (by rw [show j = w.heap.size + 1 from e]; exact hTr))).keep Sc (fun j e => .inl (by rw [show j = w.heap.size + 2 from e]; exact hTg))
    have Ncd : New w wc.drew := Nc.then (show New wc wc.drew by (repeat (first | exact Ext.refl _ _ | assumption | apply Ext.alloc | apply Ext.drewN | apply Ext.drew | refine Ext.setCell ?_ (fun h => by first | rfl | exact absurd h (by dsimp only; omega)) _)))
    have hokd := hokc.new (show New wc wc.drew by (repeat (first | exact Ext.refl _ _ | assumption | apply Ext.alloc | apply Ext.drewN | apply Ext.drew | refine Ext.setCell ?_ (fun h => by first | rfl | exact absurd h (by dsimp only; omega)) _)))
    have hiss : z.iss + 1 = tz.iss := by rw [HTZ.out]; rfl
    first
      | (refine bodyPost_ret (v := .tuple #[o.v, kV z.k, .int .i64 tz.iss, .bool true]) (by simp [results, Try.results36, go_sem, z0, z1, z2, z3, z4, z5, y0, y1]) rfl ?_; refine ⟨o, by rw [hiss], hokd.wide (fun j hj => .inl (hTT j hj)), ?_, Ncd⟩)
      | (refine bodyPost_ret (v := .tuple #[o.v, kV z.k, .int .i64 tz.iss, .bool true]) (by simp [results, Try.results36, go_sem, z0, z1, z2, z3, z4, z5, y0, y1]) rfl ?_; refine ⟨o, by rw [hiss], hokc.wide (fun j hj => .inl (hTT j hj)), ?_, Nc⟩)
    rw [HS.out, HOS.out, HUU.out, HYS.out, HTZ.out]
    simp only [turnS, if_neg (show ¬ 1 < z.pend by have := HB.out; omega)]
end Go.Proofs.Ytmonhhodbinagaa
