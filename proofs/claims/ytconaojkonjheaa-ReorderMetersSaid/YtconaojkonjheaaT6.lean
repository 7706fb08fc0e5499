/- Walks: a number comes that did not come yet. -/
import Derived.Test.YtconaojkonjheaaT5
import Derived.Lib.AppendZeros
namespace Go.Proofs.Ytconaojkonjheaa
open Go.RowKit Go.Maps
set_option maxRecDepth 100000

/-- Where the walk stands behind the search and what it leads to. -/
def Cut2 (w : World) (p b : Nat) (A : Option Addr) (came rep reo ext late held : Int) (seen : List Int) (hs : List (Int × Int)) (M0 : Nat) (n : Int) (k : Nat) (s4 s5 : Value) (wc : World) : Prop :=
  ∃ (x l : Int) (A' : Option Addr) (n' c' : Nat) (hs' : List (Int × Int)), s4 = .int .i64 x ∧ s5 = .int .i64 l ∧ Met wc p b A' n' c' came rep reo ext late held (seen ++ [n]) hs' M0 ∧
    ((∃ (y z : Int × Int), hs[k]? = some y ∧ hs[hs.length - 1]? = some z ∧ x = came - y.2 ∧ l = z.1 - n ∧ hs' = hs) ∨ (hs.length ≤ k ∧ x = 0 ∧ l = 0 ∧ hs' = hs ++ [(n, came)])) ∧
    wc.heap[w.heap.size]? = some (.cells #[.pointer (some ⟨p, 0, none⟩)] 39) ∧ Ext (Tm p b A) w wc ∧ (∀ k, inA A' k → inA A k ∨ w.heap.size ≤ k)
theorem hcs_append (l k : List (Int × Int)) : hcs (l ++ k) = hcs l ++ hcs k := by simp [hcs]
theorem Ris.snoc {hs : List (Int × Int)} (h : Ris hs) {n a : Int} (hn : ∀ x ∈ hs, x.1 < n) : Ris (hs ++ [(n, a)]) := by
  intro i j x y hij hx hy
  have hi := (List.getElem?_eq_some_iff.1 hx).1
  have hj := (List.getElem?_eq_some_iff.1 hy).1
  simp at hi hj
  rw [List.getElem?_append_left (by omega)] at hx
  rcases Nat.lt_or_ge j hs.length with h1 | h1
  · rw [List.getElem?_append_left h1] at hy
    exact h i j x y hij hx hy
  · obtain rfl : j = hs.length := by omega
    rw [List.getElem?_append_right (Nat.le_refl _), Nat.sub_self] at hy
    cases hy
    exact hn x (List.mem_of_getElem? hx)

set_option maxHeartbeats 4000000 in
theorem add_new (p b : Nat) (A : Option Addr) (nh ch : Nat) (came rep reo ext late held : Int) (seen : List Int) (hs : List (Int × Int)) (next M0 : Nat) (n : Int) (w : World)
    (hm : Met w p b A nh ch came rep reo ext late held seen hs next) (hn : mayN n) (hin : n ∉ seen) (hc : 0 ≤ came ∧ came ≤ 5000) (hro : 0 ≤ reo ∧ reo ≤ 5000) (hsl : seen.length ≤ 5000) (hnh : nh ≤ 5000) (hhs : ∀ x ∈ hs, mayN x.1 ∧ 0 ≤ x.2 ∧ x.2 ≤ came ∧ x.1 ∈ seen)
    (hM1 : next ≤ M0) (hM2 : (M0 : Int) ∉ seen ++ [n]) (hM3 : ∀ k : Nat, next ≤ k → k < M0 → (k : Int) ∈ seen ++ [n]) (hM4 : M0 ≤ 10000) :
    Calls Try.prog 33 #[.pointer (some ⟨p, 0, none⟩), .int .i64 n] w fun e w' => ∃ (k : Nat) (A' : Option Addr) (n' c' : Nat) (x l : Int) (hs' : List (Int × Int)), e = .returned (.tuple #[.int .i64 x, .int .i64 l]) ∧ Fst hs n k ∧
      Met w' p b A' n' c' (came + 1) rep (if 0 < x then reo + 1 else reo) (mx ext x) (mx late l) (mx held (((seen.length + 1 : Nat) : Int) - M0)) (seen ++ [n]) hs' M0 ∧
      ((∃ (y z : Int × Int), hs[k]? = some y ∧ hs[hs.length - 1]? = some z ∧ x = came - y.2 ∧ l = z.1 - n ∧ hs' = hs) ∨ (hs.length ≤ k ∧ x = 0 ∧ l = 0 ∧ hs' = hs ++ [(n, came)])) ∧
      Ext (Tm p b A) w w' ∧ (∀ k, inA A' k → inA A k ∨ w.heap.size ≤ k) := by
  have hd := decide_eq_false hin
  have hwf : (Lit.int .i64 n).wf = true := wf64 (by have := hn.1; omega) (by have := hn.2; omega)
  have hnl := hn.1
  have hnu := hn.2
  have HD := hide hd
  have HM := hide hn
  have HI := hide hin
  clear hd hin hn
  obtain ⟨w0, hw0, hb0, hb1, hn0, hs0⟩ := two_new w #[.pointer (some ⟨p, 0, none⟩)] #[.int .i64 n] 39 3
  have c0 : ((w.alloc (.cells #[.pointer (some ⟨p, 0, none⟩)] 39)).alloc (.cells #[.int .i64 n] 3)).cell? ⟨p, 0, none⟩ = some (.int .i64 came) := by rw [← hw0]; exact New.cell hn0 ((hm.blk.c 0).trans rfl)
  go_enter Try.func33, Try.ntmps33
  go_wp2_with fail
  rw [← hw0]
  have HW := hide hw0
  clear hw0 c0
  have hpl := hm.blk.lt
  have hbl := hm.set.lt
  have hmb := hn0.keep hm.blk
  have hset := hm.set.new hn0
  have q2 : ∀ x : Lat (fun _ => False) w0, x.W.cell? ⟨w.heap.size, 0, none⟩ = some (.pointer (some ⟨p, 0, none⟩)) := fun x => (blk_cell (New.keep x.ext hb0) 0).trans rfl
  have q3 : ∀ x : Lat (fun _ => False) w0, x.W.cell? ⟨w.heap.size + 1, 0, none⟩ = some (.int .i64 n) := fun x => (blk_cell (New.keep x.ext hb1) 0).trans rfl
  have q6 : ∀ x : Lat (fun _ => False) w0, x.W.cell? ⟨p, 6, none⟩ = some (.map (some b)) := fun x => (blk_cell (New.keep x.ext hmb) 6).trans rfl
  have ql : ∀ x : Lat (fun _ => False) w0, (Instr.lookup 52 (.map (some b)) (.int .i64 n) true).run Try.prog x.W = .ok (.tuple #[.agg #[], .bool false]) x.W := fun x => by have := (hset.new x.ext).look hwf; rwa [HD.out] at this
  refine mix_start (fun _ => False) w0 (by kernel_rfl) ?_
  refine mix_batch [0, 1, 2, 3, 4, 5, 6, 7, 8] (by kernel_rfl) 3 _ _ _ (by kernel_rfl) (lat_mem (by (repeat (first | exact Ext.refl _ _ | assumption | apply Ext.alloc | apply Ext.drewN | apply Ext.drew | refine Ext.setCell ?_ (fun h => by first | rfl | exact absurd h (by dsimp only; omega)) _)))) ?_
  simp only [pickOps, List.getD_cons_zero, List.getD_cons_succ]
  repeat (go_big_quiet_step (fail))
  refine wpQuiet_nil ?_
  refine mix_loud (i := 9) (by kernel_rfl) rfl (fun K hK => ?_)
  go_simp
  refine hK.out _ _ (lat_mem (by (repeat (first | exact Ext.refl _ _ | assumption | apply Ext.alloc | apply Ext.drewN | apply Ext.drew | refine Ext.setCell ?_ (fun h => by first | rfl | exact absurd h (by dsimp only; omega)) _)))) ?_
  clear hK
  refine mix_loud (i := 10) (by kernel_rfl) rfl (fun K hK => ?_)
  go_simp
  refine hK.out _ _ (lat_mem (by (repeat (first | exact Ext.refl _ _ | assumption | apply Ext.alloc | apply Ext.drewN | apply Ext.drew | refine Ext.setCell ?_ (fun h => by first | rfl | exact absurd h (by dsimp only; omega)) _)))) ?_
  clear hK
  refine mix_batch [11] (by kernel_rfl) 0 _ _ _ (by kernel_rfl) (lat_mem (by (repeat (first | exact Ext.refl _ _ | assumption | apply Ext.alloc | apply Ext.drewN | apply Ext.drew | refine Ext.setCell ?_ (fun h => by first | rfl | exact absurd h (by dsimp only; omega)) _)))) ?_
  simp only [pickOps, List.getD_cons_zero, List.getD_cons_succ]
  repeat (go_big_quiet_step (fail))
  refine wpQuiet_nil ?_
  refine wpAnyH_done (by kernel_rfl) (NoPanic.normal ?_) _
  clear q2 q3 q6 ql
  have hn1 : New w0 (w0.alloc (.cells #[] 70)).drew := by (repeat (first | exact Ext.refl _ _ | assumption | apply Ext.alloc | apply Ext.drewN | apply Ext.drew | refine Ext.setCell ?_ (fun h => by first | rfl | exact absurd h (by dsimp only; omega)) _))
  have hn01 := hn0.then hn1
  have hmb1 := hn1.keep hmb
  have hset1 := hset.new hn1
  have hb01 := hn1.keep hb0
  have hb11 := hn1.keep hb1
  generalize (w0.alloc (.cells #[] 70)).drew = w1 at *
  go_wp2_with fail
  have hbne : ∀ {k : Nat} {cs : Array Value} {t : TypeId}, w1.heap[k]? = some (.cells cs t) → ¬ k = b := fun h => hset1.ne h
  have q2 : ∀ x : Lat (fun k => k = b) w1, x.W.cell? ⟨w.heap.size, 0, none⟩ = some (.pointer (some ⟨p, 0, none⟩)) := fun x => (blk_cell (Ext.keep x.ext hb01 (hbne hb01)) 0).trans rfl
  have q3 : ∀ x : Lat (fun k => k = b) w1, x.W.cell? ⟨w.heap.size + 1, 0, none⟩ = some (.int .i64 n) := fun x => (blk_cell (Ext.keep x.ext hb11 (hbne hb11)) 0).trans rfl
  have q6 : ∀ x : Lat (fun k => k = b) w1, x.W.cell? ⟨p, 6, none⟩ = some (.map (some b)) := fun x => (blk_cell (Ext.keep x.ext hmb1 (hbne hmb1)) 6).trans rfl
  obtain ⟨w2, hrun, hset2, he2⟩ := (show ISet w1.drew b seen from hset1.new (by (repeat (first | exact Ext.refl _ _ | assumption | apply Ext.alloc | apply Ext.drewN | apply Ext.drew | refine Ext.setCell ?_ (fun h => by first | rfl | exact absurd h (by dsimp only; omega)) _)))).put hwf HI.out (by omega)
  refine mix_start (fun k => k = b) w1 (by kernel_rfl) ?_
  refine mix_batch [0, 1, 2, 3, 4, 5] (by kernel_rfl) 1 _ _ _ (by kernel_rfl) (lat_mem (by (repeat (first | exact Ext.refl _ _ | assumption | apply Ext.alloc | apply Ext.drewN | apply Ext.drew | refine Ext.setCell ?_ (fun h => by first | rfl | exact absurd h (by dsimp only; omega)) _)))) ?_
  simp only [pickOps, List.getD_cons_zero, List.getD_cons_succ]
  repeat (go_big_quiet_step (fail))
  refine wpQuiet_nil ?_
  refine mix_loud (i := 6) (by kernel_rfl) rfl (fun K hK => ?_)
  go_simp
  have he12 : Ext (fun k => k = b) w1 w2 := Ext.trans (show Ext (fun k => k = b) w1 w1.drew by (repeat (first | exact Ext.refl _ _ | assumption | apply Ext.alloc | apply Ext.drewN | apply Ext.drew | refine Ext.setCell ?_ (fun h => by first | rfl | exact absurd h (by dsimp only; omega)) _))) he2 (fun _ _ h => h)
  refine hK.out _ _ (lat_mem (by (repeat (first | exact Ext.refl _ _ | assumption | apply Ext.alloc | apply Ext.drewN | apply Ext.drew | refine Ext.setCell ?_ (fun h => by first | rfl | exact absurd h (by dsimp only; omega)) _)))) ?_
  clear hK
  refine wpAnyH_done (by kernel_rfl) (NoPanic.normal ?_) _
  clear q2 q3 q6 hrun
  have hmb2 := he12.keep hmb1 (hbne hmb1)
  have hb02 := he12.keep hb01 (hbne hb01)
  have hb12 := he12.keep hb11 (hbne hb11)
  have k2 := (blk_cell hb02 0).trans rfl
  go_wp2_with fail
  refine (goes_any p b (seen ++ [n]) came rep reo ext late held _ next M0 _ hmb2 hset2 hM1 hM2 hM3 (by omega)).mono ?_
  rintro e w3 ⟨rfl, hmb3, he3⟩
  have hb03 := he3.keep hb02 (by omega)
  have hb13 := he3.keep hb12 (by omega)
  have k2' := (blk_cell hb03 0).trans rfl
  have k3 := (blk_cell hb13 0).trans rfl
  have c7 := (blk_cell hmb3 7).trans rfl
  clear k2
  go_wp2_with fail
  have hn03 : Ext (fun k => k = p ∨ k = b) w w3 := ((hn01.to).trans (he12.mono (fun k _ e => .inr e)) (fun _ _ h => h)).trans (he3.mono (fun k _ e => .inl e)) (fun _ _ h => h)
  have hown3 := hm.own.keep hn03 (fun k hk e => by
    rcases e with e | e
    · exact hm.np (e ▸ hk)
    · subst e; exact hm.own.notMap hm.set hk)
  refine (search_any p _ _ A nh ch hs n came rep reo ext late held _ M0 _ hmb3 k2' k3 hown3.rd hm.ris (by omega)).mono ?_
  rintro e w4' ⟨k, rfl, hF, nd, rfl⟩
  have hn4 : New w3 (w3.drewN nd) := new_draw w3 nd
  have hmb4 := hmb3.keep hn4 (fun h => h)
  have hset4 := (hset2.keep he3 (fun e => hset2.ne hmb2 e.symm)).new hn4
  have hown4 := hown3.new hn4
  have hb04 := hn4.keep hb03
  have hb14 := hn4.keep hb13
  have he4 := hn03.trans hn4.to (fun _ _ h => h)
  clear hb03 hb13 k2' k3 c7 hmb3 hown3 hn03 hmb2 hb02 hb12 hset2 he3 he12 hb01 hb11 hmb1 hset1 he2 hn1 hn01 hb0 hb1 hmb hset hn4
  generalize w3.drewN nd = w4 at *
  have c7 := (blk_cell hmb4 7).trans rfl
  have k2 := (blk_cell hb04 0).trans rfl
  have hlen4 := hown4.rd.lenh
  have HL := hide hlen4
  clear hlen4
  go_upto_if 62 with (fail)
  go_cut [4, 5] (fun s4 s5 wc => Cut2 w p b A came rep reo ext late held seen hs M0 n k s4 s5 wc)
  case first =>
    have hcap4 := hown4.rd.cap
    have htop4 := hown4.rd.top
    by_cases hkn : k < nh
    · have d1 : decide ((k : Int) < nh) = true := decide_eq_true (by omega)
      have d2 : decide (k < nh) = true := decide_eq_true (by omega)
      obtain ⟨y, hy⟩ : ∃ y, hs[k]? = some y := ⟨_, List.getElem?_eq_getElem (by have := HL.out; omega)⟩
      obtain ⟨m, rfl⟩ : ∃ m, nh = m + 1 := ⟨nh - 1, by omega⟩
      obtain ⟨z, hz⟩ : ∃ z, hs[m]? = some z := ⟨_, List.getElem?_eq_getElem (by have := HL.out; omega)⟩
      obtain ⟨ad, rfl⟩ := hown4.some (by omega)
      have c7q : ∀ u, (w4.drewN u).cell? ⟨p, 7, none⟩ = some (.slice (some ad) (m + 1) ch) := fun u => c7
      have g1 := (hown4.rd.cellh hy).2
      have g2 := (hown4.rd.cellh hz).1
      have k3 := (blk_cell hb14 0).trans rfl
      have hy1 := hhs y (List.mem_of_getElem? hy)
      have hz1 := hhs z (List.mem_of_getElem? hz)
      have hy2 := hy1.2.1
      have hy3 := hy1.2.2.1
      have hz2 := hz1.1.1
      have hz3 := hz1.1.2
      have HY := hide hy
      have HZ := hide hz
      clear hy hz hy1 hz1
      go_wp2_with fail
      go_quiet (fail)
      go_wp2_with fail
      go_meet
      have hnq : New w4 (w4.drewN nq) := new_draw w4 nq
      exact ⟨_, _, some ad, m + 1, ch, hs, rfl, rfl, ⟨hmb4.keep hnq (fun h => h), hset4.new hnq, hown4.new hnq, hm.np, hm.ris⟩, .inl ⟨y, z, HY.out, by have := HL.out; rw [this]; exact HZ.out, rfl, rfl, rfl⟩, hnq.keep hb04, (he4.trans hnq.to (fun _ _ h => h)).mono (fun k _ e => by rcases e with e | e; exact .inl e; exact .inr (.inl e)), fun k hk => .inl hk⟩
    · have d1 : decide ((k : Int) < nh) = false := decide_eq_false (by omega)
      have d2 : decide (k < nh) = false := decide_eq_false (by omega)
      go_wp2_with fail
      have hbl4 := hmb4.lt
      have hAp : ∀ k, inA A k → k ≠ p ∧ k < w4.heap.size := fun k hk => ⟨fun e => hm.np (e ▸ hk), (hown4.at_ hk).2⟩
      have hAw : ∀ k, inA A k → k < w.heap.size := fun k hk => (hm.own.at_ hk).2
      have q2 : ∀ x : Lat (inA A) w4, x.W.cell? ⟨w.heap.size, 0, none⟩ = some (.pointer (some ⟨p, 0, none⟩)) := fun x => (blk_cell (Ext.keep x.ext hb04 (fun hk => by have := hAw _ hk; omega)) 0).trans rfl
      have q3 : ∀ x : Lat (inA A) w4, x.W.cell? ⟨w.heap.size + 1, 0, none⟩ = some (.int .i64 n) := fun x => (blk_cell (Ext.keep x.ext hb14 (fun hk => by have := hAw _ hk; omega)) 0).trans rfl
      have q7 : ∀ x : Lat (inA A) w4, x.W.cell? ⟨p, 7, none⟩ = some (.slice A nh ch) := fun x => (blk_cell (Ext.keep x.ext hmb4 (fun hk => (hAp _ hk).1 rfl)) 7).trans rfl
      clear c7 k2
      refine mixU_start 12 (inA A) w4 (by kernel_rfl) ?_
      refine mixU_batch [0, 1, 2, 3, 4, 5, 6, 7] (by kernel_rfl) 5 _ _ _ (by kernel_rfl) (lat_mem (by (repeat (first | exact Ext.refl _ _ | assumption | apply Ext.alloc | apply Ext.drewN | apply Ext.drew | refine Ext.setCell ?_ (fun h => by first | rfl | exact absurd h (by dsimp only; omega)) _)))) ?_
      simp only [pickOps, List.getD_cons_zero, List.getD_cons_succ]
      repeat (go_big_quiet_step (fail))
      refine wpQuiet_nil ?_
      refine mixU_loud (i := 8) (by kernel_rfl) rfl (fun K hK => ?_)
      go_simp
      refine hK.out _ _ (lat_mem (by (repeat (first | exact Ext.refl _ _ | assumption | apply Ext.alloc | apply Ext.drewN | apply Ext.drew | refine Ext.setCell ?_ (fun h => by first | rfl | exact absurd h (by dsimp only; omega)) _)))) ?_
      clear hK
      refine mixU_loud (i := 9) (by kernel_rfl) rfl (fun K hK => ?_)
      rw [if_pos (by kernel_rfl)]
      have hwa : New w4 (w4.alloc (.cells #[.int .i64 n, .int .i64 came] 69)).drew := by (repeat (first | exact Ext.refl _ _ | assumption | apply Ext.alloc | apply Ext.drewN | apply Ext.drew | refine Ext.setCell ?_ (fun h => by first | rfl | exact absurd h (by dsimp only; omega)) _))
      have hrb : Rd (w4.alloc (.cells #[.int .i64 n, .int .i64 came] 69)).drew 2 (some ⟨w4.heap.size, 0, none⟩) 1 1 (hcs [(n, came)]) := (rd_lit w4 69 2 1 #[.int .i64 n, .int .i64 came] (by omega) rfl (by simp [Value.oneCell'])).new (show New (w4.alloc (.cells #[.int .i64 n, .int .i64 came] 69)) _ by (repeat (first | exact Ext.refl _ _ | assumption | apply Ext.alloc | apply Ext.drewN | apply Ext.drew | refine Ext.setCell ?_ (fun h => by first | rfl | exact absurd h (by dsimp only; omega)) _)))
      obtain ⟨A5, c5, w5, hrun, ho5, he5, hA5⟩ := run_app (P := Try.prog) (w4.alloc (.cells #[.int .i64 n, .int .i64 came] 69)).drew 0 53 53 69 (.agg #[.int .i64 0, .int .i64 0]) 2 16 Try.underlying53 info_h rfl (by decide) (by decide) (hown4.new hwa) hrb (by omega) (Nat.zero_le _)
      refine Lib.wp_append_run _ _ _ _ _ rfl _ _ rfl rfl _ _ hrun ?_
      have he45 : Ext (inA A) w4 w5 := hwa.to.trans he5 (fun _ _ h => h)
      refine hK.out _ _ (lat_mem he45) ?_
      clear hK
      go_simp
      refine mixU_batch [10, 11] (by kernel_rfl) 1 _ _ _ (by kernel_rfl) (lat_mem he45) ?_
      simp only [pickOps, List.getD_cons_zero, List.getD_cons_succ]
      repeat (go_big_quiet_step (fail))
      refine wpQuiet_nil ?_
      have hmb5 := he45.keep hmb4 (fun hk => (hAp _ hk).1 rfl)
      have j7 := (blk_cell hmb5 7).trans rfl
      have f7 := blk_free hmb5 7
      refine mixU_last (by kernel_rfl) (by kernel_rfl) rfl (fun K hK => ?_)
      go_simp
      refine hK.out _ _ (mixU_after (S' := fun W => ∃ x : Lat (fun k => k = p) w5, W = x.W) _ _ _ _ (by kernel_rfl) ?_)
      clear hK
      refine wpAnyH_done (by kernel_rfl) (NoPanic.normal ?_) _
      clear q2 q3 q7 j7 f7
      go_wp2_with fail
      go_meet
      have hs6 : Ext (fun k => k = p) w5 (w5.setCell ⟨p, 7, none⟩ (.slice A5 (nh + 1) c5)) := (Ext.refl _ w5).set (by rfl)
      have hs5 := hset4.keep he45 (fun hk => hown4.notMap hset4 hk)
      have hsub : ∀ x ∈ hs, x.1 < n := fun x hx => by
        obtain ⟨i, hi, hix⟩ := List.getElem_of_mem hx
        have h1 := hF.2.1 i x (by have := HL.out; omega) (by rw [List.getElem?_eq_getElem hi, hix])
        have h2 : x.1 ≠ n := fun e => HI.out (e ▸ (hhs x hx).2.2.2)
        omega
      have hnp5 : ¬ inA A5 p := fun hk => by
        rcases hA5 with rfl | rfl
        · exact hm.np hk
        · have h1 := (inA_some _ _).1 hk
          have h1 : (w4.alloc (.cells #[.int .i64 n, .int .i64 came] 69)).heap.size = p := h1
          simp at h1
          omega
      refine ⟨0, 0, A5, nh + 1, c5, hs ++ [(n, came)], rfl, rfl, ⟨blk_set hmb5 7 (.slice A5 (nh + 1) c5), hs5.keep hs6 (fun e => hs5.ne hmb5 e.symm), ?_, hnp5, hm.ris.snoc hsub⟩, .inr ⟨by have := HL.out; omega, rfl, rfl, rfl⟩, hs6.keep (he45.keep hb04 (fun hk => by have := hAw _ hk; omega)) (by omega), ?_, ?_⟩
      · have := ho5.keep hs6 (fun k hk e => hnp5 (e ▸ hk))
        rwa [← hcs_append] at this
      · refine ((he4.mono (T := Tm p b A) (fun k _ e => ?_)).trans he45 (fun k _ hk => .inr (.inr hk))).trans hs6 (fun k _ e => .inl e)
        rcases e with e | e
        · exact .inl e
        · exact .inr (.inl e)
      · intro k hk
        rcases hA5 with rfl | rfl
        · exact .inl hk
        · have h1 := (inA_some _ _).1 hk
          have h2 := he4.size
          refine .inr ?_
          have h1 : (w4.alloc (.cells #[.int .i64 n, .int .i64 came] 69)).heap.size = k := h1
          simp at h1
          omega
  case rest =>
    obtain ⟨x, l, A2, n2, c2, hs2, rfl, rfl, hm5, halt, hb05, he5, hf5⟩ := hcut
    clear hb04 hb14 c7 k2 hmb4 hset4 hown4
    have hset5 := hm5.set
    have hp5 := hm5.blk.lt
    have hsl : (seen ++ [n]).length = seen.length + 1 := by simp
    have hwn : ∀ y : Lat (fun _ => False) wc, (Builtin.len_ #[52] 3 #[.map (some b)]).run Try.prog y.W = .ok (.int .i64 ((seen ++ [n]).length : Nat)) y.W := fun y => (hset5.new y.ext).len _
    rw [hsl] at hwn
    have q2 : ∀ y : Lat (fun _ => False) wc, y.W.cell? ⟨w.heap.size, 0, none⟩ = some (.pointer (some ⟨p, 0, none⟩)) := fun y => (blk_cell (New.keep y.ext hb05) 0).trans rfl
    have q6 : ∀ y : Lat (fun _ => False) wc, y.W.cell? ⟨p, 6, none⟩ = some (.map (some b)) := fun y => (blk_cell (New.keep y.ext hm5.blk) 6).trans rfl
    have q8 : ∀ y : Lat (fun _ => False) wc, y.W.cell? ⟨p, 8, none⟩ = some (.int .i64 M0) := fun y => (blk_cell (New.keep y.ext hm5.blk) 8).trans rfl
    clear hsl
    go_wp2_with fail
    refine mixU_start 15 (fun _ => False) wc (by kernel_rfl) ?_
    refine mixU_batch [0, 1, 2, 3, 4, 5, 6, 7, 8, 9, 10, 11, 12, 13, 14] (by kernel_rfl) 1 _ _ _ (by kernel_rfl) (lat_mem (by (repeat (first | exact Ext.refl _ _ | assumption | apply Ext.alloc | apply Ext.drewN | apply Ext.drew | refine Ext.setCell ?_ (fun h => by first | rfl | exact absurd h (by dsimp only; omega)) _)))) ?_
    simp only [pickOps, List.getD_cons_zero, List.getD_cons_succ]
    repeat (go_big_quiet_step (fail))
    refine wpQuiet_nil ?_
    refine mixU_last (by kernel_rfl) (by kernel_rfl) rfl (fun K hK => ?_)
    go_simp
    have hwd : New wc wc.drew := by (repeat (first | exact Ext.refl _ _ | assumption | apply Ext.alloc | apply Ext.drewN | apply Ext.drew | refine Ext.setCell ?_ (fun h => by first | rfl | exact absurd h (by dsimp only; omega)) _))
    refine (note_any p came rep reo ext late held (.map (some b)) (.slice A2 n2 c2) M0 x l _ _ (hm5.blk.keep hwd (fun h => h)) (by omega) (by omega)).mono ?_
    rintro e w6 ⟨rfl, hb6, he6⟩
    have he6' : Ext (fun k => k = p) wc w6 := hwd.to.trans he6 (fun _ _ h => h)
    refine hK.out _ _ (mixU_after (S' := fun W => ∃ x : Lat (fun _ => False) w6, W = x.W) _ _ _ _ (by kernel_rfl) ?_)
    clear hK
    refine wpAnyH_done (by kernel_rfl) (NoPanic.normal ?_) _
    clear q2 q6 q8 hwn
    go_wp2_with fail
    go_ret2
    have hset6 := hset5.keep he6' (fun e => hset5.ne hm5.blk e.symm)
    refine ⟨k, A2, n2, c2, x, l, hs2, rfl, hF, ⟨hb6, hset6, hm5.own.keep he6' (fun k hk e => hm5.np (e ▸ hk)), hm5.np, hm5.ris⟩, halt, he5.trans he6' (fun k _ e => .inl e), hf5⟩
end Go.Proofs.Ytconaojkonjheaa
