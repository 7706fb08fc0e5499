/- The law on meters. -/
import Derived.Test.YtconaojkonjheaaT20
namespace Go.Proofs.Ytconaojkonjheaa
open Go.RowKit Go.Maps
set_option maxRecDepth 100000

def vsb (l : List Bool) : List Value := l.map Value.bool
open Go.ChangeShapes Go.WideShapes in
theorem open_rows4 {H : Type} {enc : TypeId × Value → H} {W : World} {a : Option Addr} {n c : Nat} {d : DataW H} {ps : List MemPlace} {ts : List TypeId} {ds : List (DataW H)} {j t : Nat}
    (hsz : (DataW.weightsEach Try.prog ts ds).all (· ≤ reachBytes) = true) (ht : ts[j]? = some t) (hd : ds[j]? = some d) (e : t = 46) (h : DataW.Trod enc Try.prog W 0 (fun _ => true) true 46 (.slice a n c) d ps) :
    ∃ l : List Bool, Rd W 1 a n c (vsb l) ∧ True := by
  subst e
  obtain ⟨l, hr⟩ := open_bools Try.underlying46 Try.underlying4 (by kernel_rfl) rfl hsz ht hd h
  exact ⟨l, hr, trivial⟩

theorem MS.keep {S : Nat → Prop} {w w' : World} {p b : Nat} {A : Option Addr} {n c : Nat} {l : List Int} {hs : List (Int × Int)} (h : MS w p b A n c l hs) (he : Ext S w w') (hS : ∀ k, Tm p b A k → ¬ S k) : MS w' p b A n c l hs :=
  ⟨⟨h.met.blk.keep he (hS _ (.inl rfl)), h.met.set.keep he (hS _ (.inr (.inl rfl))), h.met.own.keep he (fun k hk => hS k (.inr (.inr hk))), h.met.np, h.met.ris⟩, h.hs_, h.le⟩
theorem Bes.new {w wr w' : World} {p b : Nat} {A : Option Addr} {n c : Nat} {l : List Int} {hs : List (Int × Int)} {Ao : Option Addr} {m co : Nat} {out : List Int} (h : Bes w wr p b A n c l hs Ao m co out) (hn : New wr w') : Bes w w' p b A n c l hs Ao m co out :=
  ⟨h.ms.new hn, h.ow.new hn, h.dj, h.hp, h.hb, h.hA, h.nw.then hn⟩
theorem vsi_one (l : List Int) (i : Nat) (x : Int) (hx : l[i]? = some x) : ((vsi l).drop (i * 1)).take ((i + 1 - i) * 1) = vsi [x] := by
  rw [Nat.mul_one, Nat.mul_one, show i + 1 - i = 1 by omega]
  have h1 := (List.getElem?_eq_some_iff.1 hx)
  obtain ⟨hi, hxi⟩ := h1
  unfold vsi
  rw [← List.map_drop, ← List.map_take, List.drop_eq_getElem_cons hi, hxi]
  rfl
theorem errL_one_yes {x : Int} (h : mayN x) : errL [x] = 0 := errL_yes ⟨by simp, by simpa using h⟩
theorem errL_one_no {x : Int} (h : ¬ mayN x) : errL [x] = 5 := by
  unfold errL
  rw [if_neg (by simp), if_neg (by simpa using h)]
/-- Before round i. -/
def RelMt (w : World) (i : Nat) (s5 s6 : Value) (wr : World) : Prop :=
  ∃ p b A n c L hs Ao co, s5 = .pointer (some ⟨p, 0, none⟩) ∧ s6 = .slice Ao L.length co ∧ Bes w wr p b A n c L hs Ao L.length co L ∧ L.length ≤ i ∧ Hid (∀ y ∈ L, mayN y)
/-- A meter goes on as another. -/
def CutM (w : World) (L : List Int) (Ao : Option Addr) (co : Nat) (s5 : Value) (wc : World) : Prop :=
  ∃ p b A n c hs, s5 = .pointer (some ⟨p, 0, none⟩) ∧ Bes w wc p b A n c L hs Ao L.length co L

set_option maxHeartbeats 4000000 in
theorem law_meters_walk (A : Option Addr) (m c : Nat) (L0 : List Int) (B : Option Addr) (fm fc : Nat) (fk : List Bool) (w : World) (h : Rd w 1 A m c (vsi L0)) (hf : Rd w 1 B fm fc (vsb fk)) :
    Calls Try.prog 5 #[.slice A m c, .slice B fm fc] w fun e w' => e = .returned (.bool true) ∧ New w w' := by
  obtain ⟨n, hn⟩ : ∃ n, n = min m 60 := ⟨_, rfl⟩
  have hrd := h.takei n (by omega)
  have hcap := h.cap
  have hn60 : n ≤ 60 := by omega
  generalize L0.take n = l at hrd
  have hlen := hrd.leni
  have hflen : fk.length = fm := by have := hf.len; simp [vsb] at this; omega
  have HN := hide hn
  have HL := hide hlen
  have HF := hide hflen
  clear hn hlen hflen
  go_enter Try.func5, Try.ntmps5
  go_wp2_with fail
  refine (cut_any A m c n _ hcap HN.out).mono ?_
  rintro e w1 ⟨rfl, rfl⟩
  go_wp2_with fail
  refine (new_any _).mono ?_
  rintro e w1 ⟨p, b, rfl, hms, hp, hb, hw1⟩
  go_wp2_with fail
  refine (awake_any _).mono ?_
  rintro e w2 ⟨rfl, hn2⟩
  have hR : Bes w w2 p b none 0 0 [] [] none 0 0 [] := ⟨hms.new hn2, Own.nil _ _ _ _, (fun k hk => absurd hk (inA_none k)), hp, hb, (fun k hk => absurd hk (inA_none k)), hw1.then hn2⟩
  clear hms hp hb hw1 hn2
  go_wp2_with fail
  go_loopw [5, 6, 7] (fun s5 s6 s wr => ∃ i : Nat, i ≤ n ∧ s = .int .i64 (i : Nat) ∧ RelMt w i s5 s6 wr) (fun _ _ s _ => n - (intOf s).toNat)
  case atStart => exact ⟨0, Nat.zero_le _, rfl, p, b, none, 0, 0, [], [], none, 0, rfl, rfl, hR, Nat.le_refl _, hide (by simp)⟩
  case round =>
    clear hR
    obtain ⟨i, hi, rfl, p, b, A1, n1, c1, L, hs, Ao, co, rfl, rfl, hR, hLi, hmay⟩ := hrel
    by_cases hin : i < n
    · have d1 : decide ((i : Int) < n) = true := decide_eq_true (by omega)
      have d2 : decide (i < n) = true := decide_eq_true (by omega)
      have hin2 : (i : Int) < n := by omega
      obtain ⟨ad, rfl⟩ := hrd.some (by omega)
      obtain ⟨x, hx⟩ : ∃ x, l[i]? = some x := ⟨_, List.getElem?_eq_getElem (by have := HL.out; omega)⟩
      have HX := hide hx
      clear hx
      have hcxi := fun (wz : World) (hz : New w wz) => (hrd.new hz).celli HX.out
      obtain ⟨D, hD⟩ : ∃ D : Bool, D = (fk[i]?).getD false := ⟨_, rfl⟩
      have HD := hide hD
      clear hD
      go_upto_region 9 with (fail)
      go_cut [39] (fun s39 wc => s39 = .bool D ∧ wc = wr)
      case first =>
        by_cases hif : i < fm
        · have d3 : decide ((i : Int) < fm) = true := decide_eq_true (by omega)
          have d4 : decide (i < fm) = true := decide_eq_true (by omega)
          obtain ⟨bd, rfl⟩ := hf.some (by omega)
          obtain ⟨v, hv⟩ : ∃ v, fk[i]? = some v := ⟨_, List.getElem?_eq_getElem (by have := HF.out; omega)⟩
          have hcb := (hf.new hR.nw).cell bd rfl i (.bool v) (by rw [vsb, List.getElem?_map, hv]; rfl)
          have hDv : D = v := by rw [HD.out, hv]; rfl
          subst hDv
          clear hv
          go_wp2_with fail
          go_meet
          exact ⟨rfl, rfl⟩
        · have d3 : decide ((i : Int) < fm) = false := decide_eq_false (by omega)
          have d4 : decide (i < fm) = false := decide_eq_false (by omega)
          have hDv : D = false := by rw [HD.out, List.getElem?_eq_none (by have := HF.out; omega)]; rfl
          subst hDv
          go_wp2_with fail
          go_meet
          exact ⟨rfl, rfl⟩
      case rest =>
        obtain ⟨rfl, rfl⟩ := hcut
        clear HD
        go_upto_if 39 with (fail)
        go_cut [5] (fun s5 wd => CutM w L Ao co s5 wd)
        case first =>
          cases D with
          | true =>
            go_wp2_with fail
            refine (fork_m p b A1 n1 c1 L hs _ hR.ms (by have := hR.ms.le; have := hR.ms.met.own.rd.lenh; omega) hmay.out (by omega)).mono ?_
            rintro e w2 ⟨p', b', A', c', rfl, hms', hlow', hn2⟩
            go_wp2_with fail
            refine (Add_yes (hR.ms.new hn2) 0 ⟨by omega, by omega⟩ (by omega) hmay.out).mono ?_
            rintro e w3 ⟨rfl, A3, n3, c3, hs3, hms3, he3, hf3⟩
            go_wp2_with fail
            refine (Add_yes hms3 7 ⟨by omega, by omega⟩ (by simp; omega) (fun y hy => by
              rcases List.mem_append.1 hy with hy | hy
              · exact hmay.out y hy
              · cases List.mem_singleton.1 hy; exact ⟨by omega, by omega⟩)).mono ?_
            rintro e w4 ⟨rfl, A4, n4, c4, hs4, hms4, he4, hf4⟩
            go_wp2_with fail
            go_meet
            have hlt0 := Tm.lt hR.ms
            have hlt' := Tm.lt hms'
            have hB2 := hR.new hn2
            have hB3 := hB2.add hms3 he3 hf3
            have hB4 := hB3.add hms4 he4 hf4
            have hm3 := hms'.keep he3 (fun k hk ht => by have := hlow' k hk; have := hlt0 k ht; omega)
            have hm4 := hm3.keep he4 (fun k hk ht => by
              have h1 := hlow' k hk
              have h2 := hlt' k hk
              rcases ht with e | e | e
              · have := hlt0 k (.inl e); omega
              · have := hlt0 k (.inr (.inl e)); omega
              · rcases hf3 k e with e2 | e2
                · have := hlt0 k (.inr (.inr e2)); omega
                · omega)
            have hws := hR.nw.size
            exact ⟨p', b', A', n1, c', hs, rfl, hm4, hB4.ow, (fun k hk ht => by have := hlow' k ht; have := (hR.ow.at_ hk).2; omega), Nat.le_trans hws (hlow' _ (.inl rfl)), Nat.le_trans hws (hlow' _ (.inr (.inl rfl))), (fun k hk => Nat.le_trans hws (hlow' k (.inr (.inr hk)))), hB4.nw⟩
          | false =>
            go_wp2_with fail
            go_meet
            exact ⟨p, b, A1, n1, c1, hs, rfl, hR⟩
        case rest =>
          clear hR
          obtain ⟨p, b, A1, n1, c1, hs, rfl, hR⟩ := hcut
          have hcx := hcxi _ hR.nw
          have hcapl := hrd.cap
          have s1 := run_cut (P := Try.prog) 22 3 1 Try.underlying22 size_i (some ad) n c (i : Int) ((i : Int) + 1) i (i + 1) rfl (by omega) (by omega) (by omega) .i64 .i64
          have hone := hrd.sub i (i + 1) (by omega) (by omega)
          rw [vsi_one l i x HX.out] at hone
          rw [show i + 1 - i = 1 by omega] at s1 hone
          go_wp2_with fail
          by_cases hmx : mayN x
          · have HM := hide hmx
            refine (Add_yes hR.ms x hmx (by omega) hmay.out).mono ?_
            rintro e w2 ⟨rfl, A2, n2, c2, hs2, hms2, he2, hf2⟩
            have hB2 := hR.add hms2 he2 hf2
            clear hmx hcx
            have hcx2 := hcxi _ hB2.nw
            go_wp2_with fail
            refine (rcheck_any _ 1 _ [x] _ (hone.new hB2.nw)).mono ?_
            rintro e w3 ⟨rfl, rfl⟩
            rw [errL_one_yes HM.out]
            have hsz2 := hB2.nw.size
            go_wp2_with (at_builtin; refine app_i rfl _ _ rfl w.heap.size rfl rfl (hB2.ow.new (New.alloc1 _ _)) (rd_box _ _ _ rfl) (by omega) (by simp; omega) ?_; intro A5 c5 w5 ho5 he5 hA5)
            have hB5 := hB2.app (out' := L ++ [x]) (by rw [vsi_append]; exact ho5) he5 hA5
            have hml : mayL (L ++ [x]) := ⟨by simp; omega, fun y hy => by
              rcases List.mem_append.1 hy with hy | hy
              · exact hmay.out y hy
              · cases List.mem_singleton.1 hy; exact HM.out⟩
            refine (rExtents_any A5 (L.length + 1) c5 (L ++ [x]) _ hB5.ow.rd).mono ?_
            rintro e w6 ⟨Ay, my, cy, rfl, hy6, hn6⟩
            rw [if_pos hml, gs_snoc] at hy6
            rw [errL_yes hml]
            have HML := hide hml
            clear hml
            have hmy : my = L.length + 1 := by
              have := hy6.rd.leni
              simp [gs_len] at this
              omega
            subst hmy
            obtain ⟨yd, rfl⟩ := hy6.some (by omega)
            have hcy := hy6.rd.celli (k := L.length) (x := extF L x) (by rw [List.getElem?_append_right (by rw [gs_len]; exact Nat.le_refl _), gs_len, Nat.sub_self]; rfl)
            have hB6 := hB5.new hn6
            clear hcx2
            go_wp2_with fail
            refine ⟨⟨i + 1, by omega, by go_num, p, b, A2, n2, c2, L ++ [x], hs2, A5, c5, rfl, by simp, ?_, by simp; omega, hide HML.out.2⟩, by simp [intOf]; omega⟩
            rw [List.length_append]
            exact hB6
          · have HM := hide hmx
            refine (Add_bad hR.ms x hmx).mono ?_
            rintro e w2 ⟨rfl, rfl⟩
            clear hmx
            go_wp2_with fail
            refine (rcheck_any _ 1 _ [x] _ (hone.new hR.nw)).mono ?_
            rintro e w3 ⟨rfl, rfl⟩
            rw [errL_one_no HM.out]
            go_wp2_with fail
            exact ⟨⟨i + 1, by omega, by go_num, p, b, A1, n1, c1, L, hs, Ao, co, rfl, rfl, hR, by omega, hmay⟩, by simp [intOf]; omega⟩
    · have d1 : decide ((i : Int) < n) = false := decide_eq_false (by omega)
      have d2 : decide (i < n) = false := decide_eq_false (by omega)
      go_wp2_with fail
      have hml : mayL L := ⟨by omega, hmay.out⟩
      refine (rof_any Ao L.length co L _ hR.ow.rd).mono ?_
      rintro e w2 ⟨rfl, hn2⟩
      rw [if_pos hml]
      unfold rpV
      have HML := hide hml
      clear hml
      go_wp2_with fail
      have hn3 : New wr (w2.alloc (.cells #[.int .i64 (RP L).came, .int .i64 (RP L).rep, .int .i64 (RP L).reo, .int .i64 (RP L).ext, .int .i64 (RP L).late, .int .i64 (RP L).held] 29)) := hn2.then (New.alloc1 _ _)
      have hbb := blk_new w2 (.cells #[.int .i64 (RP L).came, .int .i64 (RP L).rep, .int .i64 (RP L).reo, .int .i64 (RP L).ext, .int .i64 (RP L).late, .int .i64 (RP L).held] 29)
      generalize w2.alloc (.cells #[.int .i64 (RP L).came, .int .i64 (RP L).rep, .int .i64 (RP L).reo, .int .i64 (RP L).ext, .int .i64 (RP L).late, .int .i64 (RP L).held] 29) = w3 at *
      have hB3 := hR.new hn3
      have hq : ∀ (i : Nat) (v : Value), w3.cell? ⟨w2.heap.size, i, none⟩ = some v → ∀ x : Lat (fun _ => False) w3, x.W.cell? ⟨w2.heap.size, i, none⟩ = some v := fun i v hc x => New.cell x.ext hc
      have q0 := hq 0 _ ((blk_cell hbb 0).trans rfl)
      have q1 := hq 1 _ ((blk_cell hbb 1).trans rfl)
      have q2 := hq 2 _ ((blk_cell hbb 2).trans rfl)
      have q3 := hq 3 _ ((blk_cell hbb 3).trans rfl)
      have q4 := hq 4 _ ((blk_cell hbb 4).trans rfl)
      have q5 := hq 5 _ ((blk_cell hbb 5).trans rfl)
      clear hq
      refine mix_start (fun _ => False) w3 (by kernel_rfl) ?_
      refine mix_batch [0, 2] (by kernel_rfl) 10 _ _ _ (by kernel_rfl) (lat_mem (by (repeat (first | exact Ext.refl _ _ | assumption | apply Ext.alloc | apply Ext.drewN | apply Ext.drew | refine Ext.setCell ?_ (fun h => by first | rfl | exact absurd h (by dsimp only; omega)) _)))) ?_
      simp only [pickOps, List.getD_cons_zero, List.getD_cons_succ]
      repeat (go_big_quiet_step (fail))
      refine wpQuiet_nil ?_
      refine mix_loud (i := 1) (by kernel_rfl) rfl (fun K hK => ?_)
      go_simp
      have h3d : New w3 w3.drew := by (repeat (first | exact Ext.refl _ _ | assumption | apply Ext.alloc | apply Ext.drewN | apply Ext.drew | refine Ext.setCell ?_ (fun h => by first | rfl | exact absurd h (by dsimp only; omega)) _))
      have hrep := report_m (hB3.ms.new h3d)
      unfold rpV at hrep
      refine hrep.mono ?_
      rintro e w4 ⟨rfl, hn4⟩
      have h34 := h3d.then hn4
      refine hK.out _ _ (lat_mem (by (repeat (first | exact Ext.refl _ _ | assumption | apply Ext.alloc | apply Ext.drewN | apply Ext.drew | refine Ext.setCell ?_ (fun h => by first | rfl | exact absurd h (by dsimp only; omega)) _)))) ?_
      clear hK
      refine mix_loud (i := 3) (by kernel_rfl) rfl (fun K hK => ?_)
      go_simp
      have hse := rep_eq (RP L) w4
      unfold rpV at hse
      refine hse.mono ?_
      rintro e w5 ⟨rfl, hn5⟩
      have h35 := h34.then hn5
      refine hK.out _ _ (lat_mem (by (repeat (first | exact Ext.refl _ _ | assumption | apply Ext.alloc | apply Ext.drewN | apply Ext.drew | refine Ext.setCell ?_ (fun h => by first | rfl | exact absurd h (by dsimp only; omega)) _)))) ?_
      clear hK
      refine mix_batch [4, 5, 7] (by kernel_rfl) 5 _ _ _ (by kernel_rfl) (lat_mem (by (repeat (first | exact Ext.refl _ _ | assumption | apply Ext.alloc | apply Ext.drewN | apply Ext.drew | refine Ext.setCell ?_ (fun h => by first | rfl | exact absurd h (by dsimp only; omega)) _)))) ?_
      simp only [pickOps, List.getD_cons_zero, List.getD_cons_succ]
      repeat (go_big_quiet_step (fail))
      refine wpQuiet_nil ?_
      refine mix_loud (i := 6) (by kernel_rfl) rfl (fun K hK => ?_)
      go_simp
      refine (next_m (hB3.ms.new h35)).mono ?_
      rintro e w6 ⟨rfl, hw6⟩
      subst hw6
      refine hK.out _ _ (lat_mem (by (repeat (first | exact Ext.refl _ _ | assumption | apply Ext.alloc | apply Ext.drewN | apply Ext.drew | refine Ext.setCell ?_ (fun h => by first | rfl | exact absurd h (by dsimp only; omega)) _)))) ?_
      clear hK
      refine mix_loud (i := 8) (by kernel_rfl) rfl (fun K hK => ?_)
      go_simp
      refine (rnext_any Ao L.length co L _ (hB3.ow.rd.new h35) (by have := mexOf_le L HML.out.2; omega)).mono ?_
      rintro e w6 ⟨rfl, hw6⟩
      subst hw6
      refine hK.out _ _ (lat_mem (by (repeat (first | exact Ext.refl _ _ | assumption | apply Ext.alloc | apply Ext.drewN | apply Ext.drew | refine Ext.setCell ?_ (fun h => by first | rfl | exact absurd h (by dsimp only; omega)) _)))) ?_
      clear hK
      refine mix_batch [9, 10, 11] (by kernel_rfl) 0 _ _ _ (by kernel_rfl) (lat_mem (by (repeat (first | exact Ext.refl _ _ | assumption | apply Ext.alloc | apply Ext.drewN | apply Ext.drew | refine Ext.setCell ?_ (fun h => by first | rfl | exact absurd h (by dsimp only; omega)) _)))) ?_
      simp only [pickOps, List.getD_cons_zero, List.getD_cons_succ]
      repeat (go_big_quiet_step (fail))
      refine wpQuiet_nil ?_
      refine wpAnyH_done (by kernel_rfl) (NoPanic.normal ?_) _
      clear q0 q1 q2 q3 q4 q5
      go_wp2_with fail
      go_ret
      exact ⟨rfl, hB3.nw.then h35⟩

theorem law_meters (A : Option Addr) (m c : Nat) (L0 : List Int) (B : Option Addr) (fm fc : Nat) (fk : List Bool) (w : World) (h : Rd w 1 A m c (L0.map (Value.int .i64))) (_ : ∀ x ∈ L0, (Lit.int .i64 x).wf = true) (_ : m * 8 ≤ 140737488351232) (hf : Rd w 1 B fm fc (vsb fk)) (_ : True) :
    Calls Try.prog 5 #[.slice A m c, .slice B fm fc] w fun e w' => e = .returned (.bool true) ∧ New w w' := law_meters_walk A m c L0 B fm fc fk w h hf
end Go.Proofs.Ytconaojkonjheaa
