/- The law on any calls. -/
import Derived.Test.YtafeeafccbdkfaaQ17
import Derived.Test.YtafeeafccbdkfaaR2
import Derived.Deep.DeepCutAuto
namespace Go.Proofs.Ytafeeafccbdkfaa
open Go.RowKit
set_option maxRecDepth 100000

theorem step_any (p : Nat) (A : Option Addr) (n c : Nat) (xs : List Int) (room : Nat) (B : Option Addr) (d : Nat) (k : Int) (OA : Option Addr) (on oc : Nat) (ol : List Int) (t : Int) (w : World)
    (h : Rngi w p A n c xs room) (hB : Rd w 1 B n d (vsi xs)) (hs : ∀ k, inA B k → k < w.heap.size ∧ ¬ Tch p A k) (ho : Rd w 1 OA on oc (vsi ol)) (hos : on = 0 ∨ ∀ k, inA OA k → ¬ Tch p A k) (ht : (Lit.int .i64 t).wf = true) :
    Calls Try.prog 21 #[.pointer (some ⟨p, 0, none⟩), .agg #[.slice B n d, .int .i64 room], .agg #[.int .u8 k, .slice OA on oc, .int .i64 t]] w fun e w' => Stp w p A B room e w' := by
  cases h4 : (k.tmod 10 == 4)
  case true => exact step_pop4 p A n c xs room B d k OA on oc ol t w h hB hs ho hos ht h4
  cases h5 : (k.tmod 10 == 5)
  case true => exact step_pop5 p A n c xs room B d k OA on oc ol t w h hB hs ho hos ht h4 h5
  cases h6 : (k.tmod 10 == 6)
  case true => exact step_peek p A n c xs room B d k OA on oc ol t w h hB hs ho hos ht h4 h5 h6
  cases h7 : (k.tmod 10 == 7)
  case true => exact step_rot p A n c xs room B d k OA on oc ol t w h hB hs ho hos ht h4 h5 h6 h7
  cases h8 : (k.tmod 10 == 8)
  case true => exact step_drop p A n c xs room B d k OA on oc ol t w h hB hs ho hos ht h4 h5 h6 h7 h8
  cases h9 : (k.tmod 10 == 9)
  case true => exact step_clear p A n c xs room B d k OA on oc ol t w h hB hs ho hos ht h4 h5 h6 h7 h8 h9
  case false => exact step_push p A n c xs room B d k OA on oc ol t w h hB hs ho hos ht h4 h5 h6 h7 h8 h9

/-- One call's words. -/
structure Opx where
  d : Int
  a : Option Addr
  n : Nat
  c : Nat
  l : List Int
  t : Int
def Opx.E (o : Opx) : List Value := [.int .u8 o.d, .slice o.a o.n o.c, .int .i64 o.t]
def Opx.wf (w : World) (o : Opx) : Prop := Rd w 1 o.a o.n o.c (vsi o.l) ∧ (Lit.int .i64 o.t).wf = true

theorem ops_at {w : World} {ad : Addr} {n c : Nat} {l : List Opx} (h : Rd w 3 (Option.some ad) n c (l.flatMap Opx.E)) (i : Nat) (o : Opx) (hi : l[i]? = Option.some o) :
    w.cell? (ad.add (i * 3)) = Option.some (.int .u8 o.d) ∧ w.cell? ⟨(ad.add (i * 3)).block, (ad.add (i * 3)).off + 1, none⟩ = Option.some (.slice o.a o.n o.c) ∧ w.cell? ⟨(ad.add (i * 3)).block, (ad.add (i * 3)).off + 2, none⟩ = Option.some (.int .i64 o.t) := by
  have g := fun j u (hj : j < 3) (hu : (Opx.E o)[j]? = some u) => h.cell ad rfl (i * 3 + j) u (by rw [flat_get (E := Opx.E) (sz := 3) (fun _ => rfl) l i j o hi hj]; exact hu)
  have e : ∀ j, 0 < j → ad.add (i * 3 + j) = ⟨(ad.add (i * 3)).block, (ad.add (i * 3)).off + j, none⟩ := fun j hj => by
    rw [← add_add]
    unfold Addr.add
    rw [if_neg (by omega)]
  refine ⟨g 0 _ (by omega) rfl, ?_, ?_⟩
  · rw [← e 1 (by omega)]; exact g 1 _ (by omega) rfl
  · rw [← e 2 (by omega)]; exact g 2 _ (by omega) rfl

/-- A ring p, the document's one in block q. -/
structure Two (w wr : World) (p q : Nat) (A : Option Addr) (n c : Nat) (xs : List Int) (room : Nat) (B : Option Addr) (d : Nat) : Prop where
  rg : Rngi wr p A n c xs room
  rd : Rd wr 1 B n d (vsi xs)
  bq : wr.heap[q]? = some (.cells #[.slice B n d, .int .i64 room] 31)
  sB : ∀ k, inA B k → k < wr.heap.size ∧ ¬ Tch p A k ∧ k ≠ q
  sq : ¬ Tch p A q
  hp : w.heap.size ≤ p
  hq : w.heap.size ≤ q
  nw : New w wr
theorem Two.new {w wr w' : World} {p q : Nat} {A : Option Addr} {n c : Nat} {xs : List Int} {room : Nat} {B : Option Addr} {d : Nat} (h : Two w wr p q A n c xs room B d) (hn : New wr w') : Two w w' p q A n c xs room B d :=
  ⟨h.rg.new hn, h.rd.new hn, hn.keep h.bq, fun k hk => ⟨Nat.lt_of_lt_of_le (h.sB k hk).1 hn.size, (h.sB k hk).2⟩, h.sq, h.hp, h.hq, h.nw.then hn⟩
def CutS (w : World) (p q room : Nat) (v10 v11 : Value) (wc : World) : Prop :=
  ∃ pn A n c xs B d Bo no dO, v10 = .pointer (some ⟨pn, 0, none⟩) ∧ v11 = .bool true ∧ wc.heap[pn]? = some (.cells #[.slice B n d, .int .i64 room] 31) ∧ Rngi wc p A n c xs room ∧ Rd wc 1 B n d (vsi xs) ∧ wc.heap[q]? = some (.cells #[.slice Bo no dO, .int .i64 room] 31) ∧ (∀ k, inA B k → k < wc.heap.size ∧ ¬ Tch p A k ∧ k ≠ q) ∧ ¬ Tch p A q ∧ New w wc
theorem Two.ext {w wr w2 : World} {p q : Nat} {A : Option Addr} {n c : Nat} {xs : List Int} {room : Nat} {B : Option Addr} {d : Nat} (h : Two w wr p q A n c xs room B d) (he : Ext (Tch p A) wr w2) : New w w2 :=
  (h.nw.to.trans (T := fun k => w.heap.size ≤ k) (S := fun k => w.heap.size ≤ k) (he.mono (fun k _ hk => by
    rcases hk with rfl | hk
    · exact h.hp
    · have := (h.rg.own.at_ hk).1; have := h.hp; omega)) (fun _ _ h => h)).mono (fun k hk h => absurd hk (by omega))
theorem CutS.mk {w wr W1 w2 wc : World} {p q : Nat} {A : Option Addr} {n c : Nat} {xs : List Int} {room : Nat} {B : Option Addr} {d : Nat} (h : Two w wr p q A n c xs room B d)
    {A2 B2 : Option Addr} {n2 c2 d2 : Nat} {xs2 : List Int} (hr2 : Rngi w2 p A2 n2 c2 xs2 room) (hB2 : Rd w2 1 B2 n2 d2 (vsi xs2)) (hs2 : ∀ k, inA B2 k → k < w2.heap.size ∧ ¬ Tch p A2 k ∧ (inA B k ∨ W1.heap.size ≤ k)) (he : Ext (Tch p A) wr w2) (hf2 : Frs W1 A A2) (hW : wr.heap.size ≤ W1.heap.size)
    {pn r : Nat} (hbn : wc.heap[pn]? = some (.cells #[.slice B2 n2 d2, .int .i64 room] 31)) (hn : Ext (fun k => k = r) w2 wc) (hr : wr.heap.size ≤ r ∧ (r < W1.heap.size ∨ w2.heap.size ≤ r)) : CutS w p q room (.pointer (some ⟨pn, 0, none⟩)) (.bool true) wc := by
  have hqlt := blk_lt h.bq
  have hplt := h.rg.lt
  have hA2 : ∀ k, inA A2 k → k ≠ r := fun k hk e => by
    have h0 := (hr2.own.at_ hk).2
    rcases hf2 k hk with h1 | h1
    · have := (h.rg.own.at_ h1).2; omega
    · omega
  have hB2r : ∀ k, inA B2 k → k ≠ r := fun k hk e => by
    have h0 := (hs2 k hk).1
    rcases (hs2 k hk).2.2 with h1 | h1
    · have := (h.sB k h1).1; omega
    · omega
  refine ⟨pn, A2, n2, c2, xs2, B2, d2, B, n, d, rfl, rfl, hbn, hr2.keep hn (by omega) hA2, hB2.keep hn hB2r, hn.keep (he.keep h.bq h.sq) (by omega), fun k hk => ⟨Nat.lt_of_lt_of_le (hs2 k hk).1 hn.size, (hs2 k hk).2.1, fun e => ?_⟩, ?_, ?_⟩
  · rcases (hs2 k hk).2.2 with h1 | h1
    · exact (h.sB k h1).2.2 e
    · omega
  · rintro (e | e)
    · exact h.sq (.inl e)
    · rcases hf2 _ e with h1 | h1
      · exact h.sq (.inr h1)
      · omega
  · exact (h.ext he).trans hn (fun k hk e => by have := h.nw.size; omega)
def RelR (w : World) (p q room : Nat) (g : Nat) (s9 : Value) (wr : World) : Prop :=
  ∃ i A n c xs B d, g = 50 - i ∧ i ≤ 50 ∧ s9 = .int .i64 (i : Nat) ∧ Two w wr p q A n c xs room B d

set_option maxHeartbeats 4000000 in
theorem law_runs_walk (r : Int) (A : Option Addr) (n c : Nat) (l : List Opx) (w : World) (h : Rd w 3 A n c (l.flatMap Opx.E)) (hl : ∀ o ∈ l, o.wf w) :
    Calls Try.prog 5 #[.int .i64 r, .slice A n c] w fun e w' => e = .returned (.bool true) ∧ New w w' := by
  by_cases hr : 1 ≤ r ∧ r ≤ 1024
  · obtain ⟨room, rfl⟩ := Int.eq_ofNat_of_zero_le (a := r) (by omega)
    go_enter Try.func5, Try.ntmps5
    go_wp2_with fail
    refine (new_i room _ (by omega) (by omega)).mono ?_
    rintro e w1 ⟨rfl, hr1, hn1⟩
    go_wp2_with fail
    refine (rnew_yes _ hr.1 hr.2 _).mono ?_
    rintro e w2 ⟨rfl, hn2⟩
    go_wp2_with fail
    refine (awake_any _).mono ?_
    rintro e w3 ⟨rfl, hn3⟩
    go_wp2_with fail
    obtain ⟨p, hp⟩ : ∃ p, p = w.heap.size := ⟨_, rfl⟩
    obtain ⟨q, hq⟩ : ∃ q, q = w2.heap.size := ⟨_, rfl⟩
    rw [← hp, ← hq]
    have hsz1 := hn1.size
    have hsz2 := hn2.size
    have hpq : p < q := by have := hr1.lt; omega
    have htwo : Two w w3 p q none 0 0 [] room none 0 := by
      refine ⟨?_, Rd.nil _ _, ?_, (fun k hk => absurd hk (inA_none k)), ?_, by omega, by omega, ?_⟩
      · rw [hp]; exact hr1.new (hn2.then ((New.alloc1 w2 _).then hn3))
      · rw [hq]; exact hn3.keep (blk_new w2 _)
      · rintro (e | e)
        · omega
        · exact inA_none _ e
      · exact (hn1.then hn2).then ((New.alloc1 w2 _).then hn3)
    clear hp hq hn1 hn2 hn3 hr1 hsz1 hsz2
    have hlen := h.len
    rw [flat_len (sz := 3) (fun _ => rfl)] at hlen
    have hlen : l.length = n := by omega
    have HL := hide hlen
    clear hlen
    go_loopg [9] 50 (fun g s9 wr => RelR w p q room g s9 wr)
    case atStart => exact ⟨0, _, _, _, _, _, _, rfl, by omega, rfl, htwo⟩
    case round =>
      clear htwo
      obtain ⟨i, A1, n1, c1, xs, B1, d1, hgk, hi, rfl, hT⟩ := hrel
      have HG := hide hgk
      clear hgk
      by_cases hgo : i < n ∧ i < 50
      · obtain ⟨hi2, hi50⟩ := hgo
        have hz : decide ((i : Int) < n) = true := decide_eq_true (by omega)
        have hz2 : decide (i < n) = true := decide_eq_true (by omega)
        have hz6 : decide ((i : Int) < 50) = true := decide_eq_true (by omega)
        obtain ⟨ad, rfl⟩ := h.some (by omega)
        obtain ⟨o, ho⟩ : ∃ o, l[i]? = some o := ⟨_, List.getElem?_eq_getElem (by have := HL.out; omega)⟩
        have hwf := hl o (List.mem_of_getElem? ho)
        obtain ⟨g0, g1, g2⟩ := ops_at h i o ho
        have hadw := h.lt (by omega) (by omega) ((inA_some _ _).2 rfl)
        clear ho
        go_upto_region 8 with (fail)
        go_cut [10, 11] (fun v10 v11 wc => CutS w p q room v10 v11 wc)
        case first =>
          have hor : ∀ {W : World}, New wr W → Rd W 1 o.a o.n o.c (vsi o.l) := fun hW => (hwf.1.new hT.nw).new hW
          have hos : o.n = 0 ∨ ∀ k, inA o.a k → ¬ Tch p A1 k := (Nat.eq_zero_or_pos o.n).imp id fun hpos k hk ht => by
            have h1 := hwf.1.lt hpos (by omega) hk
            rcases ht with e | e
            · have := hT.hp; omega
            · have := (hT.rg.own.at_ e).1; have := hT.hp; omega
          have hTlt : ∀ k, Tch p A1 k → w.heap.size ≤ k ∧ k < wr.heap.size := fun k ht => by
            rcases ht with e | e
            · have := hT.hp; have := hT.rg.lt; omega
            · have := (hT.rg.own.at_ e); have := hT.hp; omega
          have r0 : ∀ x : Lat (Tch p A1) wr, x.W.cell? ⟨q, 0, none⟩ = some (.slice B1 n1 d1) := fun x => (blk_cell (Ext.keep x.ext hT.bq hT.sq) 0).trans rfl
          have r1 : ∀ x : Lat (Tch p A1) wr, x.W.cell? ⟨q, 1, none⟩ = some (.int .i64 room) := fun x => (blk_cell (Ext.keep x.ext hT.bq hT.sq) 1).trans rfl
          have hK : ∀ {W : World} {a : Addr} {v : Value}, Ext (Tch p A1) wr W → a.block = ad.block → w.cell? a = some v → W.cell? a = some v := fun he hb hc => by
            rw [World.cell?_of_block (w := wr)]
            · rw [World.cell?_of_block (w := w)]
              · exact hc
              · exact hT.nw.block _ (by rw [hb]; exact hadw) (fun h => h)
            · exact he.block _ (by rw [hb]; have := hT.nw.size; omega) (fun ht => by rw [hb] at ht; have := (hTlt _ ht).1; omega)
          have r2 : ∀ x : Lat (Tch p A1) wr, x.W.cell? (ad.add (i * 3)) = some (.int .u8 o.d) := fun x => hK x.ext (add_block _ _) g0
          have r3 : ∀ x : Lat (Tch p A1) wr, x.W.cell? ⟨(ad.add (i * 3)).block, (ad.add (i * 3)).off + 1, none⟩ = some (.slice o.a o.n o.c) := fun x => hK x.ext (add_block _ _) g1
          have r4 : ∀ x : Lat (Tch p A1) wr, x.W.cell? ⟨(ad.add (i * 3)).block, (ad.add (i * 3)).off + 2, none⟩ = some (.int .i64 o.t) := fun x => hK x.ext (add_block _ _) g2
          clear g0 g1 g2
          refine mix_start (Tch p A1) wr (by kernel_rfl) ?_
          refine mix_batch [0, 1, 2, 3, 4, 5] (by kernel_rfl) 7 _ _ _ (by kernel_rfl) (lat_mem (by (repeat (first | exact Ext.refl _ _ | assumption | apply Ext.alloc | apply Ext.drewN | apply Ext.drew | refine Ext.setCell ?_ (fun h => by first | rfl | exact absurd h (by dsimp only; omega)) _)))) ?_
          simp only [pickOps, List.getD_cons_zero, List.getD_cons_succ]
          repeat (go_big_quiet_step (fail))
          refine wpQuiet_nil ?_
          refine mix_two (i := 6) (j := 10) (by kernel_rfl) rfl rfl (fun K hK => ?_) (fun K hK => ?_)
          · go_simp
            have hn1 : New wr wr.drew := by (repeat (first | exact Ext.refl _ _ | assumption | apply Ext.alloc | apply Ext.drewN | apply Ext.drew | refine Ext.setCell ?_ (fun h => by first | rfl | exact absurd h (by dsimp only; omega)) _))
            refine (step_any p A1 n1 c1 xs room B1 d1 o.d o.a o.n o.c o.l o.t _ (hT.rg.new hn1) (hT.rd.new hn1) (fun k hk => ⟨(hT.sB k hk).1, (hT.sB k hk).2.1⟩) (hor hn1) hos hwf.2).mono ?_
            rintro e w2 ⟨A2, n2, c2, xs2, B2, d2, rfl, hr2, hB2, hs2, he2, hf2⟩
            have he2' : Ext (Tch p A1) wr w2 := (hn1.to).trans he2 (fun _ _ h => h)
            refine hK.out _ _ (lat_mem he2') (mix_next he2' (fun _ _ (h : False) => h.elim) ?_)
            clear hK
            clear r0 r1 r2 r3 r4
            refine mix_batch [7, 8, 9] (by kernel_rfl) 3 _ _ _ (by kernel_rfl) (lat_mem (by (repeat (first | exact Ext.refl _ _ | assumption | apply Ext.alloc | apply Ext.drewN | apply Ext.drew | refine Ext.setCell ?_ (fun h => by first | rfl | exact absurd h (by dsimp only; omega)) _)))) ?_
            simp only [pickOps, List.getD_cons_zero, List.getD_cons_succ]
            repeat (go_big_quiet_step (fail))
            refine wpQuiet_nil ?_
            refine mix_loud (i := 10) (by kernel_rfl) rfl (fun K hK => ?_)
            go_simp
            refine hK.out _ _ (lat_mem (by (repeat (first | exact Ext.refl _ _ | assumption | apply Ext.alloc | apply Ext.drewN | apply Ext.drew | refine Ext.setCell ?_ (fun h => by first | rfl | exact absurd h (by dsimp only; omega)) _)))) ?_
            clear hK
            refine mix_loud (i := 11) (by kernel_rfl) rfl (fun K hK => ?_)
            go_simp
            refine hK.out _ _ (lat_mem (by (repeat (first | exact Ext.refl _ _ | assumption | apply Ext.alloc | apply Ext.drewN | apply Ext.drew | refine Ext.setCell ?_ (fun h => by first | rfl | exact absurd h (by dsimp only; omega)) _)))) ?_
            clear hK
            refine mix_batch [12] (by kernel_rfl) 0 _ _ _ (by kernel_rfl) (lat_mem (by (repeat (first | exact Ext.refl _ _ | assumption | apply Ext.alloc | apply Ext.drewN | apply Ext.drew | refine Ext.setCell ?_ (fun h => by first | rfl | exact absurd h (by dsimp only; omega)) _)))) ?_
            simp only [pickOps, List.getD_cons_zero, List.getD_cons_succ]
            repeat (go_big_quiet_step (fail))
            refine wpQuiet_nil ?_
            refine wpAnyH_done (by kernel_rfl) (NoPanic.normal ?_) _
            go_wp2_with fail
            go_meet
            exact CutS.mk hT hr2 hB2 hs2 he2' hf2 (Nat.le_refl _) (blk_new w2 _) (New.to (New.alloc1 w2 _) : Ext (fun k => k = w2.heap.size) _ _) ⟨he2'.size, .inr (Nat.le_refl _)⟩
          · go_simp
            refine hK.out _ _ (lat_mem (by (repeat (first | exact Ext.refl _ _ | assumption | apply Ext.alloc | apply Ext.drewN | apply Ext.drew | refine Ext.setCell ?_ (fun h => by first | rfl | exact absurd h (by dsimp only; omega)) _)))) ?_
            clear hK
            refine mix_loud (i := 6) (by kernel_rfl) rfl (fun K hK => ?_)
            go_simp
            have hn1 : New wr (wr.alloc (.cells #[.slice none 0 0, .int .i64 0] 31)).drew := by (repeat (first | exact Ext.refl _ _ | assumption | apply Ext.alloc | apply Ext.drewN | apply Ext.drew | refine Ext.setCell ?_ (fun h => by first | rfl | exact absurd h (by dsimp only; omega)) _))
            have hqlt := blk_lt hT.bq
            refine (step_any p A1 n1 c1 xs room B1 d1 o.d o.a o.n o.c o.l o.t _ (hT.rg.new hn1) (hT.rd.new hn1) (fun k hk => ⟨Nat.lt_of_lt_of_le (hT.sB k hk).1 hn1.size, (hT.sB k hk).2.1⟩) (hor hn1) hos hwf.2).mono ?_
            rintro e w2 ⟨A2, n2, c2, xs2, B2, d2, rfl, hr2, hB2, hs2, he2, hf2⟩
            have he2' : Ext (Tch p A1) wr w2 := (hn1.to).trans he2 (fun _ _ h => h)
            have hbn := he2.keep (show (wr.alloc (.cells #[.slice none 0 0, .int .i64 0] 31)).drew.heap[wr.heap.size]? = _ from blk_new wr _) (fun ht => by have := (hTlt _ ht).2; omega)
            refine hK.out _ _ (lat_mem he2') (mix_next he2' (F' := fun k => k = wr.heap.size) (fun _ hk e => by subst e; exact absurd hk (by omega)) ?_)
            clear hK
            clear r0 r1 r2 r3 r4
            refine mix_batch [7, 8, 9] (by kernel_rfl) 2 _ _ _ (by kernel_rfl) (lat_mem (by (repeat (first | exact Ext.refl _ _ | assumption | apply Ext.alloc | apply Ext.drewN | apply Ext.drew | refine Ext.setCell ?_ (fun h => by first | rfl | exact absurd h (by dsimp only; omega)) _)))) ?_
            simp only [pickOps, List.getD_cons_zero, List.getD_cons_succ]
            repeat (go_big_quiet_step (fail))
            refine wpQuiet_nil ?_
            have c0 : w2.cell? ⟨wr.heap.size, 0, none⟩ = some (.slice none 0 0) := blk_cell hbn 0
            have c1' : w2.cell? ⟨wr.heap.size, 1, none⟩ = some (.int .i64 0) := blk_cell hbn 1
            have f0 := blk_free hbn 0
            have f1 := blk_free hbn 1
            refine mix_loud (i := 11) (by kernel_rfl) rfl (fun K hK => ?_)
            go_simp
            refine hK.out _ _ (lat_mem (by (repeat (first | exact Ext.refl _ _ | assumption | apply Ext.alloc | apply Ext.drewN | apply Ext.drew | refine Ext.setCell ?_ (fun h => by first | rfl | exact absurd h (by dsimp only; omega)) _)))) ?_
            clear hK
            clear c0 c1' f0 f1
            refine mix_batch [12] (by kernel_rfl) 0 _ _ _ (by kernel_rfl) (lat_mem (by (repeat (first | exact Ext.refl _ _ | assumption | apply Ext.alloc | apply Ext.drewN | apply Ext.drew | refine Ext.setCell ?_ (fun h => by first | rfl | exact absurd h (by dsimp only; omega)) _)))) ?_
            simp only [pickOps, List.getD_cons_zero, List.getD_cons_succ]
            repeat (go_big_quiet_step (fail))
            refine wpQuiet_nil ?_
            refine wpAnyH_done (by kernel_rfl) (NoPanic.normal ?_) _
            go_wp2_with fail
            go_meet
            exact CutS.mk hT hr2 hB2 hs2 he2' hf2 (by simp) (blk_set (blk_set hbn 0 (.slice B2 n2 d2)) 1 (.int .i64 room)) (((Ext.refl (fun k => k = wr.heap.size) w2).set (by rfl)).set (by rfl)) ⟨Nat.le_refl _, .inl (by simp)⟩
        case rest =>
          clear g0 g1 g2
          obtain ⟨pn, A2, n2, c2, xs2, B2, d2, Bo, no, dO, rfl, rfl, hbn, hr2, hB2, hbq, hsB, hsq, hnc⟩ := hcut
          have x0 : wc.cell? ⟨pn, 0, none⟩ = some (.slice B2 n2 d2) := blk_cell hbn 0
          have x1 : wc.cell? ⟨pn, 1, none⟩ = some (.int .i64 room) := blk_cell hbn 1
          have y0 : wc.cell? ⟨q, 0, none⟩ = some (.slice Bo no dO) := blk_cell hbq 0
          have y1 : wc.cell? ⟨q, 1, none⟩ = some (.int .i64 room) := blk_cell hbq 1
          have f0 := blk_free hbq 0
          have f1 := blk_free hbq 1
          go_wp2_with fail
          have hqs : w.heap.size ≤ q := hT.hq
          have hps : w.heap.size ≤ p := hT.hp
          have hset : Ext (fun k => k = q) wc ((wc.setCell ⟨q, 0, none⟩ (.slice B2 n2 d2)).setCell ⟨q, 1, none⟩ (.int .i64 room)) := ((Ext.refl _ wc).set (by rfl)).set (by rfl)
          have hT3 : Two w ((wc.setCell ⟨q, 0, none⟩ (.slice B2 n2 d2)).setCell ⟨q, 1, none⟩ (.int .i64 room)) p q A2 n2 c2 xs2 room B2 d2 :=
            ⟨hr2.keep hset (fun e => hsq (.inl e.symm)) (fun k hk e => hsq (.inr (by subst e; exact hk))), hB2.keep hset (fun k hk => (hsB k hk).2.2), blk_set (blk_set hbq 0 (.slice B2 n2 d2)) 1 (.int .i64 room), (fun k hk => ⟨Nat.lt_of_lt_of_le (hsB k hk).1 hset.size, (hsB k hk).2⟩), hsq, hps, hqs, hnc.trans hset (fun k hk e => by omega)⟩
          clear x0 x1 y0 y1 f0 f1 hbn hr2 hB2 hbq hsB hsq hnc hset hT
          generalize (wc.setCell ⟨q, 0, none⟩ (.slice B2 n2 d2)).setCell ⟨q, 1, none⟩ (.int .i64 room) = w3 at *
          have r0 : ∀ x : Lat (fun _ => False) w3, x.W.cell? ⟨q, 0, none⟩ = some (.slice B2 n2 d2) := fun x => (blk_cell (Ext.keep x.ext hT3.bq (fun h => h)) 0).trans rfl
          have r1 : ∀ x : Lat (fun _ => False) w3, x.W.cell? ⟨q, 1, none⟩ = some (.int .i64 room) := fun x => (blk_cell (Ext.keep x.ext hT3.bq (fun h => h)) 1).trans rfl
          have hr2 := hT3.rg.r2
          have hle := hT3.rg.le
          refine mix_start (fun _ => False) w3 (by kernel_rfl) ?_
          refine mix_batch [0, 1, 2, 3, 5, 6] (by kernel_rfl) 23 _ _ _ (by kernel_rfl) (lat_mem (by (repeat (first | exact Ext.refl _ _ | assumption | apply Ext.alloc | apply Ext.drewN | apply Ext.drew | refine Ext.setCell ?_ (fun h => by first | rfl | exact absurd h (by dsimp only; omega)) _)))) ?_
          simp only [pickOps, List.getD_cons_zero, List.getD_cons_succ]
          repeat (go_big_quiet_step (fail))
          refine wpQuiet_nil ?_
          refine mix_loud (i := 4) (by kernel_rfl) rfl (fun K hK => ?_)
          go_simp
          have h3d : New w3 w3.drew := by (repeat (first | exact Ext.refl _ _ | assumption | apply Ext.alloc | apply Ext.drewN | apply Ext.drew | refine Ext.setCell ?_ (fun h => by first | rfl | exact absurd h (by dsimp only; omega)) _))
          refine (list_i p A2 n2 c2 xs2 room _ (hT3.rg.new h3d)).mono ?_
          rintro e w4 ⟨A4, c4, rfl, ho4, hn4⟩
          have hn34 : New w3 w4 := h3d.then hn4
          refine hK.out _ _ (lat_mem (by (repeat (first | exact Ext.refl _ _ | assumption | apply Ext.alloc | apply Ext.drewN | apply Ext.drew | refine Ext.setCell ?_ (fun h => by first | rfl | exact absurd h (by dsimp only; omega)) _)))) ?_
          clear hK
          refine mix_loud (i := 7) (by kernel_rfl) rfl (fun K hK => ?_)
          go_simp
          refine (same_any A4 B2 n2 c4 n2 d2 xs2 xs2 _ ho4.rd (hT3.rd.new hn34)).mono ?_
          rintro e w5 ⟨rfl, nd, hw5⟩
          have hn35 : New w3 w5 := by rw [hw5]; (repeat (first | exact Ext.refl _ _ | assumption | apply Ext.alloc | apply Ext.drewN | apply Ext.drew | refine Ext.setCell ?_ (fun h => by first | rfl | exact absurd h (by dsimp only; omega)) _))
          clear hw5
          rw [decide_eq_true (rfl : xs2 = xs2)]
          refine hK.out _ _ (lat_mem (by (repeat (first | exact Ext.refl _ _ | assumption | apply Ext.alloc | apply Ext.drewN | apply Ext.drew | refine Ext.setCell ?_ (fun h => by first | rfl | exact absurd h (by dsimp only; omega)) _)))) ?_
          clear hK
          refine mix_batch [8, 9, 10, 11, 13, 14, 15] (by kernel_rfl) 14 _ _ _ (by kernel_rfl) (lat_mem (by (repeat (first | exact Ext.refl _ _ | assumption | apply Ext.alloc | apply Ext.drewN | apply Ext.drew | refine Ext.setCell ?_ (fun h => by first | rfl | exact absurd h (by dsimp only; omega)) _)))) ?_
          simp only [pickOps, List.getD_cons_zero, List.getD_cons_succ]
          repeat (go_big_quiet_step (fail))
          refine wpQuiet_nil ?_
          refine mix_loud (i := 12) (by kernel_rfl) rfl (fun K hK => ?_)
          go_simp
          refine (len_i p A2 n2 c2 xs2 room _ (hT3.rg.new hn35)).mono ?_
          rintro e w6 ⟨rfl, hw6⟩
          subst hw6
          refine hK.out _ _ (lat_mem (by (repeat (first | exact Ext.refl _ _ | assumption | apply Ext.alloc | apply Ext.drewN | apply Ext.drew | refine Ext.setCell ?_ (fun h => by first | rfl | exact absurd h (by dsimp only; omega)) _)))) ?_
          clear hK
          refine mix_batch [16, 17, 18, 19, 21, 22, 23, 24, 25, 26] (by kernel_rfl) 3 _ _ _ (by kernel_rfl) (lat_mem (by (repeat (first | exact Ext.refl _ _ | assumption | apply Ext.alloc | apply Ext.drewN | apply Ext.drew | refine Ext.setCell ?_ (fun h => by first | rfl | exact absurd h (by dsimp only; omega)) _)))) ?_
          simp only [pickOps, List.getD_cons_zero, List.getD_cons_succ]
          repeat (go_big_quiet_step (fail))
          refine wpQuiet_nil ?_
          refine mix_loud (i := 20) (by kernel_rfl) rfl (fun K hK => ?_)
          go_simp
          refine (room_any p A2 n2 c2 xs2 room _ (hT3.rg.new hn35)).mono ?_
          rintro e w7 ⟨rfl, nd7, hw7⟩
          have hn38 : New w3 w7 := by rw [hw7]; (repeat (first | exact Ext.refl _ _ | assumption | apply Ext.alloc | apply Ext.drewN | apply Ext.drew | refine Ext.setCell ?_ (fun h => by first | rfl | exact absurd h (by dsimp only; omega)) _))
          clear hw7
          refine hK.out _ _ (lat_mem (by (repeat (first | exact Ext.refl _ _ | assumption | apply Ext.alloc | apply Ext.drewN | apply Ext.drew | refine Ext.setCell ?_ (fun h => by first | rfl | exact absurd h (by dsimp only; omega)) _)))) ?_
          clear hK
          refine mix_batch [27, 28] (by kernel_rfl) 0 _ _ _ (by kernel_rfl) (lat_mem (by (repeat (first | exact Ext.refl _ _ | assumption | apply Ext.alloc | apply Ext.drewN | apply Ext.drew | refine Ext.setCell ?_ (fun h => by first | rfl | exact absurd h (by dsimp only; omega)) _)))) ?_
          simp only [pickOps, List.getD_cons_zero, List.getD_cons_succ]
          repeat (go_big_quiet_step (fail))
          refine wpQuiet_nil ?_
          refine wpAnyH_done (by kernel_rfl) (NoPanic.normal ?_) _
          clear r0 r1
          go_wp2_with fail
          go_roundg (50 - (i + 1))
          case measure => have := HG.out; omega
          case rel => exact ⟨i + 1, A2, n2, c2, xs2, B2, d2, rfl, by omega, by go_num, hT3.new hn38⟩
      · have hend : (decide ((i : Int) < n) = false ∧ decide (i < n) = false ∧ decide ((i : Int) < 50) = false) ∨ (decide ((i : Int) < n) = false ∧ decide (i < n) = false ∧ decide ((i : Int) < 50) = true) ∨ (decide ((i : Int) < n) = true ∧ decide (i < n) = true ∧ decide ((i : Int) < 50) = false) := by
          by_cases hi2 : i < n
          · exact .inr (.inr ⟨decide_eq_true (by omega), decide_eq_true (by omega), decide_eq_false (by omega)⟩)
          · by_cases h4 : i < 50
            · exact .inr (.inl ⟨decide_eq_false (by omega), decide_eq_false (by omega), decide_eq_true (by omega)⟩)
            · exact .inl ⟨decide_eq_false (by omega), decide_eq_false (by omega), decide_eq_false (by omega)⟩
        rcases hend with ⟨hz, hz2, hz6⟩ | ⟨hz, hz2, hz6⟩ | ⟨hz, hz2, hz6⟩ <;> (
          go_wp2_with fail
          go_ret
          exact ⟨rfl, hT.nw⟩)
  · go_enter Try.func5, Try.ntmps5
    go_wp2_with fail
    refine (new_no_i r _ (by omega)).mono ?_
    rintro e w1 ⟨rfl, rfl⟩
    go_wp2_with fail
    refine (rnew_no _ (by omega) _).mono ?_
    rintro e w2 ⟨rfl, hn2⟩
    go_wp2_with fail
    refine (awake_any _).mono ?_
    rintro e w3 ⟨rfl, hn3⟩
    go_wp2_with fail
    have hnn : New w w3 := hn2.then ((New.alloc1 w2 _).then hn3)
    have hcap := h.cap
    have htop := h.top
    have hend : (decide ((0 : Int) < n) = false ∧ decide (0 < n) = false) ∨ (decide ((0 : Int) < n) = true ∧ decide (0 < n) = true) := by
      by_cases hi2 : 0 < n
      · exact .inr ⟨decide_eq_true (by omega), decide_eq_true (by omega)⟩
      · exact .inl ⟨decide_eq_false (by omega), decide_eq_false (by omega)⟩
    go_loop [9] (fun s => s = .int .i64 0) (fun _ => 0)
    case atStart => rfl
    case round =>
      subst hrel
      rcases hend with ⟨hz, hz2⟩ | ⟨hz, hz2⟩ <;> (
        go_wp2_with fail
        go_ret
        exact ⟨rfl, hnn⟩)

open Go.ChangeShapes Go.WideShapes in
theorem open_opx {H : Type} {enc : TypeId × Value → H} {W : World} : ∀ (n : Nat) (cs : List Value) (y : DataW H × List MemPlace), DataW.trod enc Try.prog W 0 (fun _ => true) true n 56 cs = some y → Light Try.prog 56 y.1 →
    ∃ a : Opx, cs = a.E ∧ a.wf W := by
  intro n cs y h _
  obtain ⟨y0, y1, y2, m, rfl, hl, h0, h1, h2⟩ := trod_struct3 Try.underlying56 h
  obtain ⟨a0, e0, _, _⟩ := DataW.trod_int Try.underlying5 h0
  obtain ⟨a2, e2, _, wf2⟩ := DataW.trod_int Try.underlying3 h2
  rw [show Try.prog.cellsOf 56 = 3 by kernel_rfl] at hl
  match cs, hl with
  | [c0, c1, c2], _ =>
    simp [show Try.prog.cellsOf 5 = 1 by kernel_rfl, show Try.prog.cellsOf 3 = 1 by kernel_rfl, show Try.prog.cellsOf 22 = 1 by kernel_rfl] at e0 e2 h1
    subst e0 e2
    rcases open_ints Try.underlying22 Try.underlying3 (by kernel_rfl) h1 with ⟨hc, _⟩ | ⟨x, l, c, zs, hc, _, hl, hm, hz, hx, hcell, hwf⟩
    · simp at hc
      subst hc
      exact ⟨⟨a0, none, 0, 0, [], a2⟩, rfl, Rd.nil W 1, wf2⟩
    · simp at hc
      subst hc
      have hz' : zs.length = c := by simpa using hz
      refine ⟨⟨a0, some x, l, c, zs.take l, a2⟩, rfl, ⟨by simp [vsi]; omega, hl, by simp only [maxLen] at hm; omega, (fun h => by cases h), ?_, ?_⟩, wf2⟩
      · intro u hu
        obtain ⟨_, _, rfl⟩ := List.mem_map.1 (show u ∈ (zs.take l).map (Value.int .i64) from hu)
        rfl
      · intro ad e j u hu
        cases e
        rw [vsi, List.getElem?_map] at hu
        obtain ⟨y, hy, rfl⟩ := Option.map_eq_some_iff.1 hu
        rw [List.getElem?_take] at hy
        split at hy
        · rename_i hj
          rw [hcell j (by omega), List.getD_eq_getElem?_getD, hy]
          rfl
        · cases hy

open Go.ChangeShapes Go.WideShapes in
theorem open_rows56 {H : Type} {enc : TypeId × Value → H} {W : World} {a : Option Addr} {n c : Nat} {d : DataW H} {ps : List MemPlace} {ts : List TypeId} {ds : List (DataW H)} {j t : Nat}
    (hsz : (DataW.weightsEach Try.prog ts ds).all (· ≤ reachBytes) = true) (ht : ts[j]? = some t) (hd : ds[j]? = some d) (e : t = 50) (h : DataW.Trod enc Try.prog W 0 (fun _ => true) true 50 (.slice a n c) d ps) :
    ∃ l : List Opx, Rd W 3 a n c (l.flatMap Opx.E) ∧ ∀ o ∈ l, o.wf W := by
  subst e
  obtain ⟨l, _, hr, hw, _⟩ := open_rows (E := Opx.E) (wf := fun o => o.wf W) (sz := 3) (B := 40) Try.underlying50 (by kernel_rfl) (by kernel_rfl) (fun _ => rfl) (fun a _ u hu => by simp [Opx.E] at hu; rcases hu with rfl | rfl | rfl <;> rfl) open_opx (Light.at_ hsz ht hd) h
  exact ⟨l, hr, hw⟩
theorem law_runs (r : Int) (A : Option Addr) (n c : Nat) (l : List Opx) (w : World) (_ : (Lit.int .i64 r).wf = true) (h : Rd w 3 A n c (l.flatMap Opx.E)) (hl : ∀ o ∈ l, o.wf w) :
    Calls Try.prog 5 #[.int .i64 r, .slice A n c] w fun e w' => e = .returned (.bool true) ∧ New w w' :=
  law_runs_walk r A n c l w h hl
end Go.Proofs.Ytafeeafccbdkfaa
