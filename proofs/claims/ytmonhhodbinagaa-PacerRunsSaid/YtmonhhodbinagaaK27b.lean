/- Walks: a queue of class 1. -/
import Derived.Test.YtmonhhodbinagaaK26
namespace Go.Proofs.Ytmonhhodbinagaa
open Go.RowKit Go.Shelf
attribute [local go_sem] Oper.semAt_some
set_option maxRecDepth 100000

theorem none_pq1 {w : World} {p : Nat} {s : PS} {T : Nat → Prop} (h : Pq w p s T) : Calls Try.prog 27 #[.pointer (some ⟨p, 0, none⟩)] w fun e w' => e = .returned (.bool false) ∧ w = w' := none_p h
set_option maxHeartbeats 4000000 in
theorem queue_p1 {w : World} {p : Nat} {s : PS} {T : Nat → Prop} (h : Pq w p s T) :
    Calls Try.prog 25 #[.pointer (some ⟨p, 0, none⟩), .int .i64 1] w fun e w' => ∃ A' c', e = .returned (.slice A' (s.u 1).length c') ∧ Own w' w.heap.size 30 2 A' (s.u 1).length c' (kcs (s.u 1)) ∧ New w w' := by
  have hq := h
  obtain ⟨b, r, U, h, hT⟩ := h
  obtain ⟨A, n, c, hring, _⟩ := h.q 1 (by omega)
  obtain ⟨xs, hxs⟩ : ∃ xs, xs = s.u 1 := ⟨_, rfl⟩
  rw [← hxs] at hring ⊢
  obtain ⟨rp, hrp⟩ : ∃ q, q = r 1 := ⟨_, rfl⟩
  rw [← hrp] at hring
  have cq : w.cell? ⟨p, 2, none⟩ = some (.pointer (some ⟨rp, 0, none⟩)) := by rw [hrp]; exact (blk_cell h.blk (2)).trans rfl
  have HXS := hide hxs
  have HRP := hide hrp
  clear hxs hrp
  have hlen := hring.len
  rw [hlen]
  have hplt := h.lt
  refine (callsIn_wide (n := 10)).1 ?_
  refine callsIn_of_wp_marks Try.func25 rfl trivial ?_ rfl
  simp only [Try.ntmps25, List.size_toArray, List.length_cons, List.length_nil, Nat.reduceAdd, Nat.reduceSub, Array.replicate_succ, Array.replicate_zero, List.push_toArray, List.append_toArray, List.nil_append, List.cons_append]
  gi_wp2_with (first | (refine ⟨trivial, ?_⟩; gi_at_call 27; refine (callsIn_wide.2 (none_pq1 hq)).mono ?_; rintro e w1 ⟨rfl, rfl⟩) | (refine ⟨trivial, ?_⟩; gi_at_call 39; refine (callsIn_wide.2 (all_k _ _)).mono ?_; rintro e w1 ⟨rfl, rfl⟩))
  have hr2 := hring.r2
  have hle := hring.le
  have hb1 : ((w.alloc (.cells #[.slice none 0 0] 39)).alloc (.cells #[.pointer (some ⟨rp, 0, none⟩)] 66)).heap[w.heap.size]? = some (.cells #[.slice none 0 0] 39) := blk_alloc (blk_new w _) _
  have hb2 : ((w.alloc (.cells #[.slice none 0 0] 39)).alloc (.cells #[.pointer (some ⟨rp, 0, none⟩)] 66)).heap[w.heap.size + 1]? = some (.cells #[.pointer (some ⟨rp, 0, none⟩)] 66) := by
    have := blk_new (w.alloc (.cells #[.slice none 0 0] 39)) (.cells #[.pointer (some ⟨rp, 0, none⟩)] 66)
    rwa [World.size_alloc] at this
  have hn1 : New w ((w.alloc (.cells #[.slice none 0 0] 39)).alloc (.cells #[.pointer (some ⟨rp, 0, none⟩)] 66)) := by (repeat (first | exact Ext.refl _ _ | assumption | apply Ext.alloc | apply Ext.drewN | apply Ext.drew | refine Ext.setCell ?_ (fun h => by first | rfl | exact absurd h (by dsimp only; omega)) _))
  have hs1 : ((w.alloc (.cells #[.slice none 0 0] 39)).alloc (.cells #[.pointer (some ⟨rp, 0, none⟩)] 66)).heap.size = w.heap.size + 2 := by simp
  generalize (w.alloc (.cells #[.slice none 0 0] 39)).alloc (.cells #[.pointer (some ⟨rp, 0, none⟩)] 66) = w1 at *
  refine wpIn_rangeFunc_ownH rfl (by omega) (gf := 48) (lb := #[.pointer (some ⟨w.heap.size + 1, 0, none⟩)]) rfl trivial (enters_of Try.func48 (by kernel_rfl) rfl)
    (stops_k (w.heap.size + 1) w.heap.size rp A n c xs 512 w1 (by omega) ?hrow ((blk_cell hb2 0).trans rfl) (hring.new hn1)) (fun h k => h.trans k) (KpB.put (by omega)) (Below.refl _ _) (fun _ => rfl)
    (fun (pre : List (Nat × (Int × Int))) W => GatK w.heap.size (w.heap.size + 2) (pre.map Prod.snd) W ∧ Below w.heap.size w1 W) (fun _ _ _ => False)
    (OwnFrom.and (fun s X Y row hs hg hr => hs.grown hg (fun r e => (hr r e).2)) (ownFrom_below (by omega) (by omega))) (fun _ _ _ _ _ hs _ _ => hs)
    ⟨⟨none, 0, hb1, Own.nil _ _ _ _⟩, Below.refl _ _⟩
    (fun x a' W => ∃ kb, a' = { tmps := #[.pointer (some ⟨p, 0, none⟩), .int .i64 1, undef, undef, .slice none 0 0, .pointer (some ⟨w.heap.size, 0, none⟩), undef, .pointer (some ⟨kb, 0, none⟩), .pointer (some ⟨p, 0, none⟩), .bool false, .bool false, .int .i64 1, .bool false, .bool false, .bool false, .int .i64 1, .bool false, .bool false, .pointer (some ⟨p, 0, none⟩), .int .i64 1, .pointer (some ⟨p, 0, none⟩), .pointer (some ⟨p, 1, none⟩), .pointer (some ⟨p, 2, none⟩), .pointer (some ⟨rp, 0, none⟩), .func (.func 48) #[] #[.pointer (some ⟨w.heap.size + 1, 0, none⟩)], .int .i64 (x.1 : Int), kV x.2, undef, undef, undef, undef, undef], defers := [] } ∧ W.heap[kb]? = some (.cells #[.int .i64 x.2.1, .int .i64 x.2.2] 30)) ?hax ?assign ?body ?done ?stop
  case hrow =>
    rintro k ⟨A3, n3, c3, h3, h4⟩
    rw [blk_cell hb1 0] at h3
    cases h3
    exact absurd h4 (inA_none k)
  case hax =>
    rintro x a' _ X Y row ⟨kb, rfl, hkb⟩ hg hr
    refine ⟨kb, rfl, (hg.block kb (blk_lt hkb) (fun e => ?_)).trans hkb⟩
    obtain ⟨_, o, ho, hc⟩ := hr kb e.symm
    rw [hkb] at ho
    cases ho
    cases hc
  case assign =>
    rintro l pre x W K ⟨hgat, hlow⟩ hK
    unfold enK
    have hN := New.alloc1 W (.cells #[.int .i64 x.2.1, .int .i64 x.2.2] 30)
    have hB : w.heap.size < W.heap.size := by have := hlow.size; omega
    have hk := hK _ (W.alloc (.cells #[.int .i64 x.2.1, .int .i64 x.2.2] 30)) ⟨hN.size, fun k o _ ho _ => hN.keep ho⟩ ⟨hN.size, fun k o _ _ ho _ => hN.keep ho, fun k hk _ => rowAt.new hN hB hk⟩
      ⟨hgat.grown hN.grown (fun r e => by cases e), hlow.trans (Ext.below hN (fun _ _ h => h) (by omega))⟩ ⟨W.heap.size, rfl, blk_new _ _⟩
    clear hK
    gi_wp2
    exact hk
  case body =>
    rintro l pre x a' W _ _ ⟨⟨A', c', hb, hown⟩, hlow⟩ ⟨kb, rfl, hkb⟩ hpl
    obtain ⟨ys, hys⟩ : ∃ ys, ys = pre.map Prod.snd := ⟨_, rfl⟩
    have hyl : ys.length < n := by rw [hys, List.length_map]; exact hpl
    rw [← hys] at hb hown
    have HY := hide hys
    clear hys
    have hc0 : W.cell? ⟨w.heap.size, 0, none⟩ = some (.slice A' ys.length c') := (blk_cell hb 0).trans rfl
    have hT : w.heap.size + 2 ≤ W.heap.size := by have := hlow.size; omega
    have k0 := (blk_cell hkb 0).trans rfl
    have k1 := (blk_cell hkb 1).trans rfl
    have hrb : Rd (W.alloc (.cells #[.int .i64 x.2.1, .int .i64 x.2.2] 30)) 2 (some ⟨W.heap.size, 0, none⟩) 1 1 (kcs [x.2]) := rd_lit W 30 2 1 #[.int .i64 x.2.1, .int .i64 x.2.2] (by omega) rfl (by simp [Value.oneCell'])
    gi_wp2_with (gi_at_builtin; refine appIn_k rfl _ _ rfl (w.heap.size + 2) rfl rfl (hown.new (New.alloc1 _ _)) hrb (by omega) (by simp; omega) ?_; intro A2 c2 w2 ho2 he2 hA2; have hb3 := he2.keep (blk_alloc hb _) (fun hk => by have := (hown.at_ hk).1; omega); have j0 : w2.cell? ⟨w.heap.size, 0, none⟩ = some (.slice A' ys.length c') := (blk_cell hb3 0).trans rfl; have j1 := blk_free hb3 0)
    obtain ⟨m1, m2, m3, m4⟩ := GatK.more (T := w.heap.size + 2) (by omega) hT hb hown ho2 he2 hA2
    refine ⟨m1.from _, by rw [hs1]; exact m2, ?_, hlow.trans (m4.below (fun k hk h => by omega) (by omega))⟩
    rw [List.map_append, ← HY.out]
    exact m3
  case done =>
    rintro D ys W hD rfl ⟨⟨A', c', hb, hown⟩, hlow⟩ hK
    have hall : (upto (prK xs) n).map Prod.snd = xs := upto_allK xs n hlen
    rw [hall, hlen] at hb hown
    have hc0 : W.cell? ⟨w.heap.size, 0, none⟩ = some (.slice A' n c') := (blk_cell hb 0).trans rfl
    have HA := hide hall
    clear hall
    gi_wp2
    refine ⟨by simp, .inl ⟨_, _, rfl, run_takeDeferred hK, ?_⟩⟩
    have hp := grownBy_putObj' W D (.deferred none)
    have he : Ext (fun k => k = D) W (W.putObj D (.deferred none)) := ⟨hp.os, hp.tape, hp.output, hp.size, fun k hk hs => hp.block k hk (fun e => hs (Option.some.inj e))⟩
    refine ⟨_, results_tmp rfl _ _ _, A', c', rfl, (hown.keep he (fun k hk e => ?_)).le (by omega), ?_⟩
    · subst e
      obtain ⟨o, ho, hc⟩ := hown.cells hk
      rw [hK] at ho
      cases ho
      cases hc
    · exact New.of_below ((hn1.below.trans hlow).trans (belowK_b (w := w) (Nat.le_refl _) W D _ _ (by omega) hK rfl rfl))
  case stop =>
    rintro D c pre W _ _ h _
    exact h.elim
end Go.Proofs.Ytmonhhodbinagaa
