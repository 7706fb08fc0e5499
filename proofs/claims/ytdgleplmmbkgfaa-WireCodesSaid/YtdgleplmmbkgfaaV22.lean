/- The law on turned bytes. -/
import Derived.Test.YtdgleplmmbkgfaaV20
import Derived.Test.YtdgleplmmbkgfaaV21
namespace Go.Proofs.Ytdgleplmmbkgfaa
open Go.RowKit
set_option maxRecDepth 100000

/-- Behind 'p = few(p)': the box X holds the packet that is looked at. -/
theorem few_set {w wr : World} {X : Nat} {P : Pk} (Q : Pk) {A : Option Addr} {n c k : Nat} (h : wr.heap[X]? = some (.cells #[.int .i64 P.kd, .int .i64 P.fl, .int .i64 P.pa, .int .i64 P.sr, .int .i64 P.ds, .int .i64 P.cn, .int .i64 P.sq, .int .i64 P.pl, .slice A n c] 25)) (hn : New w wr) (hX : w.heap.size ≤ X) :
    ∃ w', w' = ((((((((wr.setCell ⟨X, 0, none⟩ (.int .i64 Q.kd)).setCell ⟨X, 1, none⟩ (.int .i64 Q.fl)).setCell ⟨X, 2, none⟩ (.int .i64 Q.pa)).setCell ⟨X, 3, none⟩ (.int .i64 Q.sr)).setCell ⟨X, 4, none⟩ (.int .i64 Q.ds)).setCell ⟨X, 5, none⟩ (.int .i64 Q.cn)).setCell ⟨X, 6, none⟩ (.int .i64 Q.sq)).setCell ⟨X, 7, none⟩ (.int .i64 Q.pl)).setCell ⟨X, 8, none⟩ (.slice A k c) ∧
      w'.heap[X]? = some (.cells #[.int .i64 Q.kd, .int .i64 Q.fl, .int .i64 Q.pa, .int .i64 Q.sr, .int .i64 Q.ds, .int .i64 Q.cn, .int .i64 Q.sq, .int .i64 Q.pl, .slice A k c] 25) ∧ New w w' := by
  obtain ⟨w', h1, h2, h3⟩ := set9 h rfl (.int .i64 Q.kd) (.int .i64 Q.fl) (.int .i64 Q.pa) (.int .i64 Q.sr) (.int .i64 Q.ds) (.int .i64 Q.cn) (.int .i64 Q.sq) (.int .i64 Q.pl) (.slice A k c)
  exact ⟨w', h1, h2, hn.trans h3 (fun j hj e => by omega)⟩
/-- A packet that came in: its payload reads. -/
structure PkIn (w : World) (P : Pk) (A : Option Addr) (n c : Nat) : Prop where
  rd : Rd w 1 A n c (bts P.b)
  b : isB P.b
theorem PkIn.few {w : World} {P : Pk} {A : Option Addr} {n c : Nat} (h : PkIn w P A n c) : PkIn w (fwP P) A (min n 1100) c := by
  have hl : P.b.length = n := by have := h.rd.lenn; simpa using this
  refine ⟨?_, fun x hx => h.b x (List.mem_of_mem_take hx)⟩
  have ht := h.rd.take (min n 1100) (by omega)
  rw [Nat.mul_one, bts_take] at ht
  show Rd w 1 A (min n 1100) c (bts (P.b.take 1100))
  rw [show P.b.take 1100 = P.b.take (min n 1100) by
    by_cases h : n ≤ 1100
    · rw [Nat.min_eq_left h, List.take_of_length_le (by omega), List.take_of_length_le (by omega)]
    · rw [Nat.min_eq_right (by omega)]]
  exact ht
theorem PkIn.len {w : World} {P : Pk} {A : Option Addr} {n c : Nat} (h : PkIn w P A n c) : P.b.length = n := by have := h.rd.lenn; simpa using this
set_option maxHeartbeats 4000000 in
theorem turned_walk (P : Pk) (A : Option Addr) (n c : Nat) (a by_ : Int) (w : World) (hp : PkIn w P A n c) (ha : 0 ≤ a ∧ a ≤ 65535) (hb : 0 ≤ by_ ∧ by_ ≤ 255) :
    Calls Try.prog 3 #[pkV P A n c, .int .u16 a, .int .u8 by_] w fun e w' => e = .returned (.bool true) ∧ New w w' := by
  have hf := hp.few
  have hcap := hp.rd.cap
  have htop := hp.rd.top
  obtain ⟨k, hk⟩ : ∃ k, k = min n 1100 := ⟨_, rfl⟩
  rw [← hk] at hf
  have hk2 : k ≤ 1100 := by omega
  have HK := hide hk
  clear hk
  have hn1 := New.alloc1 w (.cells #[.int .i64 P.kd, .int .i64 P.fl, .int .i64 P.pa, .int .i64 P.sr, .int .i64 P.ds, .int .i64 P.cn, .int .i64 P.sq, .int .i64 P.pl, .slice A n c] 25)
  have hx1 := blk_new w (.cells #[.int .i64 P.kd, .int .i64 P.fl, .int .i64 P.pa, .int .i64 P.sr, .int .i64 P.ds, .int .i64 P.cn, .int .i64 P.sq, .int .i64 P.pl, .slice A n c] 25)
  go_enter Try.func3, Try.ntmps3
  go_wp2_with fail
  obtain ⟨X, hX⟩ : ∃ X, X = w.heap.size := ⟨_, rfl⟩
  rw [← hX] at hx1
  rw [← hX]
  have hXw : w.heap.size ≤ X := by omega
  clear hX
  refine (few_any P A n c k _ HK.out hcap htop).mono ?_
  rintro e w2 ⟨rfl, hn2⟩
  have hx2 := hn2.keep hx1
  have N2 := hn1.then hn2
  have c0 := (blk_cell hx2 0).trans rfl
  have d0 := blk_free hx2 0
  have c1 := (blk_cell hx2 1).trans rfl
  have d1 := blk_free hx2 1
  have c2 := (blk_cell hx2 2).trans rfl
  have d2 := blk_free hx2 2
  have c3 := (blk_cell hx2 3).trans rfl
  have d3 := blk_free hx2 3
  have c4 := (blk_cell hx2 4).trans rfl
  have d4 := blk_free hx2 4
  have c5 := (blk_cell hx2 5).trans rfl
  have d5 := blk_free hx2 5
  have c6 := (blk_cell hx2 6).trans rfl
  have d6 := blk_free hx2 6
  have c7 := (blk_cell hx2 7).trans rfl
  have d7 := blk_free hx2 7
  have c8 := (blk_cell hx2 8).trans rfl
  have d8 := blk_free hx2 8
  go_upto_region 2 with (fail)
  obtain ⟨w3, hw3, hx3, N3⟩ := few_set (k := k) (fwP P) hx2 N2 hXw
  rw [← hw3]
  clear hw3 c0 c1 c2 c3 c4 c5 c6 c7 c8 d0 d1 d2 d3 d4 d5 d6 d7 d8 hx2
  have c0 := (blk_cell hx3 0).trans rfl
  have c1 := (blk_cell hx3 1).trans rfl
  have c2 := (blk_cell hx3 2).trans rfl
  have c3 := (blk_cell hx3 3).trans rfl
  have c4 := (blk_cell hx3 4).trans rfl
  have c5 := (blk_cell hx3 5).trans rfl
  have c6 := (blk_cell hx3 6).trans rfl
  have c7 := (blk_cell hx3 7).trans rfl
  have c8 := (blk_cell hx3 8).trans rfl
  have hf3 := hf.rd.new N3
  go_wp2_with fail
  cases hok : okB (fwP P)
  · have HOK := hide hok
    clear hok
    refine (enc_no (fwP P) A k c _ hf.len HOK.out).mono ?_
    rintro e w4 ⟨rfl, hn4⟩
    clear c0 c1 c2 c3 c4 c5 c6 c7 c8
    go_wp2_with fail
    refine (awake_any _).mono ?_
    rintro e w5 ⟨rfl, hn5⟩
    go_wp2_with fail
    go_ret
    exact ⟨rfl, (N3.then hn4).then hn5⟩
  · have HOK := hide hok
    have hbd := ok_bnd hok
    clear hok
    refine (enc_yes (fwP P) A k c _ hf.len HOK.out hf3 hf.b).mono ?_
    rintro e w4 ⟨A4, cc4, rfl, ho4, hn4⟩
    have N4 := N3.then hn4
    clear c0 c1 c2 c3 c4 c5 c6 c7 c8
    obtain ⟨ha0, ha1⟩ := ha
    obtain ⟨hb0, hb1⟩ := hb
    obtain ⟨a, rfl⟩ := Int.eq_ofNat_of_zero_le ha0
    obtain ⟨i, hi⟩ : ∃ i, i = a % (36 + k) := ⟨_, rfl⟩
    have hil : i < 36 + k := by rw [hi]; exact Nat.mod_lt _ (by omega)
    have hi3 : (a : Int) % ((36 + k : Nat) : Int) = i := by rw [hi, Int.natCast_emod]
    have hi2 : (a : Int) % (36 + (k : Int)) = i := by rw [← hi3, Int.natCast_add]; rfl
    obtain ⟨l, hl⟩ : ∃ l, l = enL (fwP P) := ⟨_, rfl⟩
    have hlB : isB l := by rw [hl]; exact enL_isB hbd hf.b
    have hl0 : dcE l = 0 := by rw [hl]; exact (dc_en _ HOK.out).1
    rw [← hl] at ho4
    have hlen : l.length = 36 + k := ho4.rd.lenn
    have HL0 := hide hl0
    have HLN := hide hlen
    have HI := hide hi
    clear hl hl0 hlen hi
    obtain ⟨ad, rfl⟩ := ho4.some (by omega)
    obtain ⟨x, hx⟩ : ∃ x, l[i]? = some x := ⟨_, List.getElem?_eq_getElem (by have := HLN.out; omega)⟩
    have hcx := ho4.rd.celln hx
    have hfx := ho4.free i
    obtain ⟨hxb0, hxb1⟩ := hlB x (List.mem_of_getElem? hx)
    have hxor := xor_b hxb0 hxb1 hb0 (by omega)
    have hset := ho4.set i (by rw [bts_length, HLN.out]; exact hil) (.int .u8 (bits .xor .u8 x by_)) rfl
    have hes := ho4.ext_set i (.int .u8 (bits .xor .u8 x by_))
    have hxu := u8_xor x by_ hxb0 hxb1 hb0 (by omega)
    obtain ⟨y, hy⟩ : ∃ y, y = bits .xor .u8 x by_ := ⟨_, rfl⟩
    have HXU := hide (hy.trans hxu)
    rw [← hy] at hxor hset hes
    have HY := hide hy
    have HX := hide hx
    have HXO := hide hxor
    clear hxu hy hx hxor
    go_wp2_with fail
    rw [← HY.out]
    have hset' : Own (w4.setCell (ad.add i) (.int .u8 y)) w3.heap.size 5 1 (some ad) (36 + k) cc4 (bts (l.set i y)) := by
      have e : bts (l.set i y) = (bts l).set i (.int .u8 y) := by unfold bts; rw [List.map_set]
      rw [e]
      exact hset
    have hN5 : New w (w4.setCell (ad.add i) (.int .u8 y)) := N4.trans hes (fun j hj e => by have := (ho4.at_ e).1; have := N3.size; omega)
    generalize w4.setCell (ad.add i) (.int .u8 y) = w5 at *
    have hlB' := isB_set hlB i y ⟨HXO.out.1, HXO.out.2.1⟩
    refine (dec_any (some ad) (36 + k) cc4 (l.set i y) _ hset'.rd hlB' (by omega)).mono ?_
    rintro e w6 ⟨hn6, ⟨he, A6, n6, c6, rfl, _⟩ | ⟨he, rfl⟩⟩
    · have hby : by_ = 0 := by
        refine HXO.out.2.2.1 (Decidable.byContradiction fun hne => ?_)
        exact turned_no hlB HL0.out i x y HX.out ⟨HXO.out.1, HXO.out.2.1⟩ hne he
      have e1 : (by_ == 0) = true := by simpa using hby
      clear hby
      have HE := hide he
      clear he
      go_wp2_with fail
      refine (awake_any _).mono ?_
      rintro e w7 ⟨rfl, hn7⟩
      go_wp2_with fail
      go_ret
      exact ⟨rfl, (hN5.then hn6).then ((New.alloc1 _ _).then hn7)⟩
    · have hby : by_ ≠ 0 := fun h0 => by
        have hyx := HXO.out.2.2.2 h0
        rw [hyx] at he
        have : l.set i x = l := by
          have hx := HX.out
          obtain ⟨h1, h2⟩ := List.getElem?_eq_some_iff.1 hx
          rw [← h2]
          exact List.set_getElem_self h1
        rw [this] at he
        exact he HL0.out
      have e1 : (by_ == 0) = false := by simpa using hby
      have e2 : (dcE (l.set i y) == 0) = false := by simpa using he
      clear hby
      have HE := hide he
      clear he
      go_wp2_with fail
      refine (awake_any _).mono ?_
      rintro e w7 ⟨rfl, hn7⟩
      go_wp2_with fail
      go_ret
      exact ⟨rfl, (hN5.then hn6).then ((New.alloc1 _ _).then hn7)⟩
end Go.Proofs.Ytdgleplmmbkgfaa
