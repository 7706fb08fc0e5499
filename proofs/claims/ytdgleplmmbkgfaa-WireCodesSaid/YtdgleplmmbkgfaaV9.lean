/- Walks: a packet as bytes. -/
import Derived.Test.YtdgleplmmbkgfaaV8
namespace Go.Proofs.Ytdgleplmmbkgfaa
open Go.RowKit
set_option maxRecDepth 100000

theorem putLB (size : Nat) (n : Int) (k : Nat) : isB (putL size n k) := by
  intro x hx
  unfold putL at hx
  obtain ⟨j, _, rfl⟩ := List.mem_map.1 hx
  omega
theorem isB_app {l k : List Int} (h : isB l) (h' : isB k) : isB (l ++ k) := fun x hx => (List.mem_append.1 hx).elim (h x) (h' x)
theorem hdL_isB {P : Pk} (h : Bnd P) : isB (hdL P) := by
  obtain ⟨h1, h2, h3, h4, h5, h6, h7, h8, h9⟩ := h
  refine isB_app (isB_app (isB_app (isB_app (isB_app ?_ (putLB _ _ _)) (putLB _ _ _)) (putLB _ _ _)) (putLB _ _ _)) (putLB _ _ _)
  intro x hx
  simp only [List.mem_cons, List.not_mem_nil, or_false] at hx
  rcases hx with rfl | rfl | rfl | rfl | rfl | rfl | rfl | rfl <;> omega
theorem hdL_len (P : Pk) : (hdL P).length = 32 := by simp [hdL, putL_length]
set_option maxHeartbeats 1000000 in
theorem enc_no (P : Pk) (A : Option Addr) (n c : Nat) (w : World) (hn : P.b.length = n) (h : okB P = false) :
    Calls Try.prog 8 #[pkV P A n c] w fun e w' => e = .returned (.tuple #[.slice none 0 0, .int .i64 30]) ∧ New w w' := by
  have hn1 := New.alloc1 w (pkO P A n c 25)
  have HN := hide hn
  have HH := hide h
  clear hn h
  go_enter Try.func8, Try.ntmps8
  go_wp2_with fail
  refine (check_b P A n c false _ HN.out HH.out).mono ?_
  rintro e w2 ⟨rfl, hn2⟩
  go_wp2_with fail
  go_ret2
  exact ⟨rfl, hn1.then hn2⟩
set_option maxHeartbeats 1000000 in
theorem enc_yes (P : Pk) (A : Option Addr) (n c : Nat) (w : World) (hn : P.b.length = n) (h : okB P = true) (hr : Rd w 1 A n c (bts P.b)) (hB : isB P.b) :
    Calls Try.prog 8 #[pkV P A n c] w fun e w' => ∃ A' c', e = .returned (.tuple #[.slice A' (36 + n) c', .int .i64 0]) ∧ Own w' w.heap.size 5 1 A' (36 + n) c' (bts (enL P)) ∧ New w w' := by
  have hbd := ok_bnd h
  have hn1 := New.alloc1 w (pkO P A n c 25)
  have hb1 := blk_new w (pkO P A n c 25)
  have hle := hbd.n
  rw [hn] at hle
  have HN := hide hn
  have HH := hide h
  clear hn h
  go_enter Try.func8, Try.ntmps8
  go_wp2_with fail
  refine (check_b P A n c true _ HN.out HH.out).mono ?_
  rintro e w2 ⟨rfl, hn2⟩
  have hk2 := hn2.keep hb1
  have N2 := hn1.then hn2
  dsimp only [pkO] at hk2
  have c0 := (blk_cell hk2 0).trans rfl
  have c1 := (blk_cell hk2 1).trans rfl
  have c2 := (blk_cell hk2 2).trans rfl
  have c3 := (blk_cell hk2 3).trans rfl
  have c4 := (blk_cell hk2 4).trans rfl
  have c5 := (blk_cell hk2 5).trans rfl
  have c6 := (blk_cell hk2 6).trans rfl
  have c7 := (blk_cell hk2 7).trans rfl
  have c8 := (blk_cell hk2 8).trans rfl
  go_wp2_with fail
  refine (head_any P A n c _ HN.out hbd).mono ?_
  rintro e w3 ⟨A3, d3, rfl, ho3, hn3⟩
  have hk3 := hn3.keep hk2
  have N3 := N2.then hn3
  clear c0 c1 c2 c3 c4 c5 c6 c7 c8
  have c8 := (blk_cell hk3 8).trans rfl
  have hx4 := rd_lit w3 23 1 2 #[.slice A3 32 d3, .slice A n c] (by omega) rfl (by simp [Value.oneCell'])
  have hn4 := New.alloc1 w3 (.cells #[.slice A3 32 d3, .slice A n c] 23)
  have N4 := N3.then hn4
  go_wp2_with fail
  refine (adler_two _ A3 A 32 d3 n c (hdL P) P.b _ hx4 (ho3.rd.new hn4) (hr.new N4) (hdL_isB hbd) hB).mono ?_
  rintro e w5 ⟨rfl, hn5⟩
  have N5 := N4.then hn5
  have hk5 := (hn4.then hn5).keep hk3
  obtain ⟨hs0, hs1⟩ := ad2_b (hdL P) P.b
  clear c8
  go_wp2_with fail
  have ho5 := (ho3.new hn4).new hn5
  refine (put_lit _ _ _ _ 4 4 (ad2 (hdL P) P.b) _ rfl ho5.rd (by omega) (by omega) (by omega)).mono ?_
  rintro e w6 ⟨A6, d6, rfl, ho6, hn6⟩
  have N6 := N5.then hn6
  have hk6 := hn6.keep hk5
  have c8 := (blk_cell hk6 8).trans rfl
  go_wp2_with (at_builtin; refine wpList_app rfl _ _ _ rfl w5.heap.size 5 (.int .u8 0) 1 1 Try.underlying23 info_u8 rfl (by decide) (by decide) rfl rfl ho6 (hr.new N6) (by omega) hn6.size ?_; intro A7 d7 w7 ho7 he7 hA7)
  go_ret2
  have hsz5 := N5.size
  have N7 : New w w7 := N6.trans he7 (fun k hk h => by have := (ho6.at_ h).1; omega)
  refine ⟨A7, d7, rfl, ?_, N7⟩
  have := ho7.rebase (base' := w.heap.size) (fun k hk => by have := (ho7.at_ hk).1; omega)
  unfold enL
  rw [bts_append, bts_append]
  simpa using this
end Go.Proofs.Ytdgleplmmbkgfaa
