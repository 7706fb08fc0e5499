/- Walks: the example. -/
import Derived.Test.YtdgleplmmbkgfaaV18
import Derived.Test.YtdgleplmmbkgfaaV19
import Derived.Lib.SlBytesConst
namespace Go.Proofs.Ytdgleplmmbkgfaa
open Go.RowKit
set_option maxRecDepth 100000

def exP : Pk := ⟨4, 0, 0, 0, 1, 1, 0, 5, []⟩
def exQ : Pk := ⟨1, 0, 0, 0, 1, 1, 0, 0, [97]⟩
theorem ex_enc (w : World) : Calls Try.prog 8 #[.agg #[.int .i64 4, .int .i64 0, .int .i64 0, .int .i64 0, .int .i64 1, .int .i64 1, .int .i64 0, .int .i64 5, .slice none 0 0]] w fun e w' => ∃ A' c', e = .returned (.tuple #[.slice A' 36 c', .int .i64 0]) ∧ Own w' w.heap.size 5 1 A' 36 c' (bts (enL exP)) ∧ New w w' :=
  enc_yes exP none 0 0 w rfl (by decide) (Rd.nil w 1) (fun _ h => by cases h)
theorem ex_enc0 (w : World) : Calls Try.prog 8 #[.agg #[.int .i64 0, .int .i64 0, .int .i64 0, .int .i64 0, .int .i64 0, .int .i64 0, .int .i64 0, .int .i64 0, .slice none 0 0]] w fun e w' => e = .returned (.tuple #[.slice none 0 0, .int .i64 30]) ∧ New w w' :=
  enc_no ⟨0, 0, 0, 0, 0, 0, 0, 0, []⟩ none 0 0 w rfl (by decide)
theorem enL_isB {P : Pk} (h : Bnd P) (hb : isB P.b) : isB (enL P) := isB_app (isB_app (hdL_isB h) (putLB _ _ _)) hb
theorem ex_dec (w : World) (A : Option Addr) (c : Nat) (hr : Rd w 1 A 36 c (bts (enL exP))) : Calls Try.prog 10 #[.slice A 36 c] w fun e w' => ∃ A' n c', e = .returned (.tuple #[.agg #[.int .i64 4, .int .i64 0, .int .i64 0, .int .i64 0, .int .i64 1, .int .i64 1, .int .i64 0, .int .i64 5, .slice A' n c'], .int .i64 0]) ∧ New w w' := by
  have hok : okB exP = true := by decide
  refine (dec_any A 36 c _ w hr (enL_isB (ok_bnd hok) (fun _ h => by cases h)) (by omega)).mono ?_
  rintro e w' ⟨hn, ⟨_, A', n', c', rfl, _⟩ | ⟨h, _⟩⟩
  · rw [(dc_en exP hok).2]
    exact ⟨A', n', c', rfl, hn⟩
  · exact absurd (dc_en exP hok).1 h
theorem ex_trim (w : World) (A : Option Addr) : Calls Try.prog 11 #[.agg #[.int .i64 1, .int .i64 0, .int .i64 0, .int .i64 0, .int .i64 1, .int .i64 1, .int .i64 0, .int .i64 0, .slice A 1 1]] w fun e w' => e = .returned (.tuple #[.agg #[.int .i64 1, .int .i64 8, .int .i64 0, .int .i64 0, .int .i64 1, .int .i64 1, .int .i64 0, .int .i64 0, .slice none 0 0], .bool true]) ∧ New w w' :=
  trim_b exQ A 1 1 w rfl true (by decide)
theorem ex_bounce (w : World) : Calls Try.prog 13 #[.agg #[.int .i64 1, .int .i64 8, .int .i64 0, .int .i64 0, .int .i64 1, .int .i64 1, .int .i64 0, .int .i64 0, .slice none 0 0]] w fun e w' => e = .returned (.tuple #[.agg #[.int .i64 1, .int .i64 24, .int .i64 0, .int .i64 1, .int .i64 0, .int .i64 1, .int .i64 0, .int .i64 0, .slice none 0 0], .bool true]) ∧ New w w' :=
  bounce_b (trP exQ) none 0 0 w rfl true (by decide)
theorem conv0 (w : World) (C : Array Value) (n c : Nat) : (convert 23 23 (.slice (some ⟨w.heap.size, 0, none⟩) n c)).run Try.prog (w.alloc (.cells C 5)) = .ok (.slice (some ⟨w.heap.size, 0, none⟩) n c) (w.alloc (.cells C 5 (C.size, C.size + 1))) :=
  Lib.run_convert_bytes_const (P := Try.prog) w 23 5 C n c Try.underlying23 Try.underlying5
theorem conv1 (w : World) (o : Obj) (C : Array Value) (n c : Nat) : (convert 23 23 (.slice (some ⟨w.heap.size + 1, 0, none⟩) n c)).run Try.prog ((w.alloc o).alloc (.cells C 5)) = .ok (.slice (some ⟨w.heap.size + 1, 0, none⟩) n c) ((w.alloc o).alloc (.cells C 5 (C.size, C.size + 1))) := by
  have := conv0 (w.alloc o) C n c
  rwa [World.size_alloc] at this
set_option maxHeartbeats 4000000 in
theorem awake_any (w : World) : Calls Try.prog 9 #[] w fun e w' => e = .returned (.bool true) ∧ New w w' := by
  have kc := conv1
  go_enter Try.func9, Try.ntmps9
  go_wp2_with fail
  refine (ex_enc _).mono ?_
  rintro e w1 ⟨A1, c1, rfl, ho1, hn1⟩
  go_wp2_with fail
  refine (ex_dec _ A1 c1 ho1.rd).mono ?_
  rintro e w2 ⟨A2, n2, c2, rfl, hn2⟩
  have N2 := hn1.then hn2
  have hn3 := New.alloc1 w2 (.cells #[.int .i64 4, .int .i64 0, .int .i64 0, .int .i64 0, .int .i64 1, .int .i64 1, .int .i64 0, .int .i64 5, .slice A2 n2 c2] 25)
  have hb3 := blk_new w2 (.cells #[.int .i64 4, .int .i64 0, .int .i64 0, .int .i64 0, .int .i64 1, .int .i64 1, .int .i64 0, .int .i64 5, .slice A2 n2 c2] 25)
  go_wp2_with fail
  generalize w2.alloc (.cells #[.int .i64 4, .int .i64 0, .int .i64 0, .int .i64 0, .int .i64 1, .int .i64 1, .int .i64 0, .int .i64 5, .slice A2 n2 c2] 25) = w3 at *
  have hn4 := New.alloc1 w3 (.cells #[.int .u8 97] 5 (1, 2))
  refine (ex_trim _ _).mono ?_
  rintro e w5 ⟨rfl, hn5⟩
  have hb5 := (hn4.then hn5).keep hb3
  have N5 := (N2.then hn3).then (hn4.then hn5)
  have hn6 := New.alloc1 w5 (.cells #[.int .i64 1, .int .i64 8, .int .i64 0, .int .i64 0, .int .i64 1, .int .i64 1, .int .i64 0, .int .i64 0, .slice none 0 0] 25)
  go_wp2_with fail
  refine (ex_bounce _).mono ?_
  rintro e w7 ⟨rfl, hn7⟩
  have hb7 := (hn6.then hn7).keep hb5
  have N7 := N5.then (hn6.then hn7)
  have hn8 := New.alloc1 w7 (.cells #[.int .i64 1, .int .i64 24, .int .i64 0, .int .i64 1, .int .i64 0, .int .i64 1, .int .i64 0, .int .i64 0, .slice none 0 0] 25)
  have hb8 := blk_new w7 (.cells #[.int .i64 1, .int .i64 24, .int .i64 0, .int .i64 1, .int .i64 0, .int .i64 1, .int .i64 0, .int .i64 0, .slice none 0 0] 25)
  go_wp2_with fail
  generalize w7.alloc (.cells #[.int .i64 1, .int .i64 24, .int .i64 0, .int .i64 1, .int .i64 0, .int .i64 1, .int .i64 0, .int .i64 0, .slice none 0 0] 25) = w8 at *
  refine (ex_enc0 _).mono ?_
  rintro e w9 ⟨rfl, hn9⟩
  have hb9 := hn9.keep hb8
  have hc9 := (hn8.then hn9).keep hb7
  have N9 := (N7.then hn8).then hn9
  have p7 := (blk_cell hc9 7).trans rfl
  have y3 := (blk_cell hb9 3).trans rfl
  have y4 := (blk_cell hb9 4).trans rfl
  have y8 := (blk_cell hb9 8).trans rfl
  go_wp2_with fail
  go_ret
  exact ⟨rfl, N9⟩
end Go.Proofs.Ytdgleplmmbkgfaa
