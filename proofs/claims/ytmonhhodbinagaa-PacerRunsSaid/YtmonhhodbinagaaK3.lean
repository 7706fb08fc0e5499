/- A pacer's plain state, what calls make of it; a pacer's block; walks: none, Pending, Issued, Total, Len. -/
import Derived.Test.YtmonhhodbinagaaK2
namespace Go.Proofs.Ytmonhhodbinagaa
open Go.RowKit Go.Maps
set_option maxRecDepth 100000

/-! ## plain -/
structure PS where
  L : List Kn
  u : Nat → List (Int × Int)
  most : Int
  run : Int
  total : Int
def upd {α : Type} (u : Nat → α) (c : Nat) (v : α) : Nat → α := fun d => if d = c then v else u d
theorem upd_same {α : Type} (u : Nat → α) (c : Nat) (v : α) : upd u c v c = v := if_pos rfl
theorem upd_other {α : Type} (u : Nat → α) {c d : Nat} (v : α) (h : d ≠ c) : upd u c v d = u d := if_neg h
def may (k : Int × Int) : Prop := 0 ≤ k.1 ∧ k.1 ≤ 7 ∧ 1 ≤ k.2 ∧ k.2 ≤ 1073741824
theorem wf_of {n : Int} (h1 : -9223372036854775808 ≤ n) (h2 : n ≤ 9223372036854775807) : (Lit.int .i64 n).wf = true := by
  exact WalkArith.wf_i64 ⟨h1, h2⟩
theorem may.wf {k : Int × Int} (h : may k) : kwf k := by
  obtain ⟨h1, h2, h3, h4⟩ := h
  exact ⟨wf_of (by omega) (by omega), wf_of (by omega) (by omega)⟩
/-- What holds of every pacer. -/
structure PS.Wf (s : PS) : Prop where
  nd : (s.L.map Kn.k).Nodup
  may : ∀ x ∈ s.L, may x.k
  cls : ∀ x ∈ s.L, x.cls = 0 ∨ x.cls = 1
  p0 : ∀ x ∈ s.L, 0 ≤ x.pend
  p1 : ∀ x ∈ s.L, x.pend ≤ 1152921504606846976
  i0 : ∀ x ∈ s.L, 0 ≤ x.iss
  i1 : ∀ x ∈ s.L, x.iss ≤ s.total
  und : ∀ c, (s.u c).Nodup
  uin : ∀ c, ∀ k, k ∈ s.u c ↔ ∃ x ∈ s.L, x.k = k ∧ x.cls = (c : Int) ∧ 0 < x.pend
  m1 : (s.L.length : Int) ≤ s.most
  m2 : s.most ≤ 512
  r0 : 0 ≤ s.run
  r1 : s.run ≤ 4
  t0 : 0 ≤ s.total
theorem nodup_le {α : Type} [DecidableEq α] {xs ys : List α} (hy : ys.Nodup) (h : ∀ k ∈ ys, k ∈ xs) : ys.length ≤ xs.length := by
  induction ys generalizing xs with
  | nil => simp
  | cons y r ih =>
    obtain ⟨hyr, hr⟩ := List.nodup_cons.1 hy
    have hyx := h y (by simp)
    have := ih (xs := xs.erase y) hr (fun k hk => (List.mem_erase_of_ne (fun e => hyr (by rw [← e]; exact hk))).2 (h k (by simp [hk])))
    rw [List.length_erase_of_mem hyx] at this
    have := List.length_pos_of_mem hyx
    simp only [List.length_cons]
    omega
theorem PS.Wf.ulen {s : PS} (h : s.Wf) (c : Nat) : (s.u c).length ≤ 512 := by
  have h1 := nodup_le (xs := s.L.map Kn.k) (h.und c) (fun k hk => by
    obtain ⟨x, hx, rfl, _⟩ := (h.uin c k).1 hk
    exact List.mem_map_of_mem hx)
  have := h.m1
  have := h.m2
  simp at h1
  omega
theorem PS.Wf.ulen1 {s : PS} (h : s.Wf) (c : Nat) {x : Kn} (hx : x ∈ s.L) (hn : x.k ∉ s.u c) : (s.u c).length + 1 ≤ 512 := by
  have h1 := nodup_le (xs := s.L.map Kn.k) (ys := x.k :: s.u c) (List.nodup_cons.2 ⟨hn, h.und c⟩) (fun k hk => by
    rcases List.mem_cons.1 hk with rfl | hk
    · exact List.mem_map_of_mem hx
    obtain ⟨x, hx, rfl, _⟩ := (h.uin c k).1 hk
    exact List.mem_map_of_mem hx)
  have := h.m1
  have := h.m2
  simp at h1
  omega

/-! ## blocks -/
/-- A ring of room 512, by what it may turn. -/
def RQ (w : World) (r : Nat) (T : Nat → Prop) (xs : List (Int × Int)) : Prop := ∃ A n c, Rngk w r A n c xs 512 ∧ ∀ k, T k ↔ Tch r A k
theorem RQ.keep {S T : Nat → Prop} {w w' : World} {r : Nat} {xs : List (Int × Int)} (h : RQ w r T xs) (he : Ext S w w') (hs : ∀ k, T k → ¬ S k) : RQ w' r T xs := by
  obtain ⟨A, n, c, h, hT⟩ := h
  exact ⟨A, n, c, h.keep he (hs r ((hT r).2 (.inl rfl))) (fun k hk => hs k ((hT k).2 (.inr hk))), hT⟩
theorem RQ.self {T : Nat → Prop} {w : World} {r : Nat} {xs : List (Int × Int)} (h : RQ w r T xs) : T r := by
  obtain ⟨A, n, c, h, hT⟩ := h
  exact (hT r).2 (.inl rfl)
theorem RQ.lt {T : Nat → Prop} {w : World} {r : Nat} {xs : List (Int × Int)} (h : RQ w r T xs) {k : Nat} (hk : T k) : k < w.heap.size := by
  obtain ⟨A, n, c, h, hT⟩ := h
  rcases (hT k).1 hk with rfl | hk
  · exact h.lt
  · exact (h.own.at_ hk).2
/-- Block p is a pacer: its map, its rings. -/
structure Pac (w : World) (p : Nat) (s : PS) (b : Nat) (r : Nat → Nat) (T : Nat → Nat → Prop) : Prop where
  blk : w.heap[p]? = some (.cells #[.map (some b), .pointer (some ⟨r 0, 0, none⟩), .pointer (some ⟨r 1, 0, none⟩), .int .i64 s.most, .int .i64 s.run, .int .i64 s.total] 69)
  map : PMap w b s.L
  q : ∀ c, c < 2 → RQ w (r c) (T c) (s.u c)
  pb : p ≠ b
  dp : ∀ c, c < 2 → ¬ T c p
  db : ∀ c, c < 2 → ¬ T c b
  dq : ∀ k, T 0 k → ¬ T 1 k
namespace Pac
variable {w w' : World} {p : Nat} {s : PS} {b : Nat} {r : Nat → Nat} {T : Nat → Nat → Prop}
theorem lt (h : Pac w p s b r T) : p < w.heap.size := blk_lt h.blk
theorem keep {S : Nat → Prop} (h : Pac w p s b r T) (he : Ext S w w') (hp : ¬ S p) (hb : ¬ S b) (hs : ∀ c, c < 2 → ∀ k, T c k → ¬ S k) : Pac w' p s b r T := ⟨he.keep h.blk hp, h.map.keep he hb, fun c hc => (h.q c hc).keep he (hs c hc), h.pb, h.dp, h.db, h.dq⟩
theorem new (h : Pac w p s b r T) (he : New w w') : Pac w' p s b r T := h.keep he (fun h => h) (fun h => h) (fun _ _ _ _ h => h)
end Pac
/-- Block p is a pacer, by what its calls may turn. -/
def Pq (w : World) (p : Nat) (s : PS) (T : Nat → Prop) : Prop := ∃ b r U, Pac w p s b r U ∧ ∀ k, T k ↔ (k = p ∨ k = b ∨ U 0 k ∨ U 1 k)
theorem Pq.keep {S T : Nat → Prop} {w w' : World} {p : Nat} {s : PS} (h : Pq w p s T) (he : Ext S w w') (hs : ∀ k, T k → ¬ S k) : Pq w' p s T := by
  obtain ⟨b, r, U, h, hT⟩ := h
  refine ⟨b, r, U, h.keep he (hs p ((hT p).2 (.inl rfl))) (hs b ((hT b).2 (.inr (.inl rfl)))) (fun c hc k hk => hs k ((hT k).2 ?_)), hT⟩
  obtain rfl | rfl : c = 0 ∨ c = 1 := by omega
  · exact .inr (.inr (.inl hk))
  · exact .inr (.inr (.inr hk))
theorem Pq.new {T : Nat → Prop} {w w' : World} {p : Nat} {s : PS} (h : Pq w p s T) (he : New w w') : Pq w' p s T := h.keep he (fun _ _ h => h)
theorem Pq.lt {T : Nat → Prop} {w : World} {p : Nat} {s : PS} (h : Pq w p s T) {k : Nat} (hk : T k) : k < w.heap.size := by
  obtain ⟨b, r, U, h, hT⟩ := h
  rcases (hT k).1 hk with rfl | rfl | hk | hk
  · exact h.lt
  · exact h.map.lt
  · exact (h.q 0 (by omega)).lt hk
  · exact (h.q 1 (by omega)).lt hk
/-- What a call leaves behind. -/
def Pstep (w w' : World) (p : Nat) (s' : PS) (T : Nat → Prop) : Prop := ∃ T', Pq w' p s' T' ∧ Ext T w w' ∧ ∀ k, T' k → T k ∨ w.heap.size ≤ k

/-! ## walks -/
theorem eql_mapnil (b : Nat) (W : World) : (binOp .eql 65 (.map (some b)) (.map none)).run Try.prog W = .ok (.bool false) W := by
  first | rfl | kernel_rfl | simp [binOp]
theorem fld1 (a b c : Int) (W : World) : (Instr.field 75 (.agg #[.int .i64 a, .int .i64 b, .int .i64 c]) 1).run Try.prog W = .ok (.int .i64 b) W := by kernel_rfl
theorem fld2 (a b c : Int) (W : World) : (Instr.field 75 (.agg #[.int .i64 a, .int .i64 b, .int .i64 c]) 2).run Try.prog W = .ok (.int .i64 c) W := by kernel_rfl
section
variable {w : World} {p : Nat} {s : PS} {T : Nat → Prop}
set_option maxHeartbeats 400000 in
theorem none_p (h : Pq w p s T) : Calls Try.prog 27 #[.pointer (some ⟨p, 0, none⟩)] w fun e w' => e = .returned (.bool false) ∧ w = w' := by
  obtain ⟨b, r, U, h, hT⟩ := h
  have c0 := (blk_cell h.blk 0).trans rfl
  have kn := eql_mapnil b
  go_enter Try.func27, Try.ntmps27
  go_wp2_with fail
  go_ret
  exact ⟨rfl, rfl⟩
set_option maxHeartbeats 400000 in
theorem pending_p (h : Pq w p s T) (k : Int × Int) (hk : kwf k) : Calls Try.prog 15 #[.pointer (some ⟨p, 0, none⟩), kV k] w fun e w' => e = .returned (.int .i64 (ofK s.L k).pend) ∧ New w w' := by
  have hq := h
  obtain ⟨b, r, U, h, hT⟩ := h
  have hn := New.alloc1 w (.cells #[.int .i64 k.1, .int .i64 k.2] 30)
  have hq1 := hq.new hn
  have c0 := (blk_cell (h.new hn).blk 0).trans rfl
  have k0 := blk_cell (blk_new w (.cells #[.int .i64 k.1, .int .i64 k.2] 30)) 0
  have k1 := blk_cell (blk_new w (.cells #[.int .i64 k.1, .int .i64 k.2] 30)) 1
  have g := fun u => (h.new (hn.then (new_draw _ u))).map.get hk
  have gf := fld1 (ofK s.L k).cls (ofK s.L k).pend (ofK s.L k).iss
  go_enter Try.func15, Try.ntmps15
  go_wp2_with fail
  refine (none_p hq1).mono ?_
  rintro e w1 ⟨rfl, rfl⟩
  go_wp2_with fail
  go_quiet (fail)
  go_wp2_with fail
  go_ret
  exact ⟨rfl, hn.then (new_draw _ nq)⟩
set_option maxHeartbeats 400000 in
theorem issued_p (h : Pq w p s T) (k : Int × Int) (hk : kwf k) : Calls Try.prog 13 #[.pointer (some ⟨p, 0, none⟩), kV k] w fun e w' => e = .returned (.int .i64 (ofK s.L k).iss) ∧ New w w' := by
  have hq := h
  obtain ⟨b, r, U, h, hT⟩ := h
  have hn := New.alloc1 w (.cells #[.int .i64 k.1, .int .i64 k.2] 30)
  have hq1 := hq.new hn
  have c0 := (blk_cell (h.new hn).blk 0).trans rfl
  have k0 := blk_cell (blk_new w (.cells #[.int .i64 k.1, .int .i64 k.2] 30)) 0
  have k1 := blk_cell (blk_new w (.cells #[.int .i64 k.1, .int .i64 k.2] 30)) 1
  have g := fun u => (h.new (hn.then (new_draw _ u))).map.get hk
  have gf := fld2 (ofK s.L k).cls (ofK s.L k).pend (ofK s.L k).iss
  go_enter Try.func13, Try.ntmps13
  go_wp2_with fail
  refine (none_p hq1).mono ?_
  rintro e w1 ⟨rfl, rfl⟩
  go_wp2_with fail
  go_quiet (fail)
  go_wp2_with fail
  go_ret
  exact ⟨rfl, hn.then (new_draw _ nq)⟩
set_option maxHeartbeats 400000 in
theorem total_p (h : Pq w p s T) : Calls Try.prog 14 #[.pointer (some ⟨p, 0, none⟩)] w fun e w' => e = .returned (.int .i64 s.total) ∧ w = w' := by
  have hq := h
  obtain ⟨b, r, U, h, hT⟩ := h
  have c5 := (blk_cell h.blk 5).trans rfl
  go_enter Try.func14, Try.ntmps14
  go_wp2_with fail
  refine (none_p hq).mono ?_
  rintro e w1 ⟨rfl, rfl⟩
  go_wp2_with fail
  go_ret
  exact ⟨rfl, rfl⟩
set_option maxHeartbeats 400000 in
theorem len_p (h : Pq w p s T) : Calls Try.prog 22 #[.pointer (some ⟨p, 0, none⟩)] w fun e w' => e = .returned (.int .i64 s.L.length) ∧ w = w' := by
  have hq := h
  obtain ⟨b, r, U, h, hT⟩ := h
  have c0 := (blk_cell h.blk 0).trans rfl
  have g := fun ty => h.map.len ty
  go_enter Try.func22, Try.ntmps22
  go_wp2_with fail
  refine (none_p hq).mono ?_
  rintro e w1 ⟨rfl, rfl⟩
  go_wp2_with fail
  go_ret
  exact ⟨rfl, rfl⟩
end
end Go.Proofs.Ytmonhhodbinagaa
