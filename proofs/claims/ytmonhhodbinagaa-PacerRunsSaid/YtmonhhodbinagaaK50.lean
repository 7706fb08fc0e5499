/- The law on any calls: its words. -/
import Derived.Test.YtmonhhodbinagaaK49
import Derived.Test.YtmonhhodbinagaaR
import Derived.Deep.DeepCutAuto
import Derived.Test.YtmonhhodbinagaaK12
import Derived.Lib.SmallJoins
namespace Go.Proofs.Ytmonhhodbinagaa
open Go.RowKit Go.Maps
set_option maxRecDepth 100000

def OpA.E (o : OpA) : List Value := [.int .u8 o.d, .int .i64 o.k.1, .int .i64 o.k.2, .int .i64 o.cls, .int .i64 o.n]
def OpA.wf (o : OpA) : Prop := (0 ≤ o.d ∧ o.d ≤ 255) ∧ kwf o.k
theorem opa_at {w : World} {ad : Addr} {n c : Nat} {l : List OpA} (h : Rd w 5 (Option.some ad) n c (l.flatMap OpA.E)) {k : Nat} {x : OpA} (hx : l[k]? = Option.some x) :
    w.cell? (ad.add (k * 5)) = Option.some (.int .u8 x.d) ∧ w.cell? ⟨(ad.add (k * 5)).block, (ad.add (k * 5)).off + 1, none⟩ = Option.some (.int .i64 x.k.1) ∧ w.cell? ⟨(ad.add (k * 5)).block, (ad.add (k * 5)).off + 2, none⟩ = Option.some (.int .i64 x.k.2) ∧ w.cell? ⟨(ad.add (k * 5)).block, (ad.add (k * 5)).off + 3, none⟩ = Option.some (.int .i64 x.cls) ∧ w.cell? ⟨(ad.add (k * 5)).block, (ad.add (k * 5)).off + 4, none⟩ = Option.some (.int .i64 x.n) := by
  have g := fun j u (hj : j < 5) (hu : (OpA.E x)[j]? = Option.some u) => h.cell ad rfl (k * 5 + j) u (by rw [flat_get (E := OpA.E) (sz := 5) (fun _ => rfl) l k j x hx hj]; exact hu)
  have e1 : ∀ j, j ≠ 0 → ad.add (k * 5 + j) = ⟨(ad.add (k * 5)).block, (ad.add (k * 5)).off + j, none⟩ := fun j hj => by
    rw [← add_add]
    unfold Addr.add
    rw [if_neg hj]
  exact ⟨g 0 _ (by omega) rfl, by rw [← e1 1 (by omega)]; exact g 1 _ (by omega) rfl, by rw [← e1 2 (by omega)]; exact g 2 _ (by omega) rfl, by rw [← e1 3 (by omega)]; exact g 3 _ (by omega) rfl, by rw [← e1 4 (by omega)]; exact g 4 _ (by omega) rfl⟩
/-- The pacer p; the document's in block X. -/
structure Rn (w wr : World) (p : Nat) (s : PS) (T : Nat → Prop) (x : DA) (X : Nat) : Prop where
  b : Bth (fun j => j = X) wr p s T x
  rb : wr.heap[X]? = some (.cells x.o 46)
  n : New w wr
  lo : w.heap.size ≤ X
  tx : ¬ T X
  tn : ∀ k, T k → w.heap.size ≤ k
namespace Rn
variable {w wr wr' : World} {p : Nat} {s : PS} {T : Nat → Prop} {x : DA} {X : Nat}
theorem new (h : Rn w wr p s T x X) (he : New wr wr') : Rn w wr' p s T x X := ⟨h.b.new he, he.keep h.rb, h.n.then he, h.lo, h.tx, h.tn⟩
end Rn
/-- Behind an op. -/
def CutI (w : World) (X : Nat) (m : Int) (v5 v10 : Value) (wc : World) : Prop := ∃ p s T x, v5 = .pointer (some ⟨p, 0, none⟩) ∧ v10 = .bool true ∧ Rn w wc p s T x X ∧ s.total ≤ m
/-- Behind step's call: the document's pacer in a block of its own. -/
def CutP (w wr : World) (X p : Nat) (s' : PS) (v12 v13 : Value) (wc : World) : Prop := ∃ pn y T' o, v12 = .pointer (some ⟨pn, 0, none⟩) ∧ v13 = .bool true ∧ wc.heap[pn]? = some (.cells (DA.o y) 46) ∧ Bth (fun j => j = X) wc p s' T' y ∧ wc.heap[X]? = some (.cells (DA.o o) 46) ∧ New w wc ∧ ¬ T' X ∧ ∀ k, T' k → w.heap.size ≤ k
theorem DA.o_size (x : DA) : x.o.size = 6 := rfl
/-- The fork arm: what is left of the old one does not matter. -/
theorem Rn.forked {w wr w1 w2 w2' w3 : World} {p p' : Nat} {s : PS} {T T' T2 : Nat → Prop} {x : DA} {X : Nat} (h : Rn w wr p s T x X) (hq1 : Pq w1 p' s T') (hn1 : New wr w1) (hT' : ∀ k, T' k → wr.heap.size ≤ k)
    (he2 : Ext T w1 w2) (hf2 : ∀ k, T2 k → T k ∨ w1.heap.size ≤ k) (hn2 : New w2 w2') (he3' : Ext T2 w2' w3) : Rn w w3 p' s T' x X := by
  have he3 : Ext T2 w2 w3 := hn2.to.trans he3' (fun _ _ h => h)
  have hXl := blk_lt h.rb
  have hd2 : ∀ k, T' k → ¬ T k := fun k hk ht => by have := h.b.q.lt ht; have := hT' k hk; omega
  have hd3 : ∀ k, T' k → ¬ T2 k := fun k hk ht => (hf2 k ht).elim (hd2 k hk) (fun e => by have := hq1.lt hk; omega)
  have hX2 : ¬ T2 X := fun ht => (hf2 X ht).elim h.tx (fun e => by have := hn1.size; omega)
  have e1 := (h.b.ok.wide (S := fun j => (T j ∨ j = X) ∨ T' j) (fun k hk => hk.elim .inl (fun hk => .inr (hT' k hk)))).new hn1
  have e2 := (e1.wide (S := fun j => ((T j ∨ j = X) ∨ T' j) ∨ T2 j) (fun k hk => hk.elim .inl (fun hk => (hf2 k hk).imp (fun h => .inl (.inl h)) id))).keep he2 (fun k hk => .inl (.inl (.inl (.inl hk))))
  have e3 := (e2.keep he3 (fun k hk => .inl (.inr hk))).wide (S := fun j => T' j ∨ j = X) (fun k hk => .inl (.inl (hk.elim .inr (fun hk => .inl (.inr hk)))))
  have E13 : Ext (fun k => w.heap.size ≤ k) w1 w3 := (he2.mono (fun k _ hk => h.tn k hk)).trans (he3.mono (T := fun k => w.heap.size ≤ k) (fun k _ hk => (hf2 k hk).elim (h.tn k) (fun e => by have := hn1.size; have := h.n.size; omega))) (fun _ _ h => h)
  exact ⟨⟨(hq1.keep he2 hd2).keep he3 hd3, h.b.wf, e3, h.b.s, fun j hj => by subst hj; exact Nat.lt_of_lt_of_le hXl (Nat.le_trans hn1.size E13.size)⟩, he3.keep (he2.keep (hn1.keep h.rb) h.tx) hX2, (h.n.then hn1).trans E13 (fun k hk e => absurd hk (by omega)), h.lo, fun ht => by have := hT' X ht; omega, fun k hk => by have := hT' k hk; have := h.n.size; omega⟩
/-- Behind step's call, and its store into a new block. -/
theorem Rn.cut {w wr w0 w2 wc : World} {p : Nat} {s s' : PS} {T T' : Nat → Prop} {x y : DA} {X : Nat} (h : Rn w wr p s T x X) {Z : Nat → Prop} (hZX : Z X) (hb : Bth Z w2 p s' T' y) (h0 : New wr w0) (he : Ext T w0 w2) (hf : ∀ k, T' k → T k ∨ w0.heap.size ≤ k)
    {pn : Nat} (hpn : wc.heap[pn]? = some (.cells (DA.o y) 46)) (hn : Ext (fun k => k = pn) w2 wc) (hr : (Z pn ∧ wr.heap.size ≤ pn ∧ pn < w0.heap.size) ∨ w2.heap.size ≤ pn) : CutP w wr X p s' (.pointer (some ⟨pn, 0, none⟩)) (.bool true) wc := by
  have hXl := blk_lt h.rb
  have E : Ext T wr w2 := h0.to.trans he (fun _ _ h => h)
  have hpX : X ≠ pn := by
    have := E.size
    rcases hr with hr | hr <;> omega
  have hpT : ∀ k, T' k → k ≠ pn := fun k hk e => by
    subst e
    have h1 := hb.q.lt hk
    rcases hr with hr | hr
    · rcases hf k hk with h2 | h2
      · have := h.b.q.lt h2; omega
      · omega
    · omega
  have hNw : New w wc := ((h.n.to.trans (T := fun k => w.heap.size ≤ k) (S := fun k => w.heap.size ≤ k) (E.mono (fun k _ hk => h.tn k hk)) (fun _ _ h => h)).trans (hn.mono (T := fun k => w.heap.size ≤ k) (fun k _ e => by have := h.n.size; have := E.size; rcases hr with hr | hr <;> omega)) (fun _ _ h => h)).mono (fun k hk e => absurd hk (by omega))
  have hok : y.ok (fun j => T' j ∨ j = X) wc := by
    rcases hr with hr | hr
    · exact (hb.ok.keep hn (fun k e => .inl (.inr (by rw [show k = pn from e]; exact hr.1)))).wide (fun k hk => .inl (hk.imp id (fun e => by rw [e]; exact hZX)))
    · exact (hb.ok.keep hn (fun k e => .inr (by rw [show k = pn from e]; exact hr))).wide (fun k hk => .inl (hk.imp id (fun e => by rw [e]; exact hZX)))
  refine ⟨pn, y, T', x, rfl, rfl, hpn, ⟨hb.q.keep hn hpT, hb.wf, hok, hb.s, fun j hj => by subst hj; exact blk_lt (hn.keep (E.keep h.rb h.tx) hpX)⟩, hn.keep (E.keep h.rb h.tx) hpX, hNw, ?_, fun k hk => ?_⟩
  · intro ht
    rcases hf X ht with h1 | h1
    · exact h.tx h1
    · have := h0.size; omega
  · rcases hf k hk with h1 | h1
    · exact h.tn k h1
    · have := h0.size; have := h.n.size; omega
set_option maxHeartbeats 800000 in
theorem runs_bad (m : Int) (A : Option Addr) (n c : Nat) (xs : List Value) (w : World) (hm : m < 1 ∨ 512 < m) (h : Rd w 5 A n c xs) :
    Calls Try.prog 6 #[.int .i64 m, .slice A n c] w fun e w' => e = .returned (.bool true) ∧ New w w' := by
  have HM := hide hm
  go_enter Try.func6, Try.ntmps6
  clear hm
  go_wp2_with fail
  refine (new_bad m _ HM.out).mono ?_
  rintro e w1 ⟨rfl, hn1⟩
  go_wp2_with fail
  refine (new_d m _).mono ?_
  rintro e w2 ⟨he, hn2⟩
  rw [if_pos HM.out, if_pos HM.out] at he
  replace he : e = .returned (.tuple #[.agg #[.slice none 0 0, .slice none 0 0, .slice none 0 0, .int .i64 0, .int .i64 0, .int .i64 0], .int .i64 180]) := he
  subst he
  have hn3 := New.alloc1 w2 (.cells #[.slice none 0 0, .slice none 0 0, .slice none 0 0, .int .i64 0, .int .i64 0, .int .i64 0] 46)
  go_wp2_with fail
  refine (awake_p _).mono ?_
  rintro e w4 ⟨rfl, hn4⟩
  go_wp2_with fail
  have hnn : New w w4 := hn1.then (hn2.then (hn3.then hn4))
  have hcap := h.cap
  have htop := h.top
  clear hn1 hn2 hn3 hn4
  have hend : (decide ((0 : Int) < n) = false ∧ decide (0 < n) = false) ∨ (decide ((0 : Int) < n) = true ∧ decide (0 < n) = true) := by
    by_cases hi2 : 0 < n
    · exact .inr ⟨decide_eq_true (by omega), decide_eq_true (by omega)⟩
    · exact .inl ⟨decide_eq_false (by omega), decide_eq_false (by omega)⟩
  go_loop [5, 9] (fun s5 s => s5 = .pointer none ∧ s = .int .i64 0) (fun _ _ => 0)
  case atStart => exact ⟨rfl, rfl⟩
  case round =>
    obtain ⟨rfl, rfl⟩ := hrel
    rcases hend with ⟨hz, hz2⟩ | ⟨hz, hz2⟩
    · go_wp2_with fail
      go_ret
      exact ⟨rfl, hnn⟩
    · go_wp2_with fail
      go_ret
      exact ⟨rfl, hnn⟩

open Go.ChangeShapes Go.WideShapes in
theorem open_opa {H : Type} {enc : TypeId × Value → H} {W : World} : ∀ (n : Nat) (cs : List Value) (y : DataW H × List MemPlace), DataW.trod enc Try.prog W 0 (fun _ => true) true n 51 cs = some y → Light Try.prog 51 y.1 →
    ∃ a : OpA, cs = a.E ∧ a.wf := by
  intro n cs y h _
  obtain ⟨y0, y1, y2, y3, m, rfl, hl, h0, h1, h2, h3⟩ := Joins.trod_struct4 Try.underlying51 h
  obtain ⟨z0, z1, m', _, hl', k0, k1⟩ := trod_struct2 Try.underlying49 h1
  obtain ⟨a0, e0, _, wf0⟩ := DataW.trod_int Try.underlying5 h0
  obtain ⟨b0, f0, _, wk0⟩ := DataW.trod_int Try.underlying3 k0
  obtain ⟨b1, f1, _, wk1⟩ := DataW.trod_int Try.underlying3 k1
  obtain ⟨a2, e2, _, wf2⟩ := DataW.trod_int Try.underlying3 h2
  obtain ⟨a3, e3, _, wf3⟩ := DataW.trod_int Try.underlying3 h3
  rw [show Try.prog.cellsOf 51 = 5 by kernel_rfl] at hl
  match cs, hl with
  | [c0, c1, c2, c3, c4], _ =>
    simp [show Try.prog.cellsOf 5 = 1 by kernel_rfl, show Try.prog.cellsOf 3 = 1 by kernel_rfl, show Try.prog.cellsOf 49 = 2 by kernel_rfl] at e0 f0 f1 e2 e3
    refine ⟨⟨a0, (b0, b1), a2, a3⟩, by rw [e0, f0, f1, e2, e3]; rfl, ?_, wk0, wk1⟩
    have := wf_of_u8 wf0
    omega
open Go.ChangeShapes Go.WideShapes in
theorem open_rows51 {H : Type} {enc : TypeId × Value → H} {W : World} {a : Option Addr} {n c : Nat} {d : DataW H} {ps : List MemPlace} {ts : List TypeId} {ds : List (DataW H)} {j t : Nat}
    (hsz : (DataW.weightsEach Try.prog ts ds).all (· ≤ reachBytes) = true) (ht : ts[j]? = some t) (hd : ds[j]? = some d) (e : t = 42) (h : DataW.Trod enc Try.prog W 0 (fun _ => true) true 42 (.slice a n c) d ps) :
    ∃ l : List OpA, Rd W 5 a n c (l.flatMap OpA.E) ∧ ∀ o ∈ l, o.wf := by
  subst e
  obtain ⟨l, _, hr, hw, _⟩ := open_rows (E := OpA.E) (wf := fun o => o.wf) (sz := 5) (B := 40) Try.underlying42 (by kernel_rfl) (by kernel_rfl) (fun _ => rfl) (fun a _ u hu => by simp [OpA.E] at hu; rcases hu with rfl | rfl | rfl | rfl | rfl <;> rfl) open_opa (Light.at_ hsz ht hd) h
  exact ⟨l, hr, hw⟩
end Go.Proofs.Ytmonhhodbinagaa
