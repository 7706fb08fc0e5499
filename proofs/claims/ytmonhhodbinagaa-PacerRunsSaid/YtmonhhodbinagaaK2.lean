/- What is known of keys: plain rows, and the map's block that holds them. -/
import Derived.Test.YtmonhhodbinagaaK1
import Derived.Maps.OwnSet
import Derived.Maps.OwnOps
import Derived.DeepKeys4
namespace Go.Proofs.Ytmonhhodbinagaa
open Go.RowKit Go.Maps
set_option maxRecDepth 100000

/-- A key, its class, what it waits for, what it was told. -/
structure Kn where
  k : Int × Int
  cls : Int
  pend : Int
  iss : Int
def fnd (L : List Kn) (k : Int × Int) : Option Kn := L.find? (fun x => decide (x.k = k))
def setK (L : List Kn) (x : Kn) : List Kn := L.map (fun y => if y.k = x.k then x else y)
def ofK (L : List Kn) (k : Int × Int) : Kn := (fnd L k).getD ⟨(0, 0), 0, 0, 0⟩
theorem fnd_nil (k : Int × Int) : fnd [] k = none := rfl
theorem fnd_cons (y : Kn) (L : List Kn) (k : Int × Int) : fnd (y :: L) k = if y.k = k then some y else fnd L k := by
  unfold fnd
  rw [List.find?_cons]
  by_cases e : y.k = k <;> simp [e]
theorem fnd_app (L M : List Kn) (k : Int × Int) : fnd (L ++ M) k = (fnd L k).or (fnd M k) := by
  unfold fnd
  exact List.find?_append
theorem fnd_mem {L : List Kn} {k : Int × Int} {x : Kn} (h : fnd L k = some x) : x ∈ L ∧ x.k = k := by
  unfold fnd at h
  exact ⟨List.mem_of_find?_eq_some h, by simpa using List.find?_some h⟩
theorem fnd_none {L : List Kn} {k : Int × Int} : fnd L k = none ↔ ∀ x ∈ L, x.k ≠ k := by
  unfold fnd
  rw [List.find?_eq_none]
  simp
theorem fnd_of {L : List Kn} (hn : (L.map Kn.k).Nodup) {x : Kn} (hx : x ∈ L) : fnd L x.k = some x := by
  induction L with
  | nil => cases hx
  | cons y r ih =>
    rw [fnd_cons]
    simp only [List.map_cons, List.nodup_cons] at hn
    rcases List.mem_cons.1 hx with rfl | hx
    · simp
    · rw [if_neg (fun e : y.k = x.k => hn.1 (by rw [e]; exact List.mem_map_of_mem hx))]
      exact ih hn.2 hx
theorem setK_keys (L : List Kn) (x : Kn) : (setK L x).map Kn.k = L.map Kn.k := by
  unfold setK
  rw [List.map_map]
  refine List.map_congr_left (fun y _ => ?_)
  simp only [Function.comp]
  split
  · next e => exact e.symm
  · rfl
theorem setK_len (L : List Kn) (x : Kn) : (setK L x).length = L.length := by simp [setK]
theorem fnd_setK (L : List Kn) (x : Kn) (k : Int × Int) : fnd (setK L x) k = if x.k = k then (fnd L k).map (fun _ => x) else fnd L k := by
  induction L with
  | nil => simp [setK, fnd_nil]
  | cons y r ih =>
    have e : setK (y :: r) x = (if y.k = x.k then x else y) :: setK r x := rfl
    rw [e, fnd_cons, fnd_cons, ih]
    by_cases h1 : y.k = x.k
    · by_cases h2 : x.k = k
      · simp [h1, h2]
      · have h3 : ¬ y.k = k := fun e => h2 (h1.symm.trans e)
        simp [h1, h2]
    · by_cases h2 : x.k = k
      · have h3 : ¬ y.k = k := fun e => h1 (e.trans h2.symm)
        simp [h1, h2, h3]
      · have e1 : (if y.k = x.k then x else y) = y := if_neg h1
        rw [e1, if_neg h2, if_neg h2]

/-! ## the key's type -/
theorem laid30 : laidOutB Try.prog = true := by kernel_rfl
theorem law30 : Keyed Try.prog 30 := Keyed.of_law (deep_law_laid laid30 (m := 2) (by omega) (of_decide_eq_true (by kernel_rfl)) (by kernel_rfl) (by rw [Try.underlying30]))
theorem sizes1 : Try.prog.types.size = (Try.prog.types.size - 1) + 1 := by kernel_rfl
theorem keyT30 : Try.prog.keyType 30 = true := by kernel_rfl
theorem cells30 : Try.prog.cellsOf 30 = 2 := by kernel_rfl
theorem cells3 : Try.prog.cellsOf 3 = 1 := by kernel_rfl
/-- A key that fits. -/
def kwf (k : Int × Int) : Prop := (Lit.int .i64 k.1).wf = true ∧ (Lit.int .i64 k.2).wf = true
def klit (k : Int × Int) : Lit := .string (keyBytes [.int .i64 k.1, .int .i64 k.2])
theorem keyK {k : Int × Int} (h : kwf k) : keyOf Try.prog 30 (kV k) = some (klit k) := by
  have hsz := sizes1
  unfold keyOf
  simp only [Try.underlying30]
  rw [if_pos (by simp [keyT30, Value.formed, Try.underlying30, cells30, kV]), hsz]
  unfold Program.keyLits
  simp only [Try.underlying30, Value.cells, kV]
  rw [if_pos ⟨by rw [cells30]; rfl, by kernel_rfl⟩]
  have h1 := h.1
  have h2 := h.2
  simp only [List.mapM_cons, List.mapM_nil, cells3, Program.keyLits, Try.underlying3, List.drop_zero, List.drop_succ_cons, List.take_succ_cons, List.take_zero, h1, h2, and_self, if_true, and_true, Option.bind_eq_bind, Option.bind_some, Option.pure_def, Option.map_some, klit, List.flatten_cons, List.flatten_nil, List.append_nil, List.cons_append, List.nil_append]
theorem klit_inj {k l : Int × Int} (hk : kwf k) (hl : kwf l) (h : klit k = klit l) : k = l := by
  have := law30.inj (keyK hk) (h ▸ keyK hl)
  simp only [kV, Value.agg.injEq, Array.mk.injEq, List.cons.injEq, Value.int.injEq, true_and, and_true] at this
  exact Prod.ext this.1 this.2

/-! ## the element's type -/
def knR : Value → Option (DataW Unit × List MemPlace)
  | .agg ⟨[.int .i64 a, .int .i64 b, .int .i64 c]⟩ => some (.agg [.lit (.int .i64 a), .lit (.int .i64 b), .lit (.int .i64 c)], [])
  | _ => none
abbrev knV (x : Kn) : Value := .agg #[.int .i64 x.cls, .int .i64 x.pend, .int .i64 x.iss]
def knD (x : Kn) : DataW Unit := .agg [.lit (.int .i64 x.cls), .lit (.int .i64 x.pend), .lit (.int .i64 x.iss)]
theorem knR_mk (x : Kn) : knR (knV x) = some (knD x, []) := rfl
theorem knR_inv {v : Value} {x : Kn} {ps : List MemPlace} (h : knR v = some (knD x, ps)) : v = knV x := by
  unfold knR at h
  split at h
  · simp only [knD, Option.some.injEq, Prod.mk.injEq, DataW.agg.injEq, List.cons.injEq, DataW.lit.injEq, Lit.int.injEq, true_and, and_true] at h
    obtain ⟨⟨h1, h2, h3⟩, _⟩ := h
    simp [knV, h1, h2, h3]
  · cases h
theorem zero75 (w : World) : (zeroValue 75).run Try.prog w = .ok (knV ⟨(0, 0), 0, 0, 0⟩) w := by kernel_rfl

/-- Block b is a map that holds L. -/
def PMap (w : World) (b : Nat) (L : List Kn) : Prop :=
  (∀ x ∈ L, kwf x.k) ∧ (L.map Kn.k).Nodup ∧
  ∃ D : DataW Unit, w.ownsMap Try.prog 30 knR b L.length D ∧ Maps.size D = L.length ∧
    ∀ k, kwf k → (Maps.has D (klit k) = (fnd L k).isSome ∧ ∀ x, fnd L k = some x → ∀ z, D.atKey (klit k) z = knD x)
namespace PMap
variable {w w' : World} {b : Nat} {L : List Kn}
theorem lt (h : PMap w b L) : b < w.heap.size := by
  obtain ⟨_, _, D, h, _⟩ := h
  exact h.lt
theorem keep {S : Nat → Prop} (h : PMap w b L) (he : Ext S w w') (hs : ¬ S b) : PMap w' b L := by
  have hlt := h.lt
  obtain ⟨h0, h1, D, ⟨es, clock, hb, hF, hn, hD⟩, h2, h3⟩ := h
  exact ⟨h0, h1, D, ⟨es, clock, he.keep hb hs, hF, hn, hD⟩, h2, h3⟩
theorem new (h : PMap w b L) (he : New w w') : PMap w' b L := h.keep he (fun h => h)
theorem made (w : World) : PMap (w.alloc (.map #[] 0)) w.heap.size [] :=
  ⟨by simp, by simp, .map [], World.ownsMap_made _ _ _ _, rfl, fun k _ => ⟨by simp [Maps.has, fnd_nil], fun x h => by cases h⟩⟩
theorem zat {D : DataW Unit} {k : Lit} (h : Maps.has D k = false) (z : DataW Unit) : D.atKey k z = z := atKey_of_not_has h z
/-- 'm[k]' with ok. -/
theorem look (h : PMap w b L) {k : Int × Int} (hk : kwf k) : (Instr.lookup 65 (.map (some b)) (.agg #[.int .i64 k.1, .int .i64 k.2]) true).run Try.prog w = .ok (.tuple #[.agg #[.int .i64 (ofK L k).cls, .int .i64 (ofK L k).pend, .int .i64 (ofK L k).iss], .bool (fnd L k).isSome]) w := by
  obtain ⟨_, _, D, h1, h2, h3⟩ := h
  obtain ⟨v, ps, hrun, hv⟩ := h1.look_ok law30 Try.underlying65 (zero75 w) (knR_mk _) (keyK hk)
  obtain ⟨g1, g2⟩ := h3 k hk
  rw [hrun, g1]
  unfold ofK
  cases hf : fnd L k with
  | none =>
    rw [hf] at g1
    rw [zat g1] at hv
    rw [knR_inv hv]
    rfl
  | some x =>
    rw [g2 x hf] at hv
    rw [knR_inv hv]
    rfl
/-- 'm[k]'. -/
theorem get (h : PMap w b L) {k : Int × Int} (hk : kwf k) : (Instr.lookup 65 (.map (some b)) (.agg #[.int .i64 k.1, .int .i64 k.2]) false).run Try.prog w = .ok (.agg #[.int .i64 (ofK L k).cls, .int .i64 (ofK L k).pend, .int .i64 (ofK L k).iss]) w := by
  obtain ⟨_, _, D, h1, h2, h3⟩ := h
  obtain ⟨v, ps, hrun, hv⟩ := h1.lookup law30 Try.underlying65 (zero75 w) (knR_mk _) (keyK hk)
  obtain ⟨g1, g2⟩ := h3 k hk
  rw [hrun]
  unfold ofK
  cases hf : fnd L k with
  | none =>
    rw [hf] at g1
    rw [zat g1] at hv
    rw [knR_inv hv]
    rfl
  | some x =>
    rw [g2 x hf] at hv
    rw [knR_inv hv]
    rfl
theorem len (h : PMap w b L) (ty : TypeId) : (Builtin.len_ #[65] ty #[.map (some b)]).run Try.prog w = .ok (.int .i64 L.length) w := by
  obtain ⟨_, _, D, h1, h2, _⟩ := h
  rw [h1.len Try.underlying65 ty, h2]
theorem own_size {D : DataW Unit} {n : Nat} (h : w.ownsMap Try.prog 30 knR b n D) : w.ownsMap Try.prog 30 knR b (Maps.size D) D := by
  obtain ⟨es, clock, hb, F, hs, rfl⟩ := h
  refine ⟨es, clock, hb, F, ?_, rfl⟩
  simp [Maps.size, length_sorted]
theorem ext {D : DataW Unit} (hg : w.grownBy w' (some b)) : Ext (fun k => k = b) w w' := ⟨hg.os, hg.tape, hg.output, hg.size, fun k hk hs => hg.block k hk (fun e => hs (Option.some.inj e))⟩
/-- 'm[k] = x', k new. -/
theorem put (h : PMap w b L) (x : Kn) (hk : kwf x.k) (hx : fnd L x.k = none) (hl : L.length < 1000000) :
    ∃ w', (Instr.mapUpdate 65 (.map (some b)) (.agg #[.int .i64 x.k.1, .int .i64 x.k.2]) (.agg #[.int .i64 x.cls, .int .i64 x.pend, .int .i64 x.iss])).run Try.prog w = .ok () w' ∧ PMap w' b (L ++ [x]) ∧ Ext (fun k => k = b) w w' := by
  obtain ⟨h0, hnd, D, h1, h2, h3⟩ := h
  obtain ⟨w', hrun, ho, hg⟩ := h1.update law30 Try.underlying65 (by unfold maxLen; omega) (keyK hk) (knR_mk x)
  have hsz : Maps.size (D.put (klit x.k) (knD x)) = (L ++ [x]).length := by
    rw [size_put (h1.tidy law30), (h3 x.k hk).1, hx, h2]
    simp
  have ho' := own_size ho
  rw [hsz] at ho'
  refine ⟨w', hrun, ⟨?_, ?_, _, ho', hsz, fun k hk' => ?_⟩, ext (D := D) hg⟩
  · intro y hy
    rcases List.mem_append.1 hy with hy | hy
    · exact h0 y hy
    · rw [List.mem_singleton.1 hy]
      exact hk
  · rw [List.map_append, List.nodup_append]
    refine ⟨hnd, by simp, ?_⟩
    intro a ha c hc e
    simp only [List.map_cons, List.map_nil, List.mem_singleton] at hc
    subst hc
    obtain ⟨y, hy, rfl⟩ := List.mem_map.1 ha
    exact fnd_none.1 hx y hy e
  · rw [fnd_app, fnd_cons, fnd_nil]
    by_cases e : x.k = k
    · subst e
      rw [has_put_same h1.isMap (law30.key (keyK hk)), hx]
      refine ⟨by simp, fun y hy z => ?_⟩
      simp at hy
      subst hy
      exact atKey_put_same h1.isMap (law30.key (keyK hk)) _ z
    · have hne : klit k ≠ klit x.k := fun h => e (klit_inj hk' hk h).symm
      rw [has_put_other hne, (h3 k hk').1, if_neg e]
      refine ⟨by simp, fun y hy z => ?_⟩
      rw [atKey_put_other hne]
      exact (h3 k hk').2 y (by simpa using hy) z
/-- 'm[k] = x', k known. -/
theorem set (h : PMap w b L) (x : Kn) (hx : (fnd L x.k).isSome = true) (hl : L.length < 1000000) :
    ∃ w', (Instr.mapUpdate 65 (.map (some b)) (.agg #[.int .i64 x.k.1, .int .i64 x.k.2]) (.agg #[.int .i64 x.cls, .int .i64 x.pend, .int .i64 x.iss])).run Try.prog w = .ok () w' ∧ PMap w' b (setK L x) ∧ Ext (fun k => k = b) w w' := by
  obtain ⟨h0, hnd, D, h1, h2, h3⟩ := h
  have hk : kwf x.k := by
    obtain ⟨y, hy⟩ := Option.isSome_iff_exists.1 hx
    obtain ⟨hy1, hy2⟩ := fnd_mem hy
    rw [← hy2]
    exact h0 y hy1
  obtain ⟨w', hrun, ho, hg⟩ := h1.update law30 Try.underlying65 (by unfold maxLen; omega) (keyK hk) (knR_mk x)
  have hsz : Maps.size (D.put (klit x.k) (knD x)) = (setK L x).length := by
    rw [size_put (h1.tidy law30), (h3 x.k hk).1, hx, h2, setK_len]
    simp
  have ho' := own_size ho
  rw [hsz] at ho'
  refine ⟨w', hrun, ⟨?_, by rw [setK_keys]; exact hnd, _, ho', hsz, fun k hk' => ?_⟩, ext (D := D) hg⟩
  · intro y hy
    have hy' : y.k ∈ (setK L x).map Kn.k := List.mem_map_of_mem hy
    rw [setK_keys] at hy'
    obtain ⟨u, hu, e⟩ := List.mem_map.1 hy'
    rw [← e]
    exact h0 u hu
  · rw [fnd_setK]
    by_cases e : x.k = k
    · subst e
      rw [has_put_same h1.isMap (law30.key (keyK hk))]
      obtain ⟨y, hy⟩ := Option.isSome_iff_exists.1 hx
      rw [hy]
      refine ⟨by simp, fun u hu z => ?_⟩
      simp at hu
      subst hu
      exact atKey_put_same h1.isMap (law30.key (keyK hk)) _ z
    · have hne : klit k ≠ klit x.k := fun h => e (klit_inj hk' hk h).symm
      rw [has_put_other hne, (h3 k hk').1, if_neg e]
      refine ⟨rfl, fun y hy z => ?_⟩
      rw [atKey_put_other hne]
      exact (h3 k hk').2 y hy z
/-- 'delete(m, k)'. -/
theorem del (h : PMap w b L) {k : Int × Int} (hk : kwf k) {x : Kn} (hx : fnd L k = some x) (ty : TypeId) :
    ∃ w', (Builtin.delete_ #[65, 30] ty #[.map (some b), kV k]).run Try.prog w = .ok (.tuple #[]) w' ∧ PMap w' b (L.filter (fun y => decide (y.k ≠ k))) ∧ Ext (fun k => k = b) w w' := by
  obtain ⟨h0, hnd, D, h1, h2, h3⟩ := h
  obtain ⟨w', hrun, ho, ⟨es, clock, es', clock', hb, rfl⟩⟩ := h1.drop law30 Try.underlying65 (keyK hk) ty
  have hlen : (L.filter (fun y => decide (y.k ≠ k))).length + 1 = L.length := by
    clear h1 h2 h3 ho hrun h0
    induction L with
    | nil => cases hx
    | cons y r ih =>
      simp only [List.map_cons, List.nodup_cons] at hnd
      rw [fnd_cons] at hx
      by_cases e : y.k = k
      · rw [List.filter_cons_of_neg (by simp [e]), List.filter_eq_self.2, List.length_cons]
        intro u hu
        simp only [ne_eq, decide_eq_true_eq]
        intro e2
        exact hnd.1 (by rw [e, ← e2]; exact List.mem_map_of_mem hu)
      · rw [if_neg e] at hx
        rw [List.filter_cons_of_pos (by simp [e]), List.length_cons, List.length_cons, ih hx hnd.2]
  have hsz : Maps.size (D.del (klit k)) = (L.filter (fun y => decide (y.k ≠ k))).length := by
    have := size_del (k := klit k) (h1.tidy law30)
    rw [(h3 k hk).1, hx, h2] at this
    simp only [Option.isSome_some, if_true] at this
    omega
  have ho' := own_size ho
  rw [hsz] at ho'
  refine ⟨_, hrun, ⟨fun x hx => h0 x (List.mem_filter.1 hx).1, hnd.sublist (List.Sublist.map _ (List.filter_sublist)), _, ho', hsz, fun l hl => ?_⟩, ⟨rfl, rfl, rfl, by simp [ChangeMaps.setBlock], fun i _ hi => ChangeMaps.heap_setBlock_other hb _ (fun e => hi (by rw [e]))⟩⟩
  by_cases e : l = k
  · subst e
    have hn : fnd (L.filter (fun y => decide (y.k ≠ l))) l = none := fnd_none.2 (fun y hy => by simpa using (List.mem_filter.1 hy).2)
    rw [has_del_same, hn]
    exact ⟨rfl, fun x h => by cases h⟩
  · have hn : fnd (L.filter (fun y => decide (y.k ≠ k))) l = fnd L l := by
      unfold fnd
      rw [List.find?_filter]
      congr 1
      funext y
      by_cases e2 : y.k = l
      · simp [e2, e]
      · simp [e2]
    have hne : klit l ≠ klit k := fun h => e (klit_inj hl hk h)
    rw [has_del_other hne, hn, (h3 l hl).1]
    refine ⟨rfl, fun y hy z => ?_⟩
    rw [atKey_del_other hne]
    exact (h3 l hl).2 y hy z
end PMap
end Go.Proofs.Ytmonhhodbinagaa
