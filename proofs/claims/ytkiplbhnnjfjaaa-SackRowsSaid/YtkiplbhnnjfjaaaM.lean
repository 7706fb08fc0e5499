/- A region whose order is drawn, and that holds calls: what only reads is taken first, wherever it may come up; the calls in their one order. Nothing of the program is claimed here. -/
import Derived.Test.YtkiplbhnnjfjaaaB
import Derived.OrdersHeld
import Derived.Deep.Quiet
import Derived.Deep.RegionHeld3
namespace Go.Proofs.Ytkiplbhnnjfjaaa
set_option linter.unusedVariables false
set_option linter.unusedSimpArgs false
open Go.RowKit

/-- A world that is w but for the blocks that F names, and for new blocks. -/
structure Lat (F : Nat → Prop) (w : World) where
  W : World
  ext : Ext F w W
def Lat.at_ {F : Nat → Prop} {w W : World} (h : Ext F w W) : Lat F w := ⟨W, h⟩

instance lat_nonempty (F : Nat → Prop) (w : World) : Nonempty (Lat F w) := ⟨⟨w, Ext.refl _ _⟩⟩

/-- An operation that yields a value or dies, and enters no Go function. -/
def plainOp : Op → Bool
  | .move _ | .assign _ | .pick .. | .load .. | .binOp .. | .unOp .. | .convert .. | .slice .. | .fieldAddr .. | .field .. | .indexAddr .. | .index .. | .extract .. | .makeInterface .. | .lookup .. | .nilCheck _ | .build .. => true
  | .call { callee := .builtin b, .. } => match b with | .len | .cap | .min | .max => true | _ => false
  | _ => false

section
variable {P : Program} {ops : Array Oper} {md : Region.Mode} {C : World → Prop}

theorem run_valued (s : Sem Value) (w : World) : ((do pure (Next.value (← s)) : Sem Next)).run P w = match s.run P w with | .ok x w' => .ok (.value x) w' | .halt h w' => .halt h w' := by
  rw [Sem.run_bind]
  cases s.run P w <;> rfl
theorem valued_upon {s : Sem Value} {w : World} {v : Value} (h : Oper.quietUpon P C w v (((do pure (Next.value (← s)) : Sem Next)).run P w)) : ((do pure (Next.value (← s)) : Sem Next)).run P w = .ok (.value v) w := by
  rw [run_valued] at *
  cases hs : s.run P w with
  | ok x w' =>
    rw [hs] at h
    obtain ⟨rfl, rfl⟩ := h
    rfl
  | halt x w' => rw [hs] at h; exact h.elim

theorem plain_value {o : Oper} {a : Act} {w : World} {v : Value} (hp : plainOp o.op = true) (h : o.quietAt P a C w v) : (execOp a.eval o).run P w = .ok (.value v) w := by
  unfold Oper.quietAt at h
  unfold execOp at *
  generalize o.op = op at *
  cases op <;> first | (simp [plainOp] at hp; done) | exact valued_upon h | skip
  case move x => obtain ⟨_, rfl⟩ := h; rfl
  case assign x => obtain ⟨_, rfl⟩ := h; rfl
  case pick c x y =>
    dsimp only at *
    rw [Sem.run_bind] at *
    cases hs : (asBool (a.eval c)).run P w with
    | ok x w' => rw [hs] at h; simp only [Result.andThen_ok, Sem.run_pure] at *; obtain ⟨rfl, rfl⟩ := h; rfl
    | halt x w' => rw [hs] at h; exact h.elim
  case nilCheck x =>
    dsimp only at *
    split at h
    · exact absurd h (by simp [runtimePanic, Oper.quietUpon])
    · exact absurd h (by simp [runtimePanic, Oper.quietUpon])
    · exact absurd h (by simp [runtimePanic, Oper.quietUpon])
    · split at h
      · exact absurd h (by simp [runtimePanic, Oper.quietUpon])
      · rename_i t u hu
        rw [Sem.run_bind] at *
        cases hq : (program : Sem Program).run P w with
        | halt x w' => rw [hq] at h; exact h.elim
        | ok p w1 =>
          rw [hq] at h
          simp only [Result.andThen_ok] at *
          rw [Sem.run_bind] at *
          cases hs : (nilAhead (p.types.size + Made.depth) t u ‹String›).run P w1 with
          | halt x w' => rw [hs] at h; exact h.elim
          | ok y w2 =>
            rw [hs] at h
            simp only [Result.andThen_ok] at *
            split at h
            · exact absurd h (by simp [unsupported, Oper.quietUpon])
            · rename_i hc
              rw [if_neg hc]
              obtain ⟨rfl, rfl⟩ := h
              rfl
      · rename_i h1 h2
        obtain ⟨_, rfl⟩ := h
        rfl
    · obtain ⟨_, rfl⟩ := h; rfl
  case call c =>
    obtain ⟨callee, args, argTypes⟩ := c
    cases callee <;> first | (simp [plainOp] at hp; done) | skip
    rename_i b
    cases b <;> first | (simp [plainOp] at hp; done) | skip
    all_goals (dsimp only [resolve, invoke, builtin] at *; rw [Sem.run_bind] at *; exact valued_upon h)
end

/-- The operations of these numbers. -/
def pickOps (ops : Array Oper) : List Nat → List Oper
  | [] => []
  | i :: r => ops.toList.getD i default :: pickOps ops r
/-- Each of these, one behind the other, may come up and be taken first. -/
def batchB (md : Region.Mode) (ops : Array Oper) : List Nat → Array Bool → Bool
  | [], _ => true
  | i :: r, listed => decide (i < ops.size) && (Region.ready md ops listed).contains i && Region.free md ops listed i && plainOp (ops.toList.getD i default).op && batchB md ops r (listed.setIfInBounds i true)
def listedOf : List Nat → Array Bool → Array Bool
  | [], listed => listed
  | i :: r, listed => listedOf r (listed.setIfInBounds i true)

section
variable {P : Program} {ops : Array Oper} {md : Region.Mode} {Q : Exit → Act → World → Prop} {S S' : World → Prop}

theorem mix_mono (h : ∀ w, S' w → S w) : ∀ (fuel : Nat) (listed : Array Bool) (a : Act) (w : World), wpAnyH P md ops Q S' fuel listed a w → wpAnyH P md ops Q S fuel listed a w
  | 0, _, _, _, hh => hh
  | fuel + 1, _, _, _, hh => ⟨hh.1, fun i hi => wpOp_mono (fun a' w' h' => ⟨h _ h'.1, mix_mono h fuel _ a' w' h'.2⟩) (hh.2 i hi)⟩

theorem quiet_yields {o : Oper} {a : Act} {K : Act → Prop} (hp : plainOp o.op = true) (h : if Region.wanted o (yielded ops a.tmps) then o.quiet P a S K else K (a.put o.dst undef)) : ∃ v, YieldsIf P ops S o v a ∧ K (a.put o.dst v) := by
  split at h
  · rename_i hw
    obtain ⟨v, h1, h2⟩ := h
    exact ⟨v, .inl ⟨hw, fun w hS => plain_value hp (h1 w hS)⟩, h2⟩
  · rename_i hw
    exact ⟨undef, .inr ⟨by simpa using hw, rfl⟩, h⟩

/-- What only reads is taken first, one behind the other. -/
theorem mix_batch (idx : List Nat) (hs : Region.noSelect ops = true) :
    ∀ (fuel : Nat) (listed : Array Bool) (a : Act) (w : World), batchB md ops idx listed = true → S w →
      wpQuiet P ops S (fun a' => wpAnyH P md ops (NoPanic Q) S fuel (listedOf idx listed) a' w) (pickOps ops idx) a → wpAnyH P md ops (NoPanic Q) S (fuel + idx.length) listed a w := by
  induction idx with
  | nil => intro fuel listed a w _ _ h; exact h
  | cons i r ih =>
    intro fuel listed a w hb hS h
    simp only [batchB, Bool.and_eq_true, decide_eq_true_eq] at hb
    obtain ⟨⟨⟨⟨hi, hr⟩, hf⟩, hp⟩, hb'⟩ := hb
    have ho : ops[i]? = some (ops.toList.getD i default) := by rw [← Array.getElem?_toList, List.getD_eq_getElem?_getD, List.getElem?_eq_getElem (by simpa using hi)]; rfl
    obtain ⟨v, hy, hK⟩ := quiet_yields hp h
    rw [List.length_cons, ← Nat.add_assoc]
    exact wpAnyH_take ho hs hf hr (fun _ _ _ h => h) hy hS (ih fuel _ _ w hb' hS hK)

/-- The one operation that may come up now is carried out. -/
theorem mix_loud {i : Nat} {o : Oper} {fuel : Nat} {listed : Array Bool} {a : Act} {w : World} (hr : Region.ready md ops listed = [i]) (ho : ops[i]? = some o)
    (h : ∀ K' : Act → World → Prop, Shut (∀ a w, S w → wpAnyH P md ops Q S fuel (listed.setIfInBounds i true) a w → K' a w) → if Region.wanted o (yielded ops a.tmps) = true then Oper.wp P o a w K' Q else K' (a.put o.dst undef) w) :
    wpAnyH P md ops Q S (fuel + 1) listed a w := by
  refine wpAnyH_all hr (by simp) (fun j hj => ?_)
  obtain rfl := List.mem_singleton.1 hj
  exact wpOp_step ho (fun K' hK => h K' (fun a w hS hW => hK a w ⟨hS, hW⟩))

/-- One of two operations that may come up now. -/
theorem mix_two {i j : Nat} {oi oj : Oper} {fuel : Nat} {listed : Array Bool} {a : Act} {w : World} (hr : Region.ready md ops listed = [i, j]) (hoi : ops[i]? = some oi) (hoj : ops[j]? = some oj)
    (h1 : ∀ K' : Act → World → Prop, Shut (∀ a w, S w → wpAnyH P md ops Q S fuel (listed.setIfInBounds i true) a w → K' a w) → if Region.wanted oi (yielded ops a.tmps) = true then Oper.wp P oi a w K' Q else K' (a.put oi.dst undef) w)
    (h2 : ∀ K' : Act → World → Prop, Shut (∀ a w, S w → wpAnyH P md ops Q S fuel (listed.setIfInBounds j true) a w → K' a w) → if Region.wanted oj (yielded ops a.tmps) = true then Oper.wp P oj a w K' Q else K' (a.put oj.dst undef) w) :
    wpAnyH P md ops Q S (fuel + 1) listed a w := by
  refine wpAnyH_all hr (by simp) (fun k hk => ?_)
  rcases List.mem_cons.1 hk with rfl | hk
  · exact wpOp_step hoi (fun K' hK => h1 K' (fun a w hS hW => hK a w ⟨hS, hW⟩))
  · obtain rfl := List.mem_singleton.1 hk
    exact wpOp_step hoj (fun K' hK => h2 K' (fun a w hS hW => hK a w ⟨hS, hW⟩))

/-- The beginning. -/
theorem mix_start {id : Nat} {a : Act} {w : World} (F : Nat → Prop) (w0 : World) (hm : P.follows .mixedOrders = true)
    (h : wpAnyH P .any ops (NoPanic Q) (fun W => ∃ x : Lat F w0, W = x.W) ops.size (Array.replicate ops.size false) a w.drew) : (Code.region id ops true).wp P Q a w :=
  wp_region_noPanic (wp_region_held hm h)
/-- Behind a call: from the new world on. -/
theorem mix_next {F F' : Nat → Prop} {w0 w1 : World} (he : Ext F w0 w1) (hF : ∀ k, k < w0.heap.size → F' k → F k) {fuel : Nat} {listed : Array Bool} {a : Act} {w : World}
    (h : wpAnyH P md ops Q (fun W => ∃ x : Lat F' w1, W = x.W) fuel listed a w) : wpAnyH P md ops Q (fun W => ∃ x : Lat F w0, W = x.W) fuel listed a w :=
  mix_mono (fun W hW => by
    obtain ⟨x, rfl⟩ := hW
    exact ⟨⟨x.W, he.trans x.ext hF⟩, rfl⟩) fuel listed a w h
theorem lat_mem {F : Nat → Prop} {w0 W : World} (h : Ext F w0 W) : ∃ x : Lat F w0, W = x.W := ⟨⟨W, h⟩, rfl⟩
end
end Go.Proofs.Ytkiplbhnnjfjaaa
