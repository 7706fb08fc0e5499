/- Plain: a pacer that forgot a key is well; what calls tell, by one function each. -/
import Derived.Test.YtmonhhodbinagaaK38
import Derived.Test.YtmonhhodbinagaaK37
import Derived.Test.YtmonhhodbinagaaK30
import Derived.Test.YtmonhhodbinagaaK24a
import Derived.Test.YtmonhhodbinagaaK24b
namespace Go.Proofs.Ytmonhhodbinagaa
open Go.RowKit Go.Maps
set_option maxRecDepth 100000

theorem mem_noK {L : List Kn} {k : Int × Int} {x : Kn} : x ∈ noK L k ↔ x ∈ L ∧ x.k ≠ k := by
  unfold noK
  rw [List.mem_filter]
  simp
theorem mem_noQ {l : List (Int × Int)} {k j : Int × Int} : j ∈ noQ l k ↔ j ∈ l ∧ j ≠ k := by
  unfold noQ
  rw [List.mem_filter]
  simp
theorem noQ_none {l : List (Int × Int)} {k : Int × Int} (h : k ∉ l) : noQ l k = l := by
  unfold noQ
  exact List.filter_eq_self.2 (fun y hy => decide_eq_true (fun e => h (e ▸ hy)))
theorem PS.Wf.forget {s : PS} (h : s.Wf) (k : Int × Int) : (forgetS s k).Wf where
  nd := h.nd.sublist ((List.filter_sublist).map _)
  may := fun x hx => h.may x (mem_noK.1 hx).1
  cls := fun x hx => h.cls x (mem_noK.1 hx).1
  p0 := fun x hx => h.p0 x (mem_noK.1 hx).1
  p1 := fun x hx => h.p1 x (mem_noK.1 hx).1
  i0 := fun x hx => h.i0 x (mem_noK.1 hx).1
  i1 := fun x hx => h.i1 x (mem_noK.1 hx).1
  und := fun c => (h.und c).sublist List.filter_sublist
  uin := fun c j => by
    show j ∈ noQ (s.u c) k ↔ _
    rw [mem_noQ, h.uin c j]
    constructor
    · rintro ⟨⟨x, hx, e1, e2, e3⟩, hne⟩
      exact ⟨x, mem_noK.2 ⟨hx, by rw [e1]; exact hne⟩, e1, e2, e3⟩
    · rintro ⟨x, hx, e1, e2, e3⟩
      obtain ⟨hx, hne⟩ := mem_noK.1 hx
      exact ⟨⟨x, hx, e1, e2, e3⟩, by rw [← e1]; exact hne⟩
  m1 := by
    have h1 := h.m1
    have h2 : (noK s.L k).length ≤ s.L.length := List.length_filter_le _ _
    show ((noK s.L k).length : Int) ≤ s.most
    omega
  m2 := h.m2
  r0 := h.r0
  r1 := h.r1
  t0 := h.t0
theorem forget_same {s : PS} (h : s.Wf) {x : Kn} (hx : x ∈ s.L) {c : Nat} (hc : x.cls = (c : Int)) : { s with u := upd s.u c (noQ (s.u c) x.k), L := noK s.L x.k } = forgetS s x.k := by
  unfold forgetS
  congr 1
  funext d
  by_cases e : d = c
  · subst e
    rw [upd_same]
  · rw [upd_other _ _ e, noQ_none]
    intro hh
    obtain ⟨y, hy, e1, e2, _⟩ := (h.uin d x.k).1 hh
    have := one_of h.nd hy hx e1
    subst this
    omega
/-- What any call leaves. -/
def Res (w w' : World) (p : Nat) (s' : PS) (T : Nat → Prop) : Prop := Pstep w w' p s' T ∧ s'.Wf
section
variable {w : World} {p : Nat} {s s' : PS} {T : Nat → Prop}
theorem Pq.stay {w' : World} (h : Pq w p s T) (hn : New w w') : Pstep w w' p s T := ⟨T, h.new hn, hn.to, fun _ hk => .inl hk⟩
theorem know_any (h : Pq w p s T) (hw : s.Wf) (k : Int × Int) (c : Int) (er : Int) (hr : knowR s k c = (s', er)) :
    Calls Try.prog 10 #[.pointer (some ⟨p, 0, none⟩), kV k, .int .i64 c] w fun e w' => e = .returned (.int .i64 er) ∧ Res w w' p s' T := by
  unfold knowR at hr
  by_cases h1 : may k ∧ (c = 0 ∨ c = 1)
  rotate_left
  · rw [if_pos h1] at hr
    obtain ⟨rfl, rfl⟩ : s = s' ∧ (1 : Int) = er := ⟨congrArg Prod.fst hr, congrArg Prod.snd hr⟩
    refine (know_arg h k c h1).mono ?_
    rintro e w' ⟨rfl, hn⟩
    exact ⟨rfl, h.stay hn, hw⟩
  rw [if_neg (fun hh => hh h1)] at hr
  by_cases h2 : (fnd s.L k).isSome = true
  · rw [if_pos h2] at hr
    obtain ⟨rfl, rfl⟩ : s = s' ∧ (180 : Int) = er := ⟨congrArg Prod.fst hr, congrArg Prod.snd hr⟩
    refine (know_is h k c h1.1 h1.2 h2).mono ?_
    rintro e w' ⟨rfl, hn⟩
    exact ⟨rfl, h.stay hn, hw⟩
  rw [if_neg h2] at hr
  have hx : (fnd s.L k).isSome = false := by simpa using h2
  by_cases h3 : s.most ≤ s.L.length
  · rw [if_pos h3] at hr
    obtain ⟨rfl, rfl⟩ : s = s' ∧ (3 : Int) = er := ⟨congrArg Prod.fst hr, congrArg Prod.snd hr⟩
    refine (know_full h k c h1.1 h1.2 hx h3).mono ?_
    rintro e w' ⟨rfl, hn⟩
    exact ⟨rfl, h.stay hn, hw⟩
  rw [if_neg h3] at hr
  obtain ⟨rfl, rfl⟩ : knowS s k c = s' ∧ (0 : Int) = er := ⟨congrArg Prod.fst hr, congrArg Prod.snd hr⟩
  have hn : fnd s.L k = none := by simpa using hx
  refine (know_p h k c h1.1 h1.2 hn (by omega) (by have := hw.m1; have := hw.m2; omega)).mono ?_
  rintro e w' ⟨rfl, hs⟩
  exact ⟨rfl, hs, hw.know h1.1 h1.2 hn (by omega)⟩
theorem owe_any (h : Pq w p s T) (hw : s.Wf) (k : Int × Int) (hk : kwf k) (n : Int) (er : Int) (hr : oweR s k n = (s', er)) :
    Calls Try.prog 11 #[.pointer (some ⟨p, 0, none⟩), kV k, .int .i64 n] w fun e w' => e = .returned (.int .i64 er) ∧ Res w w' p s' T := by
  unfold oweR at hr
  cases hf : fnd s.L k with
  | none =>
    rw [hf] at hr
    obtain ⟨rfl, rfl⟩ : s = s' ∧ (7 : Int) = er := ⟨congrArg Prod.fst hr, congrArg Prod.snd hr⟩
    refine (owe_no h k n hk (by rw [hf]; rfl)).mono ?_
    rintro e w' ⟨rfl, hn⟩
    exact ⟨rfl, h.stay hn, hw⟩
  | some x =>
    rw [hf] at hr
    dsimp only at hr
    obtain ⟨hm, hxk⟩ := fnd_mem hf
    have hof : ofK s.L k = x := by simp [ofK, hf]
    by_cases h1 : n < 1
    · rw [if_pos h1] at hr
      obtain ⟨rfl, rfl⟩ : s = s' ∧ (1 : Int) = er := ⟨congrArg Prod.fst hr, congrArg Prod.snd hr⟩
      refine (owe_arg h k n hk (by rw [hf]; rfl) h1).mono ?_
      rintro e w' ⟨rfl, hn⟩
      exact ⟨rfl, h.stay hn, hw⟩
    rw [if_neg h1] at hr
    by_cases h2 : 1152921504606846976 - x.pend < n
    · rw [if_pos h2] at hr
      obtain ⟨rfl, rfl⟩ : s = s' ∧ (5 : Int) = er := ⟨congrArg Prod.fst hr, congrArg Prod.snd hr⟩
      refine (owe_far h k n hk (by rw [hf]; rfl) (by omega) (by rw [hof]; exact h2) (by rw [hof]; exact hw.p0 x hm) (by rw [hof]; exact hw.p1 x hm)).mono ?_
      rintro e w' ⟨rfl, hn⟩
      exact ⟨rfl, h.stay hn, hw⟩
    rw [if_neg h2] at hr
    obtain ⟨rfl, rfl⟩ : oweS s x n = s' ∧ (0 : Int) = er := ⟨congrArg Prod.fst hr, congrArg Prod.snd hr⟩
    subst hxk
    refine (owe_w h hw n x hm (by omega) (by omega)).mono ?_
    rintro e w' ⟨rfl, hs⟩
    exact ⟨rfl, hs, hw.owe hm (by omega) (by omega)⟩
theorem forget_any (h : Pq w p s T) (hw : s.Wf) (k : Int × Int) (hk : kwf k) (m : Int) (b : Bool) (hr : forgetR s k = (s', m, b)) :
    Calls Try.prog 18 #[.pointer (some ⟨p, 0, none⟩), kV k] w fun e w' => e = .returned (.tuple #[.int .i64 m, .bool b]) ∧ Res w w' p s' T := by
  unfold forgetR at hr
  cases hf : fnd s.L k with
  | none =>
    rw [hf] at hr
    obtain ⟨rfl, rfl, rfl⟩ : s = s' ∧ (0 : Int) = m ∧ false = b := ⟨congrArg Prod.fst hr, congrArg (fun u => u.2.1) hr, congrArg (fun u => u.2.2) hr⟩
    refine (forget_no h k hk (by rw [hf]; rfl)).mono ?_
    rintro e w' ⟨rfl, hn⟩
    exact ⟨rfl, h.stay hn, hw⟩
  | some x =>
    rw [hf] at hr
    obtain ⟨rfl, rfl, rfl⟩ : forgetS s k = s' ∧ x.pend = m ∧ true = b := ⟨congrArg Prod.fst hr, congrArg (fun u => u.2.1) hr, congrArg (fun u => u.2.2) hr⟩
    obtain ⟨hm, hxk⟩ := fnd_mem hf
    subst hxk
    rcases hw.cls x hm with hc | hc
    · refine (forget_p0 h x.k x hk hf hc).mono ?_
      rintro e w' ⟨rfl, hs⟩
      rw [forget_same hw hm (c := 0) hc] at hs
      exact ⟨rfl, hs, hw.forget _⟩
    · refine (forget_p1 h x.k x hk hf hc).mono ?_
      rintro e w' ⟨rfl, hs⟩
      rw [forget_same hw hm (c := 1) hc] at hs
      exact ⟨rfl, hs, hw.forget _⟩
end
end Go.Proofs.Ytmonhhodbinagaa
