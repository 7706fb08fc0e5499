/- Walks: Adler's sum of two parts; a packet's first bytes. -/
import Derived.Test.YtdgleplmmbkgfaaV6
import Derived.Test.YtdgleplmmbkgfaaV5
namespace Go.Proofs.Ytdgleplmmbkgfaa
open Go.RowKit
set_option maxRecDepth 100000

def ad2 (l k : List Int) : Int := adsum (adf (adf (1, 0) l) k)
theorem ad_one : adok (1, 0) := by unfold adok; decide
theorem ad2_b (l k : List Int) : 0 ≤ ad2 l k ∧ ad2 l k ≤ 4294967295 := by
  obtain ⟨h1, h2, h3, h4⟩ := adf_ok (adf_ok ad_one l) k
  unfold ad2 adsum
  omega
set_option maxHeartbeats 800000 in
theorem adler_two (X : Nat) (A B : Option Addr) (n c m d : Nat) (l k : List Int) (w : World) (hx : Rd w 1 (some ⟨X, 0, none⟩) 2 2 [.slice A n c, .slice B m d]) (hl : Rd w 1 A n c (bts l)) (hk : Rd w 1 B m d (bts k)) (bl : isB l) (bk : isB k) :
    Calls Try.prog 24 #[.slice (some ⟨X, 0, none⟩) 2 2] w fun e w' => e = .returned (.int .u32 (ad2 l k)) ∧ New w w' := by
  have hn1 := New.alloc1 w (.cells #[.int .u32 1, .int .u32 0] 68)
  have hb1 := blk_new w (.cells #[.int .u32 1, .int .u32 0] 68)
  have hA : ∀ j, inA A j → n = 0 ∨ j < w.heap.size := fun j hj => by
    by_cases h0 : n = 0
    · exact .inl h0
    · exact .inr (hl.lt (by omega) (by omega) hj)
  go_enter Try.func24, Try.ntmps24
  go_wp2_with fail
  obtain ⟨q, hq⟩ : ∃ q, q = w.heap.size := ⟨_, rfl⟩
  obtain ⟨w1, hw1⟩ : ∃ w1, w1 = w.alloc (.cells #[.int .u32 1, .int .u32 0] 68) := ⟨_, rfl⟩
  rw [← hq, ← hw1] at hb1
  rw [← hw1] at hn1
  rw [← hq, ← hw1]
  have HQ := hide hq
  clear hq hw1
  go_loopw [9] (fun s9 wr => Ext (fun j => j = q) w1 wr ∧ ((s9 = .int .i64 0 ∧ wr.heap[q]? = some (.cells #[.int .u32 1, .int .u32 0] 68)) ∨ (s9 = .int .i64 1 ∧ wr.heap[q]? = some (.cells #[.int .u32 (adf (1, 0) l).1, .int .u32 (adf (1, 0) l).2] 68)) ∨ (s9 = .int .i64 2 ∧ wr.heap[q]? = some (.cells #[.int .u32 (adf (adf (1, 0) l) k).1, .int .u32 (adf (adf (1, 0) l) k).2] 68)))) (fun a _ => 2 - (intOf a).toNat)
  case atStart => exact ⟨Ext.refl _ _, .inl ⟨rfl, hb1⟩⟩
  case round =>
    obtain ⟨he, hcase⟩ := hrel
    have hrx : ∀ {sz n c : Nat} {A : Option Addr} {xs : List Value}, Rd w sz A n c xs → 0 < sz → Rd wr sz A n c xs := fun {sz n c A xs} h hz => by
      by_cases h0 : n = 0
      · have h1 := h.new hn1
        exact ⟨h1.len, h1.cap, h1.top, h1.none_, h1.one, fun ad e j u hu => by
          have := h1.len
          rw [h0, Nat.zero_mul] at this
          rw [List.eq_nil_of_length_eq_zero this] at hu
          cases hu⟩
      · exact (h.new hn1).keep he (fun j hj e => by have := h.lt (by omega) hz hj; have := HQ.out; omega)
    have hxr := hrx hx (by omega)
    rcases hcase with ⟨rfl, hb⟩ | ⟨rfl, hb⟩ | ⟨rfl, hb⟩
    · have x0 : wr.cell? ⟨X, 0, none⟩ = some (.slice A n c) := by have := hxr.cell _ rfl 0 (.slice A n c) rfl; rwa [add_at] at this
      go_wp2_with fail
      refine (add_any q 1 0 A n c l _ hb ad_one (hrx hl (by omega)) bl ((Nat.eq_zero_or_pos n).imp id (fun h0 j hj => by have := hl.lt h0 (by omega) hj; have := HQ.out; omega))).mono ?_
      rintro e w2 ⟨rfl, hb2, he2⟩
      go_wp2_with fail
      exact ⟨⟨he.trans he2 (fun _ _ h => h), .inr (.inl ⟨rfl, hb2⟩)⟩, by simp [intOf]⟩
    · have x1 : wr.cell? ⟨X, 1, none⟩ = some (.slice B m d) := by have := hxr.cell _ rfl 1 (.slice B m d) rfl; rwa [add_at] at this
      go_wp2_with fail
      refine (add_any q _ _ B m d k _ hb (adf_ok ad_one l) (hrx hk (by omega)) bk ((Nat.eq_zero_or_pos m).imp id (fun h0 j hj => by have := hk.lt h0 (by omega) hj; have := HQ.out; omega))).mono ?_
      rintro e w2 ⟨rfl, hb2, he2⟩
      go_wp2_with fail
      exact ⟨⟨he.trans he2 (fun _ _ h => h), .inr (.inr ⟨rfl, hb2⟩)⟩, by simp [intOf]⟩
    · go_wp2_with fail
      refine (sum_any q _ _ _ hb (adf_ok (adf_ok ad_one l) k)).mono ?_
      rintro e w2 ⟨rfl, hn2⟩
      go_wp2_with fail
      go_ret
      exact ⟨rfl, (hn1.trans he (fun j hj e => by have := HQ.out; omega)).trans hn2 (fun _ _ h => h)⟩
end Go.Proofs.Ytdgleplmmbkgfaa
