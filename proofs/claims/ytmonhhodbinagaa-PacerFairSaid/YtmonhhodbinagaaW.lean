/- Small facts: numbers in their ranges, cells of rows of numbers. Nothing of the program is claimed here. -/
import Derived.Test.YtmonhhodbinagaaB2
namespace Go.Proofs.Ytmonhhodbinagaa
open Go.RowKit

theorem wf_of_u8 {n : Int} (h : (Lit.int .u8 n).wf = true) : 0 ≤ n ∧ n ≤ 255 := by
  simp [Lit.wf, IntKind.min, IntKind.max, IntKind.signed, IntKind.bits] at h
  omega
theorem wf_of_u16 {n : Int} (h : (Lit.int .u16 n).wf = true) : 0 ≤ n ∧ n ≤ 65535 := by
  simp [Lit.wf, IntKind.min, IntKind.max, IntKind.signed, IntKind.bits] at h
  omega
theorem wf_of_u32 {n : Int} (h : (Lit.int .u32 n).wf = true) : 0 ≤ n ∧ n ≤ 4294967295 := by
  simp [Lit.wf, IntKind.min, IntKind.max, IntKind.signed, IntKind.bits] at h
  omega
theorem wf_of_u64 {n : Int} (h : (Lit.int .u64 n).wf = true) : 0 ≤ n ∧ n ≤ 18446744073709551615 := by
  simp [Lit.wf, IntKind.min, IntKind.max, IntKind.signed, IntKind.bits] at h
  omega
theorem wf_of_i64 {n : Int} (h : (Lit.int .i64 n).wf = true) : -9223372036854775808 ≤ n ∧ n ≤ 9223372036854775807 := by
  simp [Lit.wf, IntKind.min, IntKind.max, IntKind.signed, IntKind.bits] at h
  omega
theorem Rd.celln {w : World} {k : IntKind} {ad : Addr} {n c : Nat} {l : List Int} (h : Rd w 1 (Option.some ad) n c (l.map (Value.int k))) {i : Nat} {x : Int} (hx : l[i]? = Option.some x) : w.cell? (ad.add i) = Option.some (.int k x) :=
  h.cell ad rfl i _ (by rw [List.getElem?_map, hx]; rfl)
theorem Rd.lenn {w : World} {k : IntKind} {A : Option Addr} {n c : Nat} {l : List Int} (h : Rd w 1 A n c (l.map (Value.int k))) : l.length = n := by
  have := h.len
  simpa using this
end Go.Proofs.Ytmonhhodbinagaa
