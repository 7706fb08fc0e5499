/- Rows of bytes: small facts at this program's types. -/
import Derived.Test.YtkcdpnmdhmihaaaProg
import Derived.Test.YtkcdpnmdhmihaaaB2
namespace Go.Proofs.Ytkcdpnmdhmihaaa
open Go.RowKit
set_option maxRecDepth 100000

theorem info_u8 : (Try.prog.info? 5).map (fun i => (i.zero, i.size, i.bytes)) = some (some (.int .u8 0), 1, 1) := by kernel_rfl
theorem size_u8 : (Try.prog.info? 5).map (fun i => i.size) = some 1 := by kernel_rfl
def isB (l : List Int) : Prop := ∀ x ∈ l, 0 ≤ x ∧ x < 256
theorem isB.nil : isB [] := fun _ h => by cases h
theorem isB.take {l : List Int} (h : isB l) (k : Nat) : isB (l.take k) := fun x hx => h x (List.mem_of_mem_take hx)
theorem isB.drop {l : List Int} (h : isB l) (k : Nat) : isB (l.drop k) := fun x hx => h x (List.mem_of_mem_drop hx)
theorem isB.get {l : List Int} (h : isB l) {k : Nat} {x : Int} (hx : l[k]? = some x) : 0 ≤ x ∧ x < 256 := h x (List.mem_of_getElem? hx)
theorem isB.getD {l : List Int} (hl : isB l) (k : Nat) : 0 ≤ l.getD k 0 ∧ l.getD k 0 < 256 := by
  by_cases h : k < l.length
  · have := hl (l[k]) (by simp)
    simpa [List.getD_eq_getElem?_getD, List.getElem?_eq_getElem h] using this
  · simp [List.getD_eq_getElem?_getD, List.getElem?_eq_none (show l.length ≤ k by omega)]
theorem isB.append {l m : List Int} (h : isB l) (k : isB m) : isB (l ++ m) := fun x hx => (List.mem_append.1 hx).elim (h x) (k x)
theorem Rd.blen {w : World} {A : Option Addr} {n c : Nat} {l : List Int} (h : Rd w 1 A n c (bts l)) : l.length = n := by
  have := h.len
  rw [bts_length] at this
  omega
theorem Rd.bcell {w : World} {ad : Addr} {n c : Nat} {l : List Int} (h : Rd w 1 (Option.some ad) n c (bts l)) {k : Nat} {x : Int} (hx : l[k]? = Option.some x) : w.cell? (ad.add k) = Option.some (Value.int .u8 x) :=
  h.cell ad rfl k _ (by rw [bts, List.getElem?_map, hx]; rfl)
theorem Rd.btake {w : World} {A : Option Addr} {n c : Nat} {l : List Int} (h : Rd w 1 A n c (bts l)) (k : Nat) (hk : k ≤ n) : Rd w 1 A k c (bts (l.take k)) := by
  have := h.take k hk
  rwa [Nat.mul_one, bts_take] at this
theorem Rd.bdrop {w : World} {A : Option Addr} {n c : Nat} {l : List Int} (h : Rd w 1 A n c (bts l)) (k : Nat) (hk : k ≤ n) : Rd w 1 (sl A c k 1) (n - k) (c - k) (bts (l.drop k)) := by
  have := h.drop k hk
  rwa [Nat.mul_one, bts_drop] at this
section
variable {ops : Array Oper} {rest : List Oper} {o : Oper} {a : Act} {Q : Exit → Act → World → Prop} {w : World}
theorem app_u8 (hgd : o.guard = none) (s x : Operand) (ho : o.op = .call { callee := .builtin .append, args := #[s, x], argTypes := #[23, 23] })
    (base : Nat) {A B : Option Addr} {n c m d : Nat} {xs ys : List Value} (hs : a.eval s = .slice A n c) (hx : a.eval x = .slice B m d) (hown : Own w base 5 1 A n c xs) (hr : Rd w 1 B m d ys) (hbytes : n + m ≤ 140737488355328) (hbase : base ≤ w.heap.size)
    (h : ∀ A' c' w', Own w' base 5 1 A' (n + m) c' (xs ++ ys) → Ext (inA A) w w' → (A' = A ∨ A' = some ⟨w.heap.size, 0, none⟩) → wpList Try.prog ops Q rest (a.put o.dst (.slice A' (n + m) c')) w') :
    wpList Try.prog ops Q (o :: rest) a w :=
  wpList_app hgd s x _ ho base 5 (.int .u8 0) 1 1 Try.underlying23 info_u8 rfl (by decide) (by decide) hs hx hown hr (by omega) hbase h
end
def Str (W : World) (A : Option Addr) (n c : Nat) (l : List Int) : Prop := (convert 23 9 (.slice A n c)).run Try.prog W = .ok (.string (strOfNums l)) W
theorem Str.of {W : World} {A : Option Addr} {n c : Nat} {l : List Int} (h : Rd W 1 A n c (bts l)) : Str W A n c l := run_str 23 5 9 Try.underlying23 Try.underlying5 Try.underlying9 h
end Go.Proofs.Ytkcdpnmdhmihaaa
