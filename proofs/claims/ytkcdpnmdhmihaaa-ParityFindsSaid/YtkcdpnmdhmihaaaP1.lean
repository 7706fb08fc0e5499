/- Plain words on pieces of bytes: lengths, bytes that stand at a place. -/
import Derived.Test.YtkcdpnmdhmihaaaU
import Derived.Test.YtkcdpnmdhmihaaaM
import Derived.Laws.BitsAllLaws
namespace Go.Proofs.Ytkcdpnmdhmihaaa
open Go.RowKit
set_option maxRecDepth 100000

theorem wrap_i64 {n : Int} (h0 : -9223372036854775808 ≤ n) (h : n < 9223372036854775808) : IntKind.i64.wrap n = n := by
  simp [IntKind.wrap, IntKind.bits, IntKind.signed]; omega
theorem i64_xor_nat (a b : Nat) (ha : a < 9223372036854775808) (hb : b < 9223372036854775808) : bits .xor .i64 (a : Int) (b : Int) = ((a ^^^ b : Nat) : Int) := by
  have hx : a ^^^ b < 2 ^ 63 := Nat.xor_lt_two_pow (by omega) (by omega)
  have h1 : (BitVec.ofInt 64 (a : Int)).toNat = a := by
    rw [BitVec.ofInt_natCast, BitVec.toNat_ofNat]; exact Nat.mod_eq_of_lt (by omega)
  have h2 : (BitVec.ofInt 64 (b : Int)).toNat = b := by
    rw [BitVec.ofInt_natCast, BitVec.toNat_ofNat]; exact Nat.mod_eq_of_lt (by omega)
  show IntKind.i64.wrap ((BitVec.ofInt 64 (a : Int) ^^^ BitVec.ofInt 64 (b : Int)).toNat : Int) = _
  rw [BitVec.toNat_xor, h1, h2]
  exact wrap_i64 (by omega) (by omega)

/-- A piece: where it lies, its bytes. -/
structure Pc where
  a : Option Addr
  n : Nat
  c : Nat
  b : List Int
def Pc.v (p : Pc) : Value := .slice p.a p.n p.c
/-- A slice of pieces. -/
structure Rows (w : World) (A : Option Addr) (n c : Nat) (L : List Pc) : Prop where
  rd : Rd w 1 A n c (L.map Pc.v)
  one : ∀ p ∈ L, Rd w 1 p.a p.n p.c (bts p.b) ∧ isB p.b
theorem Rows.len {w : World} {A : Option Addr} {n c : Nat} {L : List Pc} (h : Rows w A n c L) : L.length = n := by
  have := h.rd.len
  rw [List.length_map] at this
  omega
theorem Rows.new {w w' : World} {A : Option Addr} {n c : Nat} {L : List Pc} (h : Rows w A n c L) (he : New w w') : Rows w' A n c L := ⟨h.rd.new he, fun p hp => ⟨(h.one p hp).1.new he, (h.one p hp).2⟩⟩
theorem Rows.at_ {w : World} {A : Option Addr} {n c : Nat} {L : List Pc} (h : Rows w A n c L) {i : Nat} (hi : i < n) :
    ∃ ad p, A = some ad ∧ L[i]? = some p ∧ w.cell? (ad.add i) = some (.slice p.a p.n p.c) ∧ Rd w 1 p.a p.n p.c (bts p.b) ∧ isB p.b ∧ p.b.length = p.n := by
  obtain ⟨ad, rfl⟩ := h.rd.some (by omega)
  have hl := h.len
  have hp : L[i]? = some L[i] := List.getElem?_eq_getElem (by omega)
  obtain ⟨h1, h2⟩ := h.one _ (List.mem_of_getElem? hp)
  exact ⟨ad, L[i], rfl, hp, h.rd.cell ad rfl i _ (by rw [List.getElem?_map, hp]; rfl), h1, h2, h1.blen⟩
/-- The pieces' bytes. -/
def byt (L : List Pc) : List (List Int) := L.map Pc.b
theorem byt_get {L : List Pc} {i : Nat} {p : Pc} (h : L[i]? = some p) : (byt L)[i]? = some p.b := by rw [byt, List.getElem?_map, h]; rfl
theorem byt_len (L : List Pc) : (byt L).length = L.length := by simp [byt]

def lensOf (bs : List (List Int)) : Nat := bs.foldl (fun x b => x ^^^ b.length) 0
def longOf (bs : List (List Int)) : Nat := bs.foldl (fun x b => max x b.length) 0
def x8 (a b : Int) : Int := ((a.toNat ^^^ b.toNat : Nat) : Int)
def atOf (bs : List (List Int)) (k : Nat) : Int := bs.foldl (fun c b => if k < b.length then x8 c (b.getD k 0) else c) 0
def foldOf (bs : List (List Int)) : List Int := (List.range (longOf bs)).map (atOf bs)

theorem lensOf_step {bs : List (List Int)} {i : Nat} {b : List Int} (h : bs[i]? = some b) : lensOf (bs.take (i + 1)) = lensOf (bs.take i) ^^^ b.length := foldl_take _ _ _ _ _ h
theorem longOf_step {bs : List (List Int)} {i : Nat} {b : List Int} (h : bs[i]? = some b) : longOf (bs.take (i + 1)) = max (longOf (bs.take i)) b.length := foldl_take _ _ _ _ _ h
theorem atOf_step {bs : List (List Int)} {i : Nat} {b : List Int} (k : Nat) (h : bs[i]? = some b) : atOf (bs.take (i + 1)) k = if k < b.length then x8 (atOf (bs.take i) k) (b.getD k 0) else atOf (bs.take i) k := foldl_take _ _ _ _ _ h
theorem longOf_snoc (bs : List (List Int)) (b : List Int) : longOf (bs ++ [b]) = max (longOf bs) b.length := by simp [longOf]
theorem lensOf_snoc (bs : List (List Int)) (b : List Int) : lensOf (bs ++ [b]) = lensOf bs ^^^ b.length := by simp [lensOf]
theorem atOf_snoc (bs : List (List Int)) (b : List Int) (k : Nat) : atOf (bs ++ [b]) k = if k < b.length then x8 (atOf bs k) (b.getD k 0) else atOf bs k := by simp [atOf]
theorem longOf_le (bs : List (List Int)) (m : Nat) : longOf bs ≤ m ↔ ∀ b ∈ bs, b.length ≤ m := by
  refine snoc_ind (p := fun bs => longOf bs ≤ m ↔ ∀ b ∈ bs, b.length ≤ m) ?_ ?_ bs
  · simp [longOf]
  · intro l x ih
    rw [longOf_snoc]
    simp only [List.mem_append, List.mem_singleton]
    constructor
    · rintro h b (hb | rfl)
      · exact ih.1 (by omega) b hb
      · omega
    · intro h
      have := ih.2 (fun b hb => h b (.inl hb))
      have := h x (.inr rfl)
      omega
theorem longOf_ge {bs : List (List Int)} {b : List Int} (h : b ∈ bs) : b.length ≤ longOf bs := (longOf_le bs _).1 (Nat.le_refl _) b h
theorem lensOf_lt (bs : List (List Int)) (k : Nat) (h : ∀ b ∈ bs, b.length < 2 ^ k) : lensOf bs < 2 ^ k := by
  revert h
  refine snoc_ind (p := fun bs => (∀ b ∈ bs, b.length < 2 ^ k) → lensOf bs < 2 ^ k) ?_ ?_ bs
  · intro _
    exact Nat.two_pow_pos k
  · intro l x ih h
    rw [lensOf_snoc]
    exact Nat.xor_lt_two_pow (ih (fun b hb => h b (by simp [hb]))) (h x (by simp))
theorem x8_b {a b : Int} (ha : 0 ≤ a ∧ a < 256) (hb : 0 ≤ b ∧ b < 256) : 0 ≤ x8 a b ∧ x8 a b < 256 := by
  have : a.toNat ^^^ b.toNat < 2 ^ 8 := Nat.xor_lt_two_pow (by omega) (by omega)
  unfold x8
  omega
theorem u8_x8 {a b : Int} (ha : 0 ≤ a ∧ a < 256) (hb : 0 ≤ b ∧ b < 256) : bits .xor .u8 a b = x8 a b := u8_xor a b ha.1 ha.2 hb.1 hb.2
theorem x8_zero {b : Int} (hb : 0 ≤ b) : x8 0 b = b := by
  unfold x8
  simp
  omega
theorem x8_zero' {b : Int} (hb : 0 ≤ b) : x8 b 0 = b := by
  unfold x8
  simp
  omega
theorem atOf_b (bs : List (List Int)) (h : ∀ b ∈ bs, isB b) (k : Nat) : 0 ≤ atOf bs k ∧ atOf bs k < 256 := by
  revert h
  refine snoc_ind (p := fun bs => (∀ b ∈ bs, isB b) → 0 ≤ atOf bs k ∧ atOf bs k < 256) ?_ ?_ bs
  · intro _
    simp [atOf]
  · intro l x ih h
    rw [atOf_snoc]
    have h1 := ih (fun b hb => h b (by simp [hb]))
    split
    · exact x8_b h1 ((h x (by simp)).getD k)
    · exact h1
theorem atOf_out (bs : List (List Int)) (k : Nat) (h : longOf bs ≤ k) : atOf bs k = 0 := by
  revert h
  refine snoc_ind (p := fun bs => longOf bs ≤ k → atOf bs k = 0) ?_ ?_ bs
  · intro _
    rfl
  · intro l x ih h
    rw [longOf_snoc] at h
    rw [atOf_snoc, if_neg (by omega)]
    exact ih (by omega)
theorem foldOf_len (bs : List (List Int)) : (foldOf bs).length = longOf bs := by simp [foldOf]
theorem foldOf_get (bs : List (List Int)) (k : Nat) (h : k < longOf bs) : (foldOf bs)[k]? = some (atOf bs k) := by simp [foldOf, h]
theorem foldOf_getD (bs : List (List Int)) (k : Nat) : (foldOf bs).getD k 0 = atOf bs k := by
  by_cases h : k < longOf bs
  · rw [List.getD_eq_getElem?_getD, foldOf_get bs k h]; rfl
  · rw [List.getD_eq_getElem?_getD, List.getElem?_eq_none (by rw [foldOf_len]; omega), atOf_out bs k (by omega)]; rfl
theorem foldOf_b (bs : List (List Int)) (h : ∀ b ∈ bs, isB b) : isB (foldOf bs) := by
  intro x hx
  obtain ⟨k, _, rfl⟩ := List.mem_map.1 hx
  exact atOf_b bs h k
end Go.Proofs.Ytkcdpnmdhmihaaa
