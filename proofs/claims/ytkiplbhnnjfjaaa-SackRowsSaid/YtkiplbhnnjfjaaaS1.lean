/- Rows of ranges in memory; between the print's words on rows and this seat's. -/
import Derived.Test.YtkiplbhnnjfjaaaChecked
import Derived.Test.YtkiplbhnnjfjaaaM3
import Derived.Test.YtkiplbhnnjfjaaaR2
import Derived.Test.YtkiplbhnnjfjaaaW
import Derived.Test.YtkiplbhnnjfjaaaS0
import Derived.Test.YtkiplbhnnjfjaaaG0
namespace Go.Proofs.Ytkiplbhnnjfjaaa
set_option linter.unusedVariables false
set_option linter.unusedSimpArgs false
open Go.RowKit Go.Proofs.YtkiplbhnnjfjaaaW.PrintWords Go.Proofs.YtkiplbhnnjfjaaaW.PrintLast Go.Proofs.YtkiplbhnnjfjaaaW.PrintMore Go.Proofs.Ytkiplbhnnjfjaaa.PP
set_option maxRecDepth 100000

/-- Cells of ranges. -/
def kcs (l : List (Int × Int)) : List Value := l.flatMap fun a => [.int .i64 a.1, .int .i64 a.2]
theorem kcs_append (l k : List (Int × Int)) : kcs (l ++ k) = kcs l ++ kcs k := by simp [kcs]
theorem kcs_len (l : List (Int × Int)) : (kcs l).length = l.length * 2 := flat_len (sz := 2) (fun _ => rfl) l
theorem kcs_drop (l : List (Int × Int)) (k : Nat) : (kcs l).drop (k * 2) = kcs (l.drop k) := by
  induction k generalizing l with
  | zero => rfl
  | succ k ih =>
    cases l with
    | nil => simp [kcs]
    | cons a r =>
      rw [List.drop_succ_cons, ← ih r, Nat.succ_mul]
      show (kcs (a :: r)).drop (k * 2 + 2) = _
      unfold kcs
      rw [List.flatMap_cons]
      rfl
theorem Rd.lenk {w : World} {A : Option Addr} {n c : Nat} {l : List (Int × Int)} (h : Rd w 2 A n c (kcs l)) : l.length = n := by
  have := h.len
  rw [kcs_len] at this
  omega
theorem Rd.cellk {w : World} {ad : Addr} {n c : Nat} {l : List (Int × Int)} (h : Rd w 2 (Option.some ad) n c (kcs l)) {k : Nat} {x : Int × Int} (hx : l[k]? = Option.some x) : w.cell? (ad.add (k * 2)) = Option.some (.int .i64 x.1) ∧ w.cell? ⟨(ad.add (k * 2)).block, (ad.add (k * 2)).off + 1, none⟩ = Option.some (.int .i64 x.2) := by
  have g := fun j u (hj : j < 2) (hu : ([.int .i64 x.1, .int .i64 x.2] : List Value)[j]? = Option.some u) => h.cell ad rfl (k * 2 + j) u (by rw [kcs, flat_get (E := fun a : Int × Int => [.int .i64 a.1, .int .i64 a.2]) (sz := 2) (fun _ => rfl) l k j x hx hj]; exact hu)
  have e1 : ad.add (k * 2 + 1) = ⟨(ad.add (k * 2)).block, (ad.add (k * 2)).off + 1, none⟩ := by
    rw [← add_add]
    unfold Addr.add
    rw [if_neg (by omega)]
  exact ⟨g 0 _ (by omega) rfl, by rw [← e1]; exact g 1 _ (by omega) rfl⟩
theorem Rd.dropk {w : World} {A : Option Addr} {n c : Nat} {l : List (Int × Int)} (h : Rd w 2 A n c (kcs l)) (k : Nat) (hk : k ≤ n) : Rd w 2 (sl A c k 2) (n - k) (c - k) (kcs (l.drop k)) := by
  have := h.drop k hk
  rwa [kcs_drop] at this

theorem kcs_take (l : List (Int × Int)) (k : Nat) : (kcs l).take (k * 2) = kcs (l.take k) := by
  induction k generalizing l with
  | zero => simp [kcs]
  | succ k ih =>
    cases l with
    | nil => simp [kcs]
    | cons a r =>
      rw [List.take_succ_cons, Nat.succ_mul]
      show (kcs (a :: r)).take (k * 2 + 2) = _
      have := ih r
      unfold kcs at this ⊢
      rw [List.flatMap_cons, List.flatMap_cons, ← this]
      rfl
theorem Rd.takek {w : World} {A : Option Addr} {n c : Nat} {l : List (Int × Int)} (h : Rd w 2 A n c (kcs l)) (k : Nat) (hk : k ≤ n) : Rd w 2 A k c (kcs (l.take k)) := by
  have := h.take k hk
  rwa [kcs_take] at this

theorem reps_flat {α β : Type} {R : α → List Value → Prop} {sz : Nat} {E : β → List Value} {mk : β → α} (hR : ∀ b c, R (mk b) c → c = E b) : ∀ (l : List β) (cs : List Value), Reps R sz (l.map mk) cs → cs = l.flatMap E
  | [], cs, h => List.eq_nil_of_length_eq_zero (by rw [h.1]; simp)
  | b :: t, cs, h => by
    have h0 := hR b _ (h.2 0 (mk b) rfl)
    rw [Nat.zero_mul, List.drop_zero] at h0
    have ht : Reps R sz (t.map mk) (cs.drop sz) := ⟨by rw [List.length_drop, h.1]; simp [Nat.add_mul], fun j p hj => by
      have := h.2 (j + 1) p (by simpa using hj)
      rwa [Nat.succ_mul, Nat.add_comm, ← List.drop_drop] at this⟩
    rw [List.flatMap_cons, ← reps_flat hR t _ ht, ← h0, List.take_append_drop]
def mkP (r : Rg) : S30 := ⟨r.1, r.2⟩
def mkR (r : Rg) : S53 := ⟨r.1, r.2⟩
theorem row_of_rd {α : Type} {w : World} {A : Option Addr} {n c : Nat} {l : List Rg} {K : α → List Value → Prop} {mk : Rg → α} (hK : ∀ r : Rg, K (mk r) [.int .i64 r.1, .int .i64 r.2]) (h : Rd w 2 A n c (kcs l)) : ReadsRow K 2 w A (l.map mk).length (l.map mk) ∧ (l.map mk).length ≤ c ∧ (l.map mk).length = n := by
  have hl := h.lenk
  have hcap := h.cap
  have htop := h.top
  refine ⟨⟨rfl, by rw [List.length_map]; omega, fun hn => ?_⟩, by rw [List.length_map]; omega, by rw [List.length_map, hl]⟩
  obtain ⟨ad, rfl⟩ := h.some (by rw [List.length_map] at hn; omega)
  refine ⟨ad, rfl, fun j p hj => ?_⟩
  rw [List.getElem?_map] at hj
  obtain ⟨r, hr, rfl⟩ := Option.map_eq_some_iff.1 hj
  refine ⟨[.int .i64 r.1, .int .i64 r.2], rfl, hK r, fun i u hu => ?_⟩
  have hi : i < 2 := by
    have := (List.getElem?_eq_some_iff.1 hu).1
    simpa using this
  exact h.cell ad rfl (j * 2 + i) u (by rw [kcs, flat_get (E := fun a : Int × Int => [.int .i64 a.1, .int .i64 a.2]) (sz := 2) (fun _ => rfl) l j i r hr hi]; exact hu)
theorem rowP {w : World} {A : Option Addr} {n c : Nat} {l : List Rg} (h : Rd w 2 A n c (kcs l)) : Kd.C k30 w A (l.map mkP).length (l.map mkP) ∧ (l.map mkP).length ≤ c ∧ (l.map mkP).length = n := row_of_rd (fun r => k30_mk w (mkP r)) h
theorem rowR {w : World} {A : Option Addr} {n c : Nat} {l : List Rg} (h : Rd w 2 A n c (kcs l)) : Kd.C k53 w A (l.map mkR).length (l.map mkR) ∧ (l.map mkR).length ≤ c ∧ (l.map mkR).length = n := row_of_rd (fun r => k53_mk w (mkR r)) h
theorem one_kcs (l : List Rg) : ∀ u ∈ kcs l, u.oneCell' = true := by
  intro u hu
  unfold kcs at hu
  obtain ⟨r, _, hr⟩ := List.mem_flatMap.1 hu
  simp at hr
  rcases hr with rfl | rfl <;> rfl
theorem own_of_row {w : World} {base : Nat} {e : TypeId} {v : Value} {n : Nat} {l : List Rg} (h : w.ownsRow base e 2 v n (kcs l)) : ∃ A c, v = .slice A n c ∧ Own w base e 2 A n c (kcs l) := by
  have h2 := h
  obtain ⟨A, c, rfl⟩ := own_slice h2
  exact ⟨A, c, rfl, h, one_kcs l⟩
theorem ownP {w : World} {base : Nat} {ok : Nat → Prop} {v : Value} {l : List Rg} (h : Kd.R k30 30 w base ok v (l.map mkP)) : ∃ A c, v = .slice A l.length c ∧ Own w base 30 2 A l.length c (kcs l) := by
  obtain ⟨_, inner, ho, hr⟩ := h
  obtain rfl := reps_flat (E := fun a : Int × Int => [.int .i64 a.1, .int .i64 a.2]) (mk := mkP) (fun b c hc => k30_openM hc) l inner hr
  rw [List.length_map] at ho
  exact own_of_row ho
theorem ownR {w : World} {base : Nat} {ok : Nat → Prop} {v : Value} {l : List Rg} (h : Kd.R k53 53 w base ok v (l.map mkR)) : ∃ A c, v = .slice A l.length c ∧ Own w base 53 2 A l.length c (kcs l) := by
  obtain ⟨_, inner, ho, hr⟩ := h
  obtain rfl := reps_flat (E := fun a : Int × Int => [.int .i64 a.1, .int .i64 a.2]) (mk := mkR) (fun b c hc => k53_openM hc) l inner hr
  rw [List.length_map] at ho
  exact own_of_row ho
/-- Rows of numbers. -/
theorem rowN {w : World} {k : IntKind} {A : Option Addr} {n c : Nat} {l : List Int} (h : Rd w 1 A n c (l.map (Value.int k))) : Kd.C (Kd.int k) w A l.length l ∧ l.length ≤ c ∧ l.length = n := by
  have hl := h.lenn
  have hcap := h.cap
  have htop := h.top
  refine ⟨⟨rfl, by omega, fun hn => ?_⟩, by omega, hl⟩
  obtain ⟨ad, rfl⟩ := h.some (by omega)
  refine ⟨ad, rfl, fun j p hj => ⟨[.int k p], rfl, rfl, fun i u hu => ?_⟩⟩
  match i, hu with
  | 0, hu =>
    cases hu
    exact h.cell ad rfl (j * 1 + 0) _ (by rw [Nat.mul_one, Nat.add_zero, List.getElem?_map, hj]; rfl)
theorem map_flat (k : IntKind) : ∀ l : List Int, (l.flatMap fun x => [Value.int k x]) = l.map (Value.int k)
  | [] => rfl
  | a :: t => by rw [List.flatMap_cons, map_flat k t]; rfl
theorem ownN {w : World} {k : IntKind} {e : TypeId} {base : Nat} {ok : Nat → Prop} {v : Value} {l : List Int} (h : Kd.R (Kd.int k) e w base ok v l) : ∃ A c, v = .slice A l.length c ∧ Own w base e 1 A l.length c (l.map (Value.int k)) := by
  obtain ⟨_, inner, ho, hr⟩ := h
  have he : inner = l.flatMap fun x => [Value.int k x] := reps_flat (E := fun x => [Value.int k x]) (mk := fun x => x) (fun b c hc => hc) l inner (by rw [List.map_id']; exact hr)
  have he2 : inner = l.map (Value.int k) := he.trans (map_flat k l)
  subst he2
  obtain ⟨A, c, rfl⟩ := own_slice ho
  exact ⟨A, c, rfl, ho, fun u hu => by obtain ⟨_, _, rfl⟩ := List.mem_map.1 hu; rfl⟩
theorem rdP {l : List Rg} {i : Nat} {x : Rg} (h : l[i]? = some x) : rd_T30 (l.map mkP) (i : Int) = mkP x := by
  unfold rd_T30
  rw [Int.toNat_natCast, List.getD_eq_getElem?_getD, List.getElem?_map, h]
  rfl
theorem rdR {l : List Rg} {i : Nat} {x : Rg} (h : l[i]? = some x) : rd_T53 (l.map mkR) (i : Int) = mkR x := by
  unfold rd_T53
  rw [Int.toNat_natCast, List.getD_eq_getElem?_getD, List.getElem?_map, h]
  rfl
theorem rdN {l : List Int} {i : Nat} {x : Int} (h : l[i]? = some x) : rd l (i : Int) = x := by
  unfold rd
  rw [Int.toNat_natCast, List.getD_eq_getElem?_getD, h]
  rfl
theorem wr1 {i : Nat} {n : Nat} (h : i < n) (hn : n ≤ 4611686018427387904) : wrap64 ((i : Int) + 1) = ((i + 1 : Nat) : Int) := by
  unfold wrap64
  omega
end Go.Proofs.Ytkiplbhnnjfjaaa
