/- Part of a claim: a float's digits of base 16, written by the library. -/
import Derived.Test.YtpddepehlinfnaaGreatDoorPS21
set_option linter.unusedSimpArgs false
set_option linter.unusedVariables false
namespace Go.Proofs.YtpddepehlinfnaaGreatDoor.B
open Go Go.RowKit Go.Proofs.YtpddepehlinfnaaGreatDoor.E Go.Proofs.YtpddepehlinfnaaGreatDoor.FL

/-- Bytes as cells. -/
def bC (l : List Nat) : List AV := l.map fun (n : Nat) => .int .u8 (n : Int)
theorem bC_length (l : List Nat) : (bC l).length = l.length := by unfold bC; rw [List.length_map]
theorem bC_append (a b : List Nat) : bC (a ++ b) = bC a ++ bC b := by unfold bC; rw [List.map_append]
theorem bC_cell (l : List Nat) : (bC l).all isCell = true := by
  rw [List.all_eq_true]; intro x hx
  obtain ⟨n, _, rfl⟩ := List.mem_map.1 hx
  rfl
theorem bC_bytes : ∀ l : List Nat, bytesOf (bC l) = some (l.map UInt8.ofNat)
  | [] => rfl
  | n :: l => by
    show (bytesOf (bC l)).map _ = _
    rw [bC_bytes l]; rfl

theorem setAll_app : ∀ (new l r : List AV), new.length ≤ r.length → setAll (l ++ r) l.length new = l ++ new ++ r.drop new.length
  | [], l, r, _ => by simp [setAll]
  | x :: new, l, [], h => by simp at h
  | x :: new, l, y :: r, h => by
    have ih := setAll_app new (l ++ [x]) r (by simpa using h)
    rw [setAll, List.set_append_right _ _ (Nat.le_refl _), Nat.sub_self, List.set_cons_zero]
    rw [List.length_append, List.length_singleton, List.append_assoc, List.singleton_append] at ih
    rw [ih]
    simp

/-- A block of 24 bytes, of which the first are told. -/
def Bf (H : Heap) (b : Nat) (bs : List Nat) : Prop := ∃ rest, H[b]? = some (.c (bC bs ++ rest) 5 0 0) ∧ bs.length + rest.length = 24

theorem Bf.app {T : Tab} (hT : Ty T) {M : Addr → Option AV} {H : Heap} {b n m k : Nat} {bs nb : List Nat} (h : Bf H b bs) (hn : n = bs.length) (hm : m = nb.length) (hk : k = n + m) (h0 : m ≠ 0) (room : k ≤ 24) :
    ∃ H', appendA T M (H ++ [.c (bC nb) 5 0 0]) [101, 101] (.slice b 0 0 1 n (some 24)) (.slice H.length 0 0 1 m (some m)) = some (.slice b 0 0 1 k (some 24), H') ∧ Bf H' b (bs ++ nb) := by
  obtain ⟨rest, h1, h2⟩ := h
  have hlt := lt_of_get h1
  have g1 : (H ++ [HB.c (bC nb) 5 0 0])[b]? = some (.c (bC bs ++ rest) 5 0 0) := by rw [List.getElem?_append_left hlt]; exact h1
  have g2 : sliceCells M (H ++ [HB.c (bC nb) 5 0 0]) (.slice H.length 0 0 1 m (some m)) 1 = some (bC nb) := by
    simp only [sliceCells, if_true]
    rw [if_neg h0, hp_get0]
    simp only [List.getElem?_cons_zero, Nat.zero_add, List.drop_zero]
    rw [if_pos ⟨Nat.le_refl _, by rw [bC_length]; omega⟩, List.take_of_length_le (by rw [bC_length]; omega)]
  have hs : setAll (bC bs ++ rest) (0 + n * 1) (bC nb) = bC (bs ++ nb) ++ rest.drop nb.length := by
    have := setAll_app (bC nb) (bC bs) rest (by rw [bC_length]; omega)
    rw [bC_length, bC_length] at this
    rw [show 0 + n * 1 = bs.length by omega, this, bC_append]
  refine ⟨(H ++ [HB.c (bC nb) 5 0 0]).set b (.c (bC (bs ++ nb) ++ rest.drop nb.length) 5 0 0), ?_, ?_⟩
  · simp only [appendA, hT.ty101, hT.ty5, lenA, g2, g1, hs]
    have hne : ¬ ((1 : Nat) = 0 ∨ (1 : Nat) = 0 ∨ (cellsOf (absC (Value.int IntKind.u8 0))).length ≠ 1 ∨ (bC nb).all isCell ≠ true ∨ (bC nb).length ≠ m * 1) := by
      rw [bC_cell, bC_length]
      simp [absC, absC0, cellsOf]
      omega
    rw [if_neg (by decide : ¬ isIntT (TypeDesc.slice 5) = true)]
    rw [if_neg hne, if_neg h0, if_neg (by decide : ¬ (1 ≠ 1)), if_pos (by omega)]
    have hle : 0 + (n + m) * 1 ≤ (bC bs ++ rest).length := by rw [List.length_append, bC_length]; omega
    rw [if_pos ⟨trivial, hle⟩, hk]
  · have hl : b < (H ++ [HB.c (bC nb) 5 0 0]).length := by rw [List.length_append]; omega
    refine ⟨rest.drop nb.length, List.getElem?_set_self hl, ?_⟩
    rw [List.length_append, List.length_drop]; omega

def hx (d : Nat) : Nat := if d < 10 then 48 + d else 87 + d
def hexF : Nat → Nat → List Nat
  | 0, _ => []
  | n + 1, f => if f = 0 then [] else hx (f / 281474976710656) :: hexF n (f * 16 % 4503599627370496)

theorem hex_at {d : Nat} (h : d < 16) : ([48, 49, 50, 51, 52, 53, 54, 55, 56, 57, 97, 98, 99, 100, 101, 102] : List UInt8)[d]? = some (UInt8.ofNat (hx d)) := by
  have : ∀ d : Fin 16, ([48, 49, 50, 51, 52, 53, 54, 55, 56, 57, 97, 98, 99, 100, 101, 102] : List UInt8)[d.val]? = some (UInt8.ofNat (hx d.val)) := by decide
  exact this ⟨d, h⟩
theorem hx_lt {d : Nat} (h : d < 16) : hx d < 256 := by unfold hx; split <;> omega

/-- The exponent, with a sign and two digits at least. -/
def dgN (n : Nat) : List Nat := if n < 100 then [n / 10 + 48, n % 10 + 48] else if n < 1000 then [n / 100 + 48, n / 10 % 10 + 48, n % 10 + 48] else [n / 1000 + 48, n / 100 % 10 + 48, n / 10 % 10 + 48, n % 10 + 48]
def expN (neg : Bool) (n : Nat) : List Nat := (if neg then 45 else 43) :: dgN n
theorem dg_wrap {a : Nat} (h : a < 200) : IntKind.i64.wrap (a : Int) = a ∧ IntKind.u8.wrap (a : Int) = a ∧ IntKind.u8.wrap ((a : Int) + 48) = ((a + 48 : Nat) : Int) := by
  refine ⟨wrap_i64 (by omega) (by omega), ?_, ?_⟩
  · show (a : Int) % 256 = a
    omega
  · show ((a : Int) + 48) % 256 = ((a + 48 : Nat) : Int)
    omega

theorem and_one60 {n : Nat} (h : n < 2305843009213693952) : IntKind.u64.wrap (((BitVec.ofInt 64 (n : Int)) &&& 1152921504606846976#64).toNat : Int) = ((if n < 1152921504606846976 then 0 else 1152921504606846976 : Nat) : Int) := by
  have h2 := and64 (a := n) (b := 1152921504606846976) (by omega) (by omega)
  have e : n &&& 1152921504606846976 = if n < 1152921504606846976 then 0 else 1152921504606846976 := by
    have q : (1152921504606846976 : Nat) = 2 ^ 60 := by decide
    apply Nat.eq_of_testBit_eq
    intro i
    rw [Nat.testBit_and]
    by_cases hi : i = 60
    · subst hi
      split
      · rename_i hl
        rw [Nat.testBit_lt_two_pow (by rw [← q]; exact hl), Nat.zero_testBit, Bool.false_and]
      · rename_i hl
        have : Nat.testBit n 60 = true := by rw [Nat.testBit_eq_decide_div_mod_eq, ← q, show n / 1152921504606846976 = 1 by omega]; rfl
        rw [this, Bool.true_and]
    · have h0 : Nat.testBit 1152921504606846976 i = false := by rw [q, Nat.testBit_two_pow]; exact decide_eq_false (fun h => hi h.symm)
      rw [h0, Bool.and_false]
      split
      · rw [Nat.zero_testBit]
      · exact h0.symm
  rw [e] at h2
  exact h2

theorem and15 {n : Nat} (h : n < 18446744073709551616) : IntKind.u64.wrap (((BitVec.ofInt 64 (n : Int)) &&& 15#64).toNat : Int) = (n % 16 : Nat) := by
  have h2 := and64 (a := n) (b := 15) h (by omega)
  have e : n &&& 15 = n % 16 := Nat.and_two_pow_sub_one_eq_mod n 4
  rw [e] at h2
  exact h2
theorem w8 (x : Int) : IntKind.u8.wrap x = x % 256 := rfl

end Go.Proofs.YtpddepehlinfnaaGreatDoor.B
