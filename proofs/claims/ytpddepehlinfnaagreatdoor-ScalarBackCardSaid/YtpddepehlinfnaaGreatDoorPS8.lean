/- Part of a claim: the document's rounding; a float's parts; signs, halves. -/
import Derived.Test.YtpddepehlinfnaaGreatDoorPS5
import Derived.Test.YtpddepehlinfnaaGreatDoorPFM
set_option linter.unusedSimpArgs false
set_option linter.unusedVariables false
set_option maxRecDepth 100000
set_option maxHeartbeats 10000000
namespace Go.Proofs.YtpddepehlinfnaaGreatDoor.B
open Go Go.RowKit Go.Proofs.YtpddepehlinfnaaGreatDoor.E Go.Proofs.YtpddepehlinfnaaGreatDoor.FL

theorem wU (x : Int) : IntKind.u64.wrap x = x % 18446744073709551616 := rfl

theorem shlU {a n : Nat} (hn : n < 64) (h : a * 2 ^ n < 18446744073709551616) : shiftOp .shl .u64 (a : Int) (n : Int) = some (.int .u64 ((a * 2 ^ n : Nat) : Int)) := by
  unfold shiftOp
  rw [if_neg (by omega)]
  have e : min ((n : Int).toNat) (IntKind.bits .u64) = n := by
    show min ((n : Int).toNat) 64 = n
    omega
  simp only [e]
  congr 2
  have e2 : ((a : Int) * 2 ^ n) = ((a * 2 ^ n : Nat) : Int) := by rw [Int.natCast_mul, Int.natCast_pow]; rfl
  rw [e2, wU]
  omega

theorem shrU {a n : Nat} (hn : n ≤ 64) : shiftOp .shr .u64 (a : Int) (n : Int) = some (.int .u64 ((a / 2 ^ n : Nat) : Int)) := by
  unfold shiftOp
  rw [if_neg (by omega)]
  have e : min ((n : Int).toNat) (IntKind.bits .u64) = n := by
    show min ((n : Int).toNat) 64 = n
    omega
  simp only [e]
  congr 2
  rw [Int.fdiv_eq_ediv_of_nonneg _ (Int.le_of_lt (Int.pow_pos (by omega)))]
  rw [Int.natCast_ediv, Int.natCast_pow]; rfl

theorem and64 {a b : Nat} (ha : a < 18446744073709551616) (hb : b < 18446744073709551616) : IntKind.u64.wrap (((BitVec.ofInt 64 (a : Int)) &&& (BitVec.ofInt 64 (b : Int))).toNat : Int) = ((a &&& b : Nat) : Int) := by
  have e : (BitVec.ofNat 64 a &&& BitVec.ofNat 64 b).toNat = a &&& b := by
    rw [BitVec.toNat_and, BitVec.toNat_ofNat, BitVec.toNat_ofNat, Nat.mod_eq_of_lt (by omega), Nat.mod_eq_of_lt (by omega)]
  rw [ofInt_nat, ofInt_nat, e, wU]
  have : a &&& b ≤ a := Nat.and_le_left
  omega

theorem low52 {n : Nat} (h : n < 18446744073709551616) : IntKind.u64.wrap (((BitVec.ofInt 64 (n : Int)) &&& 4503599627370495#64).toNat : Int) = (n % 4503599627370496 : Nat) := by
  have := and64 (b := 4503599627370495) h (by omega)
  rw [show BitVec.ofInt 64 ((4503599627370495 : Nat) : Int) = 4503599627370495#64 by decide] at this
  rw [this, show (4503599627370495 : Nat) = 2 ^ 52 - 1 by decide, Nat.and_two_pow_sub_one_eq_mod]

theorem or64 {k a b : Nat} (h : a * 2 ^ k < 18446744073709551616) (hb : b < 2 ^ k) (hk : k ≤ 63) : IntKind.u64.wrap (((BitVec.ofInt 64 ((a * 2 ^ k : Nat) : Int)) ||| (BitVec.ofInt 64 (b : Int))).toNat : Int) = ((a * 2 ^ k + b : Nat) : Int) := by
  have hk2 : 2 ^ k ≤ 2 ^ 63 := Nat.pow_le_pow_right (by omega) hk
  have h63 : 2 ^ 63 = 9223372036854775808 := by decide
  have e2 : a * 2 ^ k ||| b = a * 2 ^ k + b := by
    have := Nat.two_pow_add_eq_or_of_lt hb a
    rw [Nat.mul_comm (2 ^ k) a] at this
    exact this.symm
  have e : (BitVec.ofNat 64 (a * 2 ^ k) ||| BitVec.ofNat 64 b).toNat = a * 2 ^ k + b := by
    rw [BitVec.toNat_or, BitVec.toNat_ofNat, BitVec.toNat_ofNat, Nat.mod_eq_of_lt (by omega), Nat.mod_eq_of_lt (by omega), e2]
  have hl : a * 2 ^ k + b < 18446744073709551616 := by
    rw [← e2]
    exact Nat.or_lt_two_pow (n := 64) (by omega) (by omega)
  rw [ofInt_nat, ofInt_nat, e, wU]
  omega

theorem or52 {n : Nat} (h : n < 4503599627370496) : IntKind.u64.wrap (((BitVec.ofInt 64 (n : Int)) ||| 4503599627370496#64).toNat : Int) = (4503599627370496 + n : Nat) := by
  have := or64 (k := 52) (a := 1) (b := n) (by omega) (by omega) (by omega)
  rw [show ((1 * 2 ^ 52 : Nat) : Int) = 4503599627370496 by decide, show BitVec.ofInt 64 (4503599627370496 : Int) = 4503599627370496#64 by decide, BitVec.or_comm] at this
  rw [this]

theorem biA_max {T : Tab} {M : Addr → Option AV} {ts : List TypeId} {H : Heap} {a b : Int} : biA T M .max ts [.int .i64 a, .int .i64 b] H = some (.int .i64 (max a b), H) := by
  have e : biA T M .max ts [.int .i64 a, .int .i64 b] H = some (.int .i64 (if b > a then b else a), H) := rfl
  rw [e]
  congr 3
  split <;> omega

end Go.Proofs.YtpddepehlinfnaaGreatDoor.B
