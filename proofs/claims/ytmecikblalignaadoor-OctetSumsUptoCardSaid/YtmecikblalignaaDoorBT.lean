/- Part of a claim: numbers of 64 bits, as the operations take them; a table's cell. Nothing of a program stands here. -/
import Derived.Test.YtmecikblalignaaDoorEC
set_option linter.unusedSimpArgs false
set_option linter.unusedVariables false
namespace Go.Proofs.YtmecikblalignaaDoor.B
open Go Go.RowKit Go.Proofs.YtmecikblalignaaDoor.E

theorem fpure {P : Program} {M : Addr → Option AV} {k : FuncId} {args : List AV} {r : AV} (ha : flats args = true) (hr : flat r = true) (h : SemF P M k args [] fun v _ => v = r) (H : Heap) : SemF P M k args H fun v h => v = r ∧ h = H :=
  SemF.pure ha (h.mono fun v _ e => ⟨by rw [e]; exact hr, e⟩) H

/-- A number of 64 bits. -/
def I64 (x : Int) : Prop := -9223372036854775808 ≤ x ∧ x < 9223372036854775808
theorem I64.wrap {x : Int} (h : I64 x) : IntKind.i64.wrap x = x := wrap_i64 h.1 h.2

theorem binA_int {T : Tab} {op : BinOp} {t : TypeId} {x y : Operand} {k k' : IntKind} {a b : Int} : binA T op t x y (.int k a) (.int k' b) = (match op with | .shl => shiftOp .shl k a b | .shr => shiftOp .shr k a b | _ => if k = k' then intOp op k a b else none) := of_eq_true (eq_true rfl)

theorem ofInt_nat (n : Nat) : BitVec.ofInt 64 (n : Int) = BitVec.ofNat 64 n := by simp
theorem wU (x : Int) : IntKind.u64.wrap x = x % 18446744073709551616 := rfl
theorem wI (y : Int) : IntKind.i64.wrap y = (y + 9223372036854775808) % 18446744073709551616 - 9223372036854775808 := by
  have h : IntKind.i64.wrap y = if true && decide (y % 18446744073709551616 ≥ 9223372036854775808) then y % 18446744073709551616 - 18446744073709551616 else y % 18446744073709551616 := rfl
  rw [h]
  split
  · rename_i h3
    simp only [Bool.true_and, decide_eq_true_eq] at h3
    omega
  · rename_i h3
    simp only [Bool.true_and, decide_eq_true_eq] at h3
    omega

theorem shlU {a n : Nat} (hn : n < 64) (h : a * 2 ^ n < 18446744073709551616) : shiftOp .shl .u64 (a : Int) (n : Int) = some (.int .u64 ((a * 2 ^ n : Nat) : Int)) := by
  unfold shiftOp
  rw [if_neg (by omega)]
  have e : min ((n : Int).toNat) (IntKind.bits .u64) = n := by
    show min ((n : Int).toNat) 64 = n
    omega
  simp only [e]
  congr 2
  have e2 : ((a : Int) * 2 ^ n) = ((a * 2 ^ n : Nat) : Int) := by rw [Int.natCast_mul, Int.natCast_pow]; rfl
  rw [e2, wU]
  omega
theorem shrU {a n : Nat} (hn : n ≤ 64) : shiftOp .shr .u64 (a : Int) (n : Int) = some (.int .u64 ((a / 2 ^ n : Nat) : Int)) := by
  unfold shiftOp
  rw [if_neg (by omega)]
  have e : min ((n : Int).toNat) (IntKind.bits .u64) = n := by
    show min ((n : Int).toNat) 64 = n
    omega
  simp only [e]
  congr 2
  rw [Int.fdiv_eq_ediv_of_nonneg _ (Int.le_of_lt (Int.pow_pos (by omega)))]
  rw [Int.natCast_ediv, Int.natCast_pow]; rfl

theorem and64 {a b : Nat} (ha : a < 18446744073709551616) (hb : b < 18446744073709551616) : IntKind.u64.wrap (((BitVec.ofInt 64 (a : Int)) &&& (BitVec.ofInt 64 (b : Int))).toNat : Int) = ((a &&& b : Nat) : Int) := by
  have e : (BitVec.ofNat 64 a &&& BitVec.ofNat 64 b).toNat = a &&& b := by
    rw [BitVec.toNat_and, BitVec.toNat_ofNat, BitVec.toNat_ofNat, Nat.mod_eq_of_lt (by omega), Nat.mod_eq_of_lt (by omega)]
  rw [ofInt_nat, ofInt_nat, e, wU]
  have : a &&& b ≤ a := Nat.and_le_left
  omega
theorem or64 {a b : Nat} (ha : a < 18446744073709551616) (hb : b < 18446744073709551616) : IntKind.u64.wrap (((BitVec.ofInt 64 (a : Int)) ||| (BitVec.ofInt 64 (b : Int))).toNat : Int) = ((a ||| b : Nat) : Int) ∧ a ||| b < 18446744073709551616 := by
  have e : (BitVec.ofNat 64 a ||| BitVec.ofNat 64 b).toNat = a ||| b := by
    rw [BitVec.toNat_or, BitVec.toNat_ofNat, BitVec.toNat_ofNat, Nat.mod_eq_of_lt (by omega), Nat.mod_eq_of_lt (by omega)]
  have h : a ||| b < 2 ^ 64 := Nat.or_lt_two_pow (by omega) (by omega)
  rw [ofInt_nat, ofInt_nat, e, wU]
  omega
theorem xor64 {a b : Nat} (ha : a < 18446744073709551616) (hb : b < 18446744073709551616) : IntKind.u64.wrap (((BitVec.ofInt 64 (a : Int)) ^^^ (BitVec.ofInt 64 (b : Int))).toNat : Int) = ((a ^^^ b : Nat) : Int) ∧ a ^^^ b < 18446744073709551616 := by
  have e : (BitVec.ofNat 64 a ^^^ BitVec.ofNat 64 b).toNat = a ^^^ b := by
    rw [BitVec.toNat_xor, BitVec.toNat_ofNat, BitVec.toNat_ofNat, Nat.mod_eq_of_lt (by omega), Nat.mod_eq_of_lt (by omega)]
  have h : a ^^^ b < 2 ^ 64 := Nat.xor_lt_two_pow (by omega) (by omega)
  rw [ofInt_nat, ofInt_nat, e, wU]
  omega
theorem low1 {n : Nat} (h : n < 18446744073709551616) : IntKind.u64.wrap (((BitVec.ofInt 64 (n : Int)) &&& 1#64).toNat : Int) = (n % 2 : Nat) := by
  have := and64 (b := 1) h (by omega)
  rw [show BitVec.ofInt 64 ((1 : Nat) : Int) = 1#64 by decide] at this
  rw [this, show (1 : Nat) = 2 ^ 1 - 1 by decide, Nat.and_two_pow_sub_one_eq_mod]
theorem and_mask {n k : Nat} (h : n < 18446744073709551616) (hk : k < 18446744073709551616) {b : BitVec 64} (hb : b = BitVec.ofNat 64 k) : IntKind.u64.wrap (((BitVec.ofInt 64 (n : Int)) &&& b).toNat : Int) = ((n &&& k : Nat) : Int) := by
  have := and64 h hk
  rw [ofInt_nat k] at this
  rw [hb]
  exact this

/-! ### A table's cell -/

def isU8 (o : Option AV) (k : Nat) : Bool := match o with | some (.int .u8 n) => n == k | _ => false
theorem isU8_eq {o : Option AV} {k : Nat} (h : isU8 o k = true) : o = some (.int .u8 k) := by
  unfold isU8 at h
  split at h
  · rw [beq_iff_eq] at h; rw [h]
  · cases h
theorem addr_add (b i : Nat) : (⟨b, 0, none⟩ : Addr).add ((i : Int)).toNat = ⟨b, i, none⟩ := by
  unfold Addr.add
  rw [Int.toNat_natCast]
  split
  · rename_i h; rw [h]
  · rw [Nat.zero_add]
theorem load_cell {M : Addr → Option AV} {b i : Nat} {v : AV} (h : M ⟨b, i, none⟩ = some v) : List.mapM (fun j => Mc M ((⟨b, i, none⟩ : Addr).add j)) (List.range 1) = some [v] := by
  have e : (⟨b, i, none⟩ : Addr).add 0 = ⟨b, i, none⟩ := rfl
  rw [show List.range 1 = [0] by rfl, List.mapM_cons, List.mapM_nil, e]
  unfold Mc
  simp [h]

end Go.Proofs.YtmecikblalignaaDoor.B
