/- Part of a claim: floats by their bits: Bits, place, Same. -/
import Derived.Test.YtpddepehlinfnaaGreatDoorPG3
import Derived.Test.YtpddepehlinfnaaGreatDoorPFL
set_option linter.unusedSimpArgs false
set_option linter.unusedVariables false
set_option maxRecDepth 100000
set_option maxHeartbeats 10000000
namespace Go.Proofs.YtpddepehlinfnaaGreatDoor.B
open Go Go.RowKit Go.Proofs.YtpddepehlinfnaaGreatDoor.E Go.Proofs.YtpddepehlinfnaaGreatDoor.FL

theorem fpure {P : Program} {M : Addr → Option AV} {k : FuncId} {args : List AV} {r : AV} (ha : flats args = true) (hr : flat r = true) (h : SemF P M k args [] fun v _ => v = r) (H : Heap) : SemF P M k args H fun v h => v = r ∧ h = H :=
  SemF.pure ha (h.mono fun v _ e => ⟨by rw [e]; exact hr, e⟩) H

/-- A number of 64 bits. -/
def I64 (x : Int) : Prop := -9223372036854775808 ≤ x ∧ x < 9223372036854775808
theorem I64.wrap {x : Int} (h : I64 x) : IntKind.i64.wrap x = x := wrap_i64 h.1 h.2

theorem isNaN_of (n : Nat) : isNaN .f64 n = decide (9218868437227405312 < n % 9223372036854775808) := by
  have e : D.read n = D.read (D.word (n / 9223372036854775808 % 2 == 1) (n % 9223372036854775808)) := by
    have h := word_neg (s := (n / 9223372036854775808 % 2 == 1)) (r := n % 9223372036854775808) (Nat.mod_lt _ (by omega))
    unfold Ieee.Format.read
    rw [h.1, h.2]
    rfl
  unfold isNaN
  show (D.read n).isNaN = _
  rw [e]
  have hr : n % 9223372036854775808 < 9223372036854775808 := Nat.mod_lt _ (by omega)
  revert hr
  generalize n % 9223372036854775808 = r
  intro hr
  rcases Nat.lt_trichotomy r 9218868437227405312 with h | h | h
  · rw [read_word h, decide_eq_false (by omega)]; rfl
  · subst h; rw [read_inf]; rfl
  · rw [read_nan h hr, decide_eq_true h]; rfl

theorem ofInt_nat (n : Nat) : BitVec.ofInt 64 (n : Int) = BitVec.ofNat 64 n := by simp

theorem clr (n : Nat) : IntKind.u64.wrap (((BitVec.ofInt 64 (n : Int)) &&& ~~~ 9223372036854775808#64).toNat : Int) = (n % 9223372036854775808 : Nat) := by
  have e2 : (BitVec.ofNat 64 n &&& ~~~ 9223372036854775808#64).toNat = n % 9223372036854775808 := by
    rw [show (~~~ 9223372036854775808#64 : BitVec 64) = BitVec.ofNat 64 (2 ^ 63 - 1) by decide, BitVec.toNat_and, BitVec.toNat_ofNat, BitVec.toNat_ofNat]
    rw [Nat.mod_eq_of_lt (show 2 ^ 63 - 1 < 2 ^ 64 by decide), Nat.and_two_pow_sub_one_eq_mod]
    omega
  rw [ofInt_nat, e2]
  have w : ∀ x : Int, IntKind.u64.wrap x = x % 18446744073709551616 := fun _ => rfl
  rw [w]; omega

theorem sgn (n : Nat) (h : n < 18446744073709551616) : IntKind.u64.wrap (((BitVec.ofInt 64 (n : Int)) &&& 9223372036854775808#64).toNat : Int) = if 9223372036854775808 ≤ n then 9223372036854775808 else 0 := by
  have e2 : (BitVec.ofNat 64 n &&& 9223372036854775808#64).toNat = if 9223372036854775808 ≤ n then 9223372036854775808 else 0 := by
    rw [BitVec.toNat_and, BitVec.toNat_ofNat, BitVec.toNat_ofNat, Nat.mod_eq_of_lt (show n < 2 ^ 64 by omega), show 9223372036854775808 % 2 ^ 64 = 2 ^ 63 by decide]
    split
    · rw [show (9223372036854775808 : Nat) = 2 ^ 63 by decide]
      refine Nat.eq_of_testBit_eq fun i => ?_
      rw [Nat.testBit_and, Nat.testBit_two_pow]
      by_cases hi : 63 = i
      · subst hi
        rw [Nat.testBit_eq_decide_div_mod_eq, decide_eq_true (by omega)]; rfl
      · rw [decide_eq_false hi, Bool.and_false]
    · refine Nat.eq_of_testBit_eq fun i => ?_
      rw [Nat.testBit_and, Nat.testBit_two_pow, Nat.zero_testBit]
      by_cases hi : 63 = i
      · subst hi
        rw [Nat.testBit_eq_decide_div_mod_eq, decide_eq_false (by omega)]; rfl
      · rw [decide_eq_false hi, Bool.and_false]
  rw [ofInt_nat, e2]
  have w : ∀ x : Int, IntKind.u64.wrap x = x % 18446744073709551616 := fun _ => rfl
  rw [w]; split <;> rfl

theorem neq_nan {T : Tab} {t : TypeId} {x y : Operand} {b : Nat} (h : isNaN .f64 b = true) : binA T .neq t x y (.float .f64 b) (.float .f64 b) = some (.bool true) := by
  simp only [binA, fArith, order_nan_l h, ordB, if_true, Option.map_some]
  rfl
theorem order_self {b : Nat} (h : isNaN .f64 b = false) : FloatKind.f64.format.order b b = some .eq := by
  unfold isNaN at h
  unfold Ieee.Format.order
  cases hr : FloatKind.f64.format.read b with
  | number s m i => simp only [Ieee.Datum.order]; exact congrArg some Std.ReflCmp.compare_self
  | infinity s => simp only [Ieee.Datum.order]; exact congrArg some Std.ReflCmp.compare_self
  | nan s f => rw [hr] at h; simp [Ieee.Datum.isNaN] at h
theorem neq_num {T : Tab} {t : TypeId} {x y : Operand} {b : Nat} (h : isNaN .f64 b = false) : binA T .neq t x y (.float .f64 b) (.float .f64 b) = some (.bool false) := by
  simp only [binA, fArith, order_self h, ordB, if_true, Option.map_some]
  rfl
theorem neq_dec {T : Tab} {t : TypeId} {x y : Operand} {b : Nat} : binA T .neq t x y (.float .f64 b) (.float .f64 b) = some (.bool (isNaN .f64 b)) := by
  cases h : isNaN .f64 b
  · exact neq_num h
  · exact neq_nan h

theorem pBits (M : Addr → Option AV) (H : Heap) {w : Nat} (hn : isNaN .f64 w = false) : SemF Tryz.prog M 85 [.float .f64 w] H fun v h => v = .int .u64 w ∧ h = H :=
  X0_ok M 85 _ rfl _ _ _ _ (by simp only [bitsX, hn, and_self, if_true])
theorem pFrom (M : Addr → Option AV) (H : Heap) (n : Nat) : SemF Tryz.prog M 62 [.int .u64 n] H fun v h => v = .float .f64 n ∧ h = H :=
  X0_ok M 62 _ rfl _ _ _ _ (by simp only [unbitsX, if_true, Int.toNat_natCast])

/-- The bits told. -/
def Bw (n : Nat) : Nat := if isNaN .f64 n = true then 9221120237041090561 else n
theorem Bw_nan {n : Nat} (h : isNaN .f64 n = true) : Bw n = 9221120237041090561 := if_pos h
theorem Bw_num {n : Nat} (h : isNaN .f64 n = false) : Bw n = n := if_neg (by rw [h]; decide)
theorem sBits (M : Addr → Option AV) (H : Heap) (n : Nat) : SemF Tryz.prog M 51 [.float .f64 n] H fun v h => v = .int .u64 (Bw n : Nat) ∧ h = H := by
  cases hn : isNaN .f64 n
  · rw [Bw_num hn]
    refine fpure rfl rfl (fw Tryz.func51 (by kernel_rfl) rfl (by kernel_rfl) fun C L T hT hS => ?_) H
    simp only [gX,gT,gM,gL,gB,wantedA,evOp,opv,absC,absC0,isAggT,resA,resultA,eqA,eqGuardA,isConstA,isFlatScalar,shiftOp,strOp,ordB,readN,sliceCells,lenA,storeA,newA,buildA,fillA,buildSliceA,boundsA,bndA,sliceA,ptrOK,fieldAddrA,fieldA,indexA,extractA,convA,isIntT,biA,bytesOf,setAll,List.replicate,Nat.reduceAdd,Nat.reduceSub,Nat.reduceMul,Nat.reduceLT,Nat.reduceLeDiff,Nat.reduceEqDiff,Int.reduceEq,Int.reduceLT,Int.reduceLE,Int.reduceNe,Int.reduceAdd,Nat.reduceBEq,reduceCtorEq,lenB_nil,lenB_slice,lenB_oslice,lenB_str,lenB_agg,indexAddrA_slice,indexAddrA_oslice,indexAddrA_ptr,indexAddrA_optr,loadA_ptr,loadA_optr,lenK,indexK,loadK,Int.reduceBEq,Int.reduceBNe,Int.reduceMod,Int.reduceDiv,Int.reduceTDiv,Int.reduceTMod,Int.reduceFDiv,Int.reduceSub,Int.reduceNeg,Int.reduceGT,Int.reduceGE,BitVec.reduceOfInt,BitVec.reduceAnd,BitVec.reduceOr,BitVec.reduceXOr,BitVec.reduceToNat,Int.reduceToNat,Int.reducePow,Int.reduceMul,hT.all,Tryz.f51,neq_dec,hn]
    refine hS.one (pBits M _ hn) ?_
    simp only [gX,gT,gM,gL,gB,wantedA,evOp,opv,absC,absC0,isAggT,resA,resultA,binA,eqA,eqGuardA,isConstA,isFlatScalar,shiftOp,strOp,ordB,readN,sliceCells,lenA,storeA,newA,buildA,fillA,buildSliceA,boundsA,bndA,sliceA,ptrOK,fieldAddrA,fieldA,indexA,extractA,convA,isIntT,biA,bytesOf,setAll,List.replicate,Nat.reduceAdd,Nat.reduceSub,Nat.reduceMul,Nat.reduceLT,Nat.reduceLeDiff,Nat.reduceEqDiff,Int.reduceEq,Int.reduceLT,Int.reduceLE,Int.reduceNe,Int.reduceAdd,Nat.reduceBEq,reduceCtorEq,lenB_nil,lenB_slice,lenB_oslice,lenB_str,lenB_agg,indexAddrA_slice,indexAddrA_oslice,indexAddrA_ptr,indexAddrA_optr,loadA_ptr,loadA_optr,lenK,indexK,loadK,Int.reduceBEq,Int.reduceBNe,Int.reduceMod,Int.reduceDiv,Int.reduceTDiv,Int.reduceTMod,Int.reduceFDiv,Int.reduceSub,Int.reduceNeg,Int.reduceGT,Int.reduceGE,BitVec.reduceOfInt,BitVec.reduceAnd,BitVec.reduceOr,BitVec.reduceXOr,BitVec.reduceToNat,Int.reduceToNat,Int.reducePow,Int.reduceMul,hT.all]
  · rw [Bw_nan hn]
    refine fpure rfl rfl (fw Tryz.func51 (by kernel_rfl) rfl (by kernel_rfl) fun C L T hT hS => ?_) H
    simp only [gX,gT,gM,gL,gB,wantedA,evOp,opv,absC,absC0,isAggT,resA,resultA,eqA,eqGuardA,isConstA,isFlatScalar,shiftOp,strOp,ordB,readN,sliceCells,lenA,storeA,newA,buildA,fillA,buildSliceA,boundsA,bndA,sliceA,ptrOK,fieldAddrA,fieldA,indexA,extractA,convA,isIntT,biA,bytesOf,setAll,List.replicate,Nat.reduceAdd,Nat.reduceSub,Nat.reduceMul,Nat.reduceLT,Nat.reduceLeDiff,Nat.reduceEqDiff,Int.reduceEq,Int.reduceLT,Int.reduceLE,Int.reduceNe,Int.reduceAdd,Nat.reduceBEq,reduceCtorEq,lenB_nil,lenB_slice,lenB_oslice,lenB_str,lenB_agg,indexAddrA_slice,indexAddrA_oslice,indexAddrA_ptr,indexAddrA_optr,loadA_ptr,loadA_optr,lenK,indexK,loadK,Int.reduceBEq,Int.reduceBNe,Int.reduceMod,Int.reduceDiv,Int.reduceTDiv,Int.reduceTMod,Int.reduceFDiv,Int.reduceSub,Int.reduceNeg,Int.reduceGT,Int.reduceGE,BitVec.reduceOfInt,BitVec.reduceAnd,BitVec.reduceOr,BitVec.reduceXOr,BitVec.reduceToNat,Int.reduceToNat,Int.reducePow,Int.reduceMul,hT.all,Tryz.f51,neq_dec,hn]

end Go.Proofs.YtpddepehlinfnaaGreatDoor.B
