/- Part of a claim: floats' neighbours; the law of the order. -/
import Derived.Test.YtpddepehlinfnaaGreatDoorPS2
set_option linter.unusedSimpArgs false
set_option linter.unusedVariables false
set_option maxRecDepth 100000
set_option maxHeartbeats 10000000
namespace Go.Proofs.YtpddepehlinfnaaGreatDoor.B
open Go Go.RowKit Go.Proofs.YtpddepehlinfnaaGreatDoor.E Go.Proofs.YtpddepehlinfnaaGreatDoor.FL

theorem binA_int {T : Tab} {op : BinOp} {t : TypeId} {x y : Operand} {k k' : IntKind} {a b : Int} : binA T op t x y (.int k a) (.int k' b) = (match op with | .shl => shiftOp .shl k a b | .shr => shiftOp .shr k a b | _ => if k = k' then intOp op k a b else none) := of_eq_true (eq_true rfl)

theorem gt_max {T : Tab} {t : TypeId} {x y : Operand} (s : Bool) {r : Nat} (hr : r ≤ 9218868437227405312) : binA T .gtr t x y (.float .f64 (D.word s r)) (.float .f64 9218868437227405311) = some (.bool (decide (s = false ∧ r = 9218868437227405312))) := by
  have e : (9218868437227405311 : Nat) = D.word false 9218868437227405311 := rfl
  have ho := order_word (s := s) (t := false) (r := r) (q := 9218868437227405311) hr (by omega)
  rw [← e] at ho
  simp only [binA, fArith, if_true]
  rw [show FloatKind.f64.format = D from rfl, ho]
  simp only [ordB, Option.map_some]
  congr 2
  have hv : 0 < V 9218868437227405311 := V_pos (by omega)
  rw [sval_false]
  cases s
  · rw [sval_false]
    by_cases h : r = 9218868437227405312
    · have hl := V_lt (r := 9218868437227405311) (s := r) (by omega)
      rw [compare_gt (by omega), decide_eq_true ⟨rfl, h⟩]; rfl
    · rw [decide_eq_false (fun hh => h hh.2)]
      rcases Nat.lt_or_ge r 9218868437227405311 with hl | hl
      · have hl := V_lt hl
        rw [compare_lt (by omega)]; rfl
      · rw [show r = 9218868437227405311 by omega, compare_eq]; rfl
  · rw [sval_true, compare_lt (by omega), decide_eq_false (fun hh => by cases hh.1)]; rfl

theorem xor_low {m : Nat} (h : m < 2 ^ 63) : m ^^^ 2 ^ 63 = 2 ^ 63 + m := by
  have e := Nat.two_pow_add_eq_or_of_lt h 1
  rw [Nat.mul_one] at e
  rw [e]
  refine Nat.eq_of_testBit_eq fun i => ?_
  rw [Nat.testBit_xor, Nat.testBit_or, Nat.testBit_two_pow]
  by_cases hi : 63 = i
  · subst hi
    rw [Nat.testBit_lt_two_pow h]; rfl
  · rw [decide_eq_false hi, Bool.xor_false, Bool.false_or]

theorem neg_word (n : Nat) (h : n < 18446744073709551616) : negF .f64 n = D.word (!decide (9223372036854775808 ≤ n)) (n % 9223372036854775808) := by
  have e : negF .f64 n = n ^^^ 2 ^ 63 := rfl
  rw [e]
  unfold Ieee.Format.word
  rw [d_sw]
  by_cases c : 9223372036854775808 ≤ n
  · have e2 := xor_low (m := n - 9223372036854775808) (by omega)
    have e3 : n = (n - 9223372036854775808) ^^^ 2 ^ 63 := by rw [e2]; omega
    rw [decide_eq_true c]
    conv => lhs; rw [e3]
    rw [Nat.xor_assoc, Nat.xor_self, Nat.xor_zero]
    simp only [Bool.not_true, Bool.false_eq_true, if_false]
    omega
  · rw [decide_eq_false c, xor_low (by omega)]
    simp only [Bool.not_false, if_true]
    omega

theorem sOf (M : Addr → Option AV) (H : Heap) (n : Nat) : SemF Tryz.prog M 16 [.int .u64 n] H fun v h => v = .float .f64 n ∧ h = H := by
  refine fpure rfl rfl (fw Tryz.func16 (by kernel_rfl) rfl (by kernel_rfl) fun C L T hT hS => ?_) H
  simp only [gX,gT,gM,gL,gB,wantedA,evOp,opv,absC,absC0,isAggT,resA,resultA,binA,eqA,eqGuardA,isConstA,isFlatScalar,shiftOp,strOp,ordB,readN,sliceCells,lenA,storeA,newA,buildA,fillA,buildSliceA,boundsA,bndA,sliceA,ptrOK,fieldAddrA,fieldA,indexA,extractA,convA,isIntT,biA,bytesOf,setAll,List.replicate,Nat.reduceAdd,Nat.reduceSub,Nat.reduceMul,Nat.reduceLT,Nat.reduceLeDiff,Nat.reduceEqDiff,Int.reduceEq,Int.reduceLT,Int.reduceLE,Int.reduceNe,Int.reduceAdd,Nat.reduceBEq,reduceCtorEq,lenB_nil,lenB_slice,lenB_oslice,lenB_str,lenB_agg,indexAddrA_slice,indexAddrA_oslice,indexAddrA_ptr,indexAddrA_optr,loadA_ptr,loadA_optr,lenK,indexK,loadK,Int.reduceBEq,Int.reduceBNe,Int.reduceMod,Int.reduceDiv,Int.reduceTDiv,Int.reduceTMod,Int.reduceFDiv,Int.reduceSub,Int.reduceNeg,Int.reduceGT,Int.reduceGE,BitVec.reduceOfInt,BitVec.reduceAnd,BitVec.reduceOr,BitVec.reduceXOr,BitVec.reduceToNat,Int.reduceToNat,Int.reducePow,Int.reduceMul,hT.all,Tryz.f16]
  refine hS.one (pFrom M _ n) ?_
  simp only [gX,gT,gM,gL,gB,wantedA,evOp,opv,absC,absC0,isAggT,resA,resultA,binA,eqA,eqGuardA,isConstA,isFlatScalar,shiftOp,strOp,ordB,readN,sliceCells,lenA,storeA,newA,buildA,fillA,buildSliceA,boundsA,bndA,sliceA,ptrOK,fieldAddrA,fieldA,indexA,extractA,convA,isIntT,biA,bytesOf,setAll,List.replicate,Nat.reduceAdd,Nat.reduceSub,Nat.reduceMul,Nat.reduceLT,Nat.reduceLeDiff,Nat.reduceEqDiff,Int.reduceEq,Int.reduceLT,Int.reduceLE,Int.reduceNe,Int.reduceAdd,Nat.reduceBEq,reduceCtorEq,lenB_nil,lenB_slice,lenB_oslice,lenB_str,lenB_agg,indexAddrA_slice,indexAddrA_oslice,indexAddrA_ptr,indexAddrA_optr,loadA_ptr,loadA_optr,lenK,indexK,loadK,Int.reduceBEq,Int.reduceBNe,Int.reduceMod,Int.reduceDiv,Int.reduceTDiv,Int.reduceTMod,Int.reduceFDiv,Int.reduceSub,Int.reduceNeg,Int.reduceGT,Int.reduceGE,BitVec.reduceOfInt,BitVec.reduceAnd,BitVec.reduceOr,BitVec.reduceXOr,BitVec.reduceToNat,Int.reduceToNat,Int.reducePow,Int.reduceMul,hT.all]
end Go.Proofs.YtpddepehlinfnaaGreatDoor.B
