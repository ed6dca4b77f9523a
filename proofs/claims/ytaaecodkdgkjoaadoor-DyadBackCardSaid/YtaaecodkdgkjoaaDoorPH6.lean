/- Part of a claim: dyads: products of parts, by way of floats; multiplied, turned over, squared. -/
import Derived.Test.YtaaecodkdgkjoaaDoorPH5
import Derived.Test.YtaaecodkdgkjoaaDoorPFL
set_option linter.unusedSimpArgs false
set_option linter.unusedVariables false
set_option maxRecDepth 100000
set_option maxHeartbeats 10000000
namespace Go.Proofs.YtaaecodkdgkjoaaDoor.B
open Go Go.RowKit Go.Proofs.YtaaecodkdgkjoaaDoor.E Go.Proofs.YtaaecodkdgkjoaaDoor.FL

theorem isNaN_word {s : Bool} {r : Nat} (h : r < 9218868437227405312) : isNaN .f64 (D.word s r) = false := by
  unfold isNaN
  show (D.read (D.word s r)).isNaN = false
  rw [read_word h]; rfl

theorem clear_sign (s : Bool) {r : Nat} (h : r < 9223372036854775808) : IntKind.u64.wrap (((BitVec.ofInt 64 ((D.word s r : Nat) : Int)) &&& ~~~ 9223372036854775808#64).toNat : Int) = r := by
  have hw : D.word s r < 2 * 9223372036854775808 := by unfold Ieee.Format.word; rw [d_sw]; split <;> omega
  have e1 : (BitVec.ofInt 64 ((D.word s r : Nat) : Int)) = BitVec.ofNat 64 (D.word s r) := by simp
  have e2 : (BitVec.ofNat 64 (D.word s r) &&& ~~~ 9223372036854775808#64).toNat = D.word s r % 9223372036854775808 := by
    rw [show (~~~ 9223372036854775808#64 : BitVec 64) = BitVec.ofNat 64 (2 ^ 63 - 1) by decide, BitVec.toNat_and, BitVec.toNat_ofNat, BitVec.toNat_ofNat]
    rw [Nat.mod_eq_of_lt (by omega), Nat.mod_eq_of_lt (by decide), Nat.and_two_pow_sub_one_eq_mod]
  have e3 := (word_neg (s := s) h).2
  rw [d_sw] at e3
  rw [e1, e2, e3]
  have w : ∀ x : Int, IntKind.u64.wrap x = x % 18446744073709551616 := fun _ => rfl
  rw [w]; omega

theorem pBits (M : Addr → Option AV) (H : Heap) {w : Nat} (hn : isNaN .f64 w = false) : SemF Tryd.prog M 68 [.float .f64 w] H fun v h => v = .int .u64 w ∧ h = H :=
  X0_ok M 68 _ rfl _ _ _ _ (by simp only [bitsX, hn, and_self, if_true])
theorem pFrom (M : Addr → Option AV) (H : Heap) (n : Int) : SemF Tryd.prog M 67 [.int .u64 n] H fun v h => v = .float .f64 n.toNat ∧ h = H :=
  X0_ok M 67 _ rfl _ _ _ _ (by simp only [unbitsX, if_true])

theorem pAbs (M : Addr → Option AV) (H : Heap) (s : Bool) {r : Nat} (h : r < 9218868437227405312) :
    SemF Tryd.prog M 47 [.float .f64 (D.word s r)] H fun v h => v = .float .f64 (D.word false r) ∧ h = H := by
  refine fpure rfl rfl (fw Tryd.func47 (by kernel_rfl) rfl (by kernel_rfl) fun C L T hT hS => ?_) H
  obtain ⟨w, hw⟩ : ∃ w, w = D.word s r := ⟨_, rfl⟩
  have hn := isNaN_word (s := s) h
  have hc := clear_sign s (r := r) (by have := Ieee.Format.infRung_lt D; rw [d_inf, d_sw] at this; omega)
  rw [← hw] at hn hc ⊢
  simp only [gX,gT,gM,gL,gB,wantedA,evOp,opv,absC,absC0,isAggT,resA,resultA,binA,eqA,eqGuardA,isConstA,isFlatScalar,shiftOp,strOp,ordB,readN,sliceCells,lenA,storeA,newA,buildA,fillA,buildSliceA,boundsA,bndA,sliceA,ptrOK,fieldAddrA,fieldA,indexA,extractA,convA,isIntT,biA,bytesOf,setAll,List.replicate,Nat.reduceAdd,Nat.reduceSub,Nat.reduceMul,Nat.reduceLT,Nat.reduceLeDiff,Nat.reduceEqDiff,Int.reduceEq,Int.reduceLT,Int.reduceLE,Int.reduceNe,Int.reduceAdd,Nat.reduceBEq,reduceCtorEq,lenB_nil,lenB_slice,lenB_oslice,lenB_str,lenB_agg,indexAddrA_slice,indexAddrA_oslice,indexAddrA_ptr,indexAddrA_optr,loadA_ptr,loadA_optr,lenK,indexK,loadK,Int.reduceBEq,Int.reduceBNe,Int.reduceMod,Int.reduceDiv,Int.reduceTDiv,Int.reduceTMod,Int.reduceFDiv,Int.reduceSub,Int.reduceNeg,Int.reduceGT,Int.reduceGE,BitVec.reduceOfInt,BitVec.reduceAnd,BitVec.reduceOr,BitVec.reduceXOr,BitVec.reduceToNat,Int.reduceToNat,Int.reducePow,Int.reduceMul,hT.all,Tryd.f47]
  refine hS.one (pBits M _ hn) ?_
  simp only [gX,gT,gM,gL,gB,wantedA,evOp,opv,absC,absC0,isAggT,resA,resultA,binA,eqA,eqGuardA,isConstA,isFlatScalar,shiftOp,strOp,ordB,readN,sliceCells,lenA,storeA,newA,buildA,fillA,buildSliceA,boundsA,bndA,sliceA,ptrOK,fieldAddrA,fieldA,indexA,extractA,convA,isIntT,biA,bytesOf,setAll,List.replicate,Nat.reduceAdd,Nat.reduceSub,Nat.reduceMul,Nat.reduceLT,Nat.reduceLeDiff,Nat.reduceEqDiff,Int.reduceEq,Int.reduceLT,Int.reduceLE,Int.reduceNe,Int.reduceAdd,Nat.reduceBEq,reduceCtorEq,lenB_nil,lenB_slice,lenB_oslice,lenB_str,lenB_agg,indexAddrA_slice,indexAddrA_oslice,indexAddrA_ptr,indexAddrA_optr,loadA_ptr,loadA_optr,lenK,indexK,loadK,Int.reduceBEq,Int.reduceBNe,Int.reduceMod,Int.reduceDiv,Int.reduceTDiv,Int.reduceTMod,Int.reduceFDiv,Int.reduceSub,Int.reduceNeg,Int.reduceGT,Int.reduceGE,BitVec.reduceOfInt,BitVec.reduceAnd,BitVec.reduceOr,BitVec.reduceXOr,BitVec.reduceToNat,Int.reduceToNat,Int.reducePow,Int.reduceMul,hT.all,hc]
  refine hS.one (pFrom M _ _) ?_
  simp only [gX,gT,gM,gL,gB,wantedA,evOp,opv,absC,absC0,isAggT,resA,resultA,binA,eqA,eqGuardA,isConstA,isFlatScalar,shiftOp,strOp,ordB,readN,sliceCells,lenA,storeA,newA,buildA,fillA,buildSliceA,boundsA,bndA,sliceA,ptrOK,fieldAddrA,fieldA,indexA,extractA,convA,isIntT,biA,bytesOf,setAll,List.replicate,Nat.reduceAdd,Nat.reduceSub,Nat.reduceMul,Nat.reduceLT,Nat.reduceLeDiff,Nat.reduceEqDiff,Int.reduceEq,Int.reduceLT,Int.reduceLE,Int.reduceNe,Int.reduceAdd,Nat.reduceBEq,reduceCtorEq,lenB_nil,lenB_slice,lenB_oslice,lenB_str,lenB_agg,indexAddrA_slice,indexAddrA_oslice,indexAddrA_ptr,indexAddrA_optr,loadA_ptr,loadA_optr,lenK,indexK,loadK,Int.reduceBEq,Int.reduceBNe,Int.reduceMod,Int.reduceDiv,Int.reduceTDiv,Int.reduceTMod,Int.reduceFDiv,Int.reduceSub,Int.reduceNeg,Int.reduceGT,Int.reduceGE,BitVec.reduceOfInt,BitVec.reduceAnd,BitVec.reduceOr,BitVec.reduceXOr,BitVec.reduceToNat,Int.reduceToNat,Int.reducePow,Int.reduceMul,hT.all,Int.toNat_natCast]
  unfold Ieee.Format.word; rfl

/-- A product that fits. -/
def Pr (x y : Int) : Prop := -2305843009213693952 ≤ x * y ∧ x * y ≤ 2305843009213693952
instance (x y : Int) : Decidable (Pr x y) := by unfold Pr; infer_instance

def In53 (x : Int) : Prop := -9007199254740992 ≤ x ∧ x ≤ 9007199254740992

end Go.Proofs.YtaaecodkdgkjoaaDoor.B
