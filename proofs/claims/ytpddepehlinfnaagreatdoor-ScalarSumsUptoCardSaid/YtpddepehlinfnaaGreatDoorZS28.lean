/- Part of a claim: the document rounds a row of words. -/
import Derived.Test.YtpddepehlinfnaaGreatDoorZS27
set_option linter.unusedSimpArgs false
set_option linter.unusedVariables false
set_option maxRecDepth 100000
set_option maxHeartbeats 10000000
namespace Go.Proofs.YtpddepehlinfnaaGreatDoor.B
open Go Go.RowKit Go.Proofs.YtpddepehlinfnaaGreatDoor.E Go.Proofs.YtpddepehlinfnaaGreatDoor.FL

/-- The document's rounding of 64 bits with something behind them. -/
theorem rRoundedS (M : Addr → Option AV) (H : Heap) {m : Nat} {e : Int} (hm1 : 9223372036854775808 ≤ m) (hm2 : m < 18446744073709551616) (he1 : -1074 ≤ e) (he2 : e ≤ 2900) :
    SemF Tryz.prog M 73 [.int .u64 m, .int .i64 e, .bool true] H fun v h => v = .float .f64 (rung (sticky m true) e) ∧ h = H := by
  have c0 : m ≠ 0 := by omega
  have hlog : m.log2 = 63 := log2_of (by rw [show 2 ^ 63 = 9223372036854775808 by decide]; exact hm1) (by rw [show 2 ^ (63 + 1) = 18446744073709551616 by decide]; exact hm2)
  have hlog2 := log2_sticky (s := true) c0
  rw [hlog] at hlog2
  have hs0 : sticky m true ≠ 0 := by unfold sticky; split <;> omega
  have hlp : lastP (sticky m true) e = e + 11 := by unfold lastP; rw [hlog2]; omega
  have hrr := rung_right (m := sticky m true) (e := e) hs0 (by omega)
  rw [hlp, show (e + 11 - e).toNat = 11 by omega, cutE_doc (by omega), show 2 ^ 11 = 2048 by decide, show 2 ^ (11 - 1) = 1024 by decide] at hrr
  have e1 : sticky m true / 2048 = m / 2048 := by unfold sticky; split <;> rename_i hh <;> simp at hh <;> omega
  have e2 : (1024 < sticky m true % 2048 ∨ (sticky m true % 2048 = 1024 ∧ sticky m true / 2048 % 2 = 1)) ↔ 1024 ≤ m % 2048 := by
    unfold sticky; split <;> rename_i hh <;> simp at hh <;> omega
  simp only [e2] at hrr
  simp only [e1] at hrr
  obtain ⟨r1, r2, r3⟩ := hrr
  rw [r1]
  have hnb : nb m = 64 := by unfold nb; rw [if_neg c0, hlog]
  have hbl := rBitLen M [] hm2
  rw [hnb] at hbl
  have b0 : ((m : Int) == 0) = false := by rw [beq_eq_false_iff_ne]; omega
  have c1 : ¬ e < -3000 := by omega
  have c2 : ¬ e > 3000 := by omega
  have w1 : IntKind.i64.wrap (e + ((64 : Nat) : Int)) = e + 64 := by rw [wrap_i64 (by omega) (by omega)]; rfl
  have w1' : IntKind.i64.wrap (e + 64) = e + 64 := wrap_i64 (by omega) (by omega)
  have w2 : IntKind.i64.wrap (e + 64 - 1) = e + 63 := by rw [wrap_i64 (by omega) (by omega)]; omega
  have w3 : IntKind.i64.wrap (e + 63 - 52) = e + 11 := by rw [wrap_i64 (by omega) (by omega)]; omega
  have hq0 : max (e + 11) (-1074) = e + 11 := by omega
  have w4 : IntKind.i64.wrap (e + 11 - e) = 11 := by rw [wrap_i64 (by omega) (by omega)]; omega
  have v0 : IntKind.i64.wrap 10 = 10 := rfl
  have v1 : IntKind.u64.wrap 10 = 10 := rfl
  have v2 : IntKind.u64.wrap 11 = 11 := rfl
  have v3 : shiftOp .shl .u64 1 10 = some (.int .u64 1024) := rfl
  have v4 : shiftOp .shl .u64 1 11 = some (.int .u64 2048) := rfl
  have v5 : IntKind.u64.wrap 2047 = 2047 := by decide
  have v6 : shiftOp .shr .u64 (m : Int) 11 = some (.int .u64 ((m / 2048 : Nat) : Int)) := shrU (a := m) (n := 11) (by omega)
  have v7 : IntKind.u64.wrap (((BitVec.ofInt 64 (m : Int)) &&& 2047#64).toNat : Int) = (m % 2048 : Nat) := by
    have h2 := and64 (a := m) (b := 2047) hm2 (by omega)
    have e : m &&& 2047 = m % 2048 := Nat.and_two_pow_sub_one_eq_mod m 11
    rw [e] at h2
    exact h2
  obtain ⟨a, ha⟩ : ∃ a, a = m / 2048 := ⟨_, rfl⟩
  obtain ⟨x, hx⟩ : ∃ x, x = m % 2048 := ⟨_, rfl⟩
  rw [← ha] at v6 r1 r2 r3 ⊢
  rw [← hx] at v7 r1 r2 r3 ⊢
  have w5 : IntKind.u64.wrap ((a : Int) + 1) = ((a + 1 : Nat) : Int) := by rw [wU]; omega
  by_cases t1 : (x : Int) > 1024
  · rw [if_pos (show 1024 ≤ x by omega)] at r2 r3 ⊢
    refine fpure rfl rfl (fw Tryz.func73 (by kernel_rfl) rfl (by kernel_rfl) fun C L T hT hS => ?_) H
    simp only [gX,gT,gM,gL,gB,wantedA,evOp,opv,absC,absC0,isAggT,resA,resultA,binA,eqA,eqGuardA,isConstA,isFlatScalar,shiftOp,strOp,ordB,readN,sliceCells,lenA,storeA,newA,buildA,fillA,buildSliceA,boundsA,bndA,sliceA,ptrOK,fieldAddrA,fieldA,indexA,extractA,convA,isIntT,biA,bytesOf,setAll,List.replicate,Nat.reduceAdd,Nat.reduceSub,Nat.reduceMul,Nat.reduceLT,Nat.reduceLeDiff,Nat.reduceEqDiff,Int.reduceEq,Int.reduceLT,Int.reduceLE,Int.reduceNe,Int.reduceAdd,Nat.reduceBEq,reduceCtorEq,lenB_nil,lenB_slice,lenB_oslice,lenB_str,lenB_agg,indexAddrA_slice,indexAddrA_oslice,indexAddrA_ptr,indexAddrA_optr,loadA_ptr,loadA_optr,lenK,indexK,loadK,Int.reduceBEq,Int.reduceBNe,Int.reduceMod,Int.reduceDiv,Int.reduceTDiv,Int.reduceTMod,Int.reduceFDiv,Int.reduceSub,Int.reduceNeg,Int.reduceGT,Int.reduceGE,BitVec.reduceOfInt,BitVec.reduceAnd,BitVec.reduceOr,BitVec.reduceXOr,BitVec.reduceToNat,Int.reduceToNat,Int.reducePow,Int.reduceMul,hT.all,Tryz.f73,b0,c1,c2]
    refine hS.one hbl ?_
    simp only [gX,gT,gM,gL,gB,wantedA,evOp,opv,absC,absC0,isAggT,resA,resultA,binA,eqA,eqGuardA,isConstA,isFlatScalar,strOp,ordB,readN,sliceCells,lenA,storeA,newA,buildA,fillA,buildSliceA,boundsA,bndA,sliceA,ptrOK,fieldAddrA,fieldA,indexA,extractA,convA,isIntT,bytesOf,setAll,List.replicate,Nat.reduceAdd,Nat.reduceSub,Nat.reduceMul,Nat.reduceLT,Nat.reduceLeDiff,Nat.reduceEqDiff,Int.reduceEq,Int.reduceLT,Int.reduceLE,Int.reduceNe,Int.reduceAdd,Nat.reduceBEq,reduceCtorEq,lenB_nil,lenB_slice,lenB_oslice,lenB_str,lenB_agg,indexAddrA_slice,indexAddrA_oslice,indexAddrA_ptr,indexAddrA_optr,loadA_ptr,loadA_optr,lenK,indexK,loadK,Int.reduceBEq,Int.reduceBNe,Int.reduceMod,Int.reduceDiv,Int.reduceTDiv,Int.reduceTMod,Int.reduceFDiv,Int.reduceSub,Int.reduceNeg,Int.reduceGT,Int.reduceGE,BitVec.reduceOfInt,BitVec.reduceAnd,BitVec.reduceOr,BitVec.reduceXOr,BitVec.reduceToNat,Int.reduceToNat,Int.reducePow,Int.reduceMul,hT.all,w1,w1',w2,w3,biA_max,hq0,w4,v0,v1,v2,v3,v4,v5,v6,v7,w5,t1]
    refine hS.one (rPacked M _ r2 (by omega) (by omega) r3) ?_
    simp only [gX,gT,gM,gL,gB,wantedA,evOp,opv,absC,absC0,isAggT,resA,resultA,binA,eqA,eqGuardA,isConstA,isFlatScalar,shiftOp,strOp,ordB,readN,sliceCells,lenA,storeA,newA,buildA,fillA,buildSliceA,boundsA,bndA,sliceA,ptrOK,fieldAddrA,fieldA,indexA,extractA,convA,isIntT,biA,bytesOf,setAll,List.replicate,Nat.reduceAdd,Nat.reduceSub,Nat.reduceMul,Nat.reduceLT,Nat.reduceLeDiff,Nat.reduceEqDiff,Int.reduceEq,Int.reduceLT,Int.reduceLE,Int.reduceNe,Int.reduceAdd,Nat.reduceBEq,reduceCtorEq,lenB_nil,lenB_slice,lenB_oslice,lenB_str,lenB_agg,indexAddrA_slice,indexAddrA_oslice,indexAddrA_ptr,indexAddrA_optr,loadA_ptr,loadA_optr,lenK,indexK,loadK,Int.reduceBEq,Int.reduceBNe,Int.reduceMod,Int.reduceDiv,Int.reduceTDiv,Int.reduceTMod,Int.reduceFDiv,Int.reduceSub,Int.reduceNeg,Int.reduceGT,Int.reduceGE,BitVec.reduceOfInt,BitVec.reduceAnd,BitVec.reduceOr,BitVec.reduceXOr,BitVec.reduceToNat,Int.reduceToNat,Int.reducePow,Int.reduceMul,hT.all]
  · by_cases t2 : x = 1024
    · have t2' : ((x : Int) == 1024) = true := by rw [beq_iff_eq]; omega
      rw [if_pos (show 1024 ≤ x by omega)] at r2 r3 ⊢
      refine fpure rfl rfl (fw Tryz.func73 (by kernel_rfl) rfl (by kernel_rfl) fun C L T hT hS => ?_) H
      simp only [gX,gT,gM,gL,gB,wantedA,evOp,opv,absC,absC0,isAggT,resA,resultA,binA,eqA,eqGuardA,isConstA,isFlatScalar,shiftOp,strOp,ordB,readN,sliceCells,lenA,storeA,newA,buildA,fillA,buildSliceA,boundsA,bndA,sliceA,ptrOK,fieldAddrA,fieldA,indexA,extractA,convA,isIntT,biA,bytesOf,setAll,List.replicate,Nat.reduceAdd,Nat.reduceSub,Nat.reduceMul,Nat.reduceLT,Nat.reduceLeDiff,Nat.reduceEqDiff,Int.reduceEq,Int.reduceLT,Int.reduceLE,Int.reduceNe,Int.reduceAdd,Nat.reduceBEq,reduceCtorEq,lenB_nil,lenB_slice,lenB_oslice,lenB_str,lenB_agg,indexAddrA_slice,indexAddrA_oslice,indexAddrA_ptr,indexAddrA_optr,loadA_ptr,loadA_optr,lenK,indexK,loadK,Int.reduceBEq,Int.reduceBNe,Int.reduceMod,Int.reduceDiv,Int.reduceTDiv,Int.reduceTMod,Int.reduceFDiv,Int.reduceSub,Int.reduceNeg,Int.reduceGT,Int.reduceGE,BitVec.reduceOfInt,BitVec.reduceAnd,BitVec.reduceOr,BitVec.reduceXOr,BitVec.reduceToNat,Int.reduceToNat,Int.reducePow,Int.reduceMul,hT.all,Tryz.f73,b0,c1,c2]
      refine hS.one hbl ?_
      simp only [gX,gT,gM,gL,gB,wantedA,evOp,opv,absC,absC0,isAggT,resA,resultA,binA,eqA,eqGuardA,isConstA,isFlatScalar,strOp,ordB,readN,sliceCells,lenA,storeA,newA,buildA,fillA,buildSliceA,boundsA,bndA,sliceA,ptrOK,fieldAddrA,fieldA,indexA,extractA,convA,isIntT,bytesOf,setAll,List.replicate,Nat.reduceAdd,Nat.reduceSub,Nat.reduceMul,Nat.reduceLT,Nat.reduceLeDiff,Nat.reduceEqDiff,Int.reduceEq,Int.reduceLT,Int.reduceLE,Int.reduceNe,Int.reduceAdd,Nat.reduceBEq,reduceCtorEq,lenB_nil,lenB_slice,lenB_oslice,lenB_str,lenB_agg,indexAddrA_slice,indexAddrA_oslice,indexAddrA_ptr,indexAddrA_optr,loadA_ptr,loadA_optr,lenK,indexK,loadK,Int.reduceBEq,Int.reduceBNe,Int.reduceMod,Int.reduceDiv,Int.reduceTDiv,Int.reduceTMod,Int.reduceFDiv,Int.reduceSub,Int.reduceNeg,Int.reduceGT,Int.reduceGE,BitVec.reduceOfInt,BitVec.reduceAnd,BitVec.reduceOr,BitVec.reduceXOr,BitVec.reduceToNat,Int.reduceToNat,Int.reducePow,Int.reduceMul,hT.all,w1,w1',w2,w3,biA_max,hq0,w4,v0,v1,v2,v3,v4,v5,v6,v7,w5,t1,t2']
      refine hS.one (rPacked M _ r2 (by omega) (by omega) r3) ?_
      simp only [gX,gT,gM,gL,gB,wantedA,evOp,opv,absC,absC0,isAggT,resA,resultA,binA,eqA,eqGuardA,isConstA,isFlatScalar,shiftOp,strOp,ordB,readN,sliceCells,lenA,storeA,newA,buildA,fillA,buildSliceA,boundsA,bndA,sliceA,ptrOK,fieldAddrA,fieldA,indexA,extractA,convA,isIntT,biA,bytesOf,setAll,List.replicate,Nat.reduceAdd,Nat.reduceSub,Nat.reduceMul,Nat.reduceLT,Nat.reduceLeDiff,Nat.reduceEqDiff,Int.reduceEq,Int.reduceLT,Int.reduceLE,Int.reduceNe,Int.reduceAdd,Nat.reduceBEq,reduceCtorEq,lenB_nil,lenB_slice,lenB_oslice,lenB_str,lenB_agg,indexAddrA_slice,indexAddrA_oslice,indexAddrA_ptr,indexAddrA_optr,loadA_ptr,loadA_optr,lenK,indexK,loadK,Int.reduceBEq,Int.reduceBNe,Int.reduceMod,Int.reduceDiv,Int.reduceTDiv,Int.reduceTMod,Int.reduceFDiv,Int.reduceSub,Int.reduceNeg,Int.reduceGT,Int.reduceGE,BitVec.reduceOfInt,BitVec.reduceAnd,BitVec.reduceOr,BitVec.reduceXOr,BitVec.reduceToNat,Int.reduceToNat,Int.reducePow,Int.reduceMul,hT.all]
    · have t2' : ((x : Int) == 1024) = false := by rw [beq_eq_false_iff_ne]; omega
      rw [if_neg (show ¬ 1024 ≤ x by omega), Nat.add_zero] at r2 r3 ⊢
      refine fpure rfl rfl (fw Tryz.func73 (by kernel_rfl) rfl (by kernel_rfl) fun C L T hT hS => ?_) H
      simp only [gX,gT,gM,gL,gB,wantedA,evOp,opv,absC,absC0,isAggT,resA,resultA,binA,eqA,eqGuardA,isConstA,isFlatScalar,shiftOp,strOp,ordB,readN,sliceCells,lenA,storeA,newA,buildA,fillA,buildSliceA,boundsA,bndA,sliceA,ptrOK,fieldAddrA,fieldA,indexA,extractA,convA,isIntT,biA,bytesOf,setAll,List.replicate,Nat.reduceAdd,Nat.reduceSub,Nat.reduceMul,Nat.reduceLT,Nat.reduceLeDiff,Nat.reduceEqDiff,Int.reduceEq,Int.reduceLT,Int.reduceLE,Int.reduceNe,Int.reduceAdd,Nat.reduceBEq,reduceCtorEq,lenB_nil,lenB_slice,lenB_oslice,lenB_str,lenB_agg,indexAddrA_slice,indexAddrA_oslice,indexAddrA_ptr,indexAddrA_optr,loadA_ptr,loadA_optr,lenK,indexK,loadK,Int.reduceBEq,Int.reduceBNe,Int.reduceMod,Int.reduceDiv,Int.reduceTDiv,Int.reduceTMod,Int.reduceFDiv,Int.reduceSub,Int.reduceNeg,Int.reduceGT,Int.reduceGE,BitVec.reduceOfInt,BitVec.reduceAnd,BitVec.reduceOr,BitVec.reduceXOr,BitVec.reduceToNat,Int.reduceToNat,Int.reducePow,Int.reduceMul,hT.all,Tryz.f73,b0,c1,c2]
      refine hS.one hbl ?_
      simp only [gX,gT,gM,gL,gB,wantedA,evOp,opv,absC,absC0,isAggT,resA,resultA,binA,eqA,eqGuardA,isConstA,isFlatScalar,strOp,ordB,readN,sliceCells,lenA,storeA,newA,buildA,fillA,buildSliceA,boundsA,bndA,sliceA,ptrOK,fieldAddrA,fieldA,indexA,extractA,convA,isIntT,bytesOf,setAll,List.replicate,Nat.reduceAdd,Nat.reduceSub,Nat.reduceMul,Nat.reduceLT,Nat.reduceLeDiff,Nat.reduceEqDiff,Int.reduceEq,Int.reduceLT,Int.reduceLE,Int.reduceNe,Int.reduceAdd,Nat.reduceBEq,reduceCtorEq,lenB_nil,lenB_slice,lenB_oslice,lenB_str,lenB_agg,indexAddrA_slice,indexAddrA_oslice,indexAddrA_ptr,indexAddrA_optr,loadA_ptr,loadA_optr,lenK,indexK,loadK,Int.reduceBEq,Int.reduceBNe,Int.reduceMod,Int.reduceDiv,Int.reduceTDiv,Int.reduceTMod,Int.reduceFDiv,Int.reduceSub,Int.reduceNeg,Int.reduceGT,Int.reduceGE,BitVec.reduceOfInt,BitVec.reduceAnd,BitVec.reduceOr,BitVec.reduceXOr,BitVec.reduceToNat,Int.reduceToNat,Int.reducePow,Int.reduceMul,hT.all,w1,w1',w2,w3,biA_max,hq0,w4,v0,v1,v2,v3,v4,v5,v6,v7,t1,t2']
      refine hS.one (rPacked M _ r2 (by omega) (by omega) r3) ?_
      simp only [gX,gT,gM,gL,gB,wantedA,evOp,opv,absC,absC0,isAggT,resA,resultA,binA,eqA,eqGuardA,isConstA,isFlatScalar,shiftOp,strOp,ordB,readN,sliceCells,lenA,storeA,newA,buildA,fillA,buildSliceA,boundsA,bndA,sliceA,ptrOK,fieldAddrA,fieldA,indexA,extractA,convA,isIntT,biA,bytesOf,setAll,List.replicate,Nat.reduceAdd,Nat.reduceSub,Nat.reduceMul,Nat.reduceLT,Nat.reduceLeDiff,Nat.reduceEqDiff,Int.reduceEq,Int.reduceLT,Int.reduceLE,Int.reduceNe,Int.reduceAdd,Nat.reduceBEq,reduceCtorEq,lenB_nil,lenB_slice,lenB_oslice,lenB_str,lenB_agg,indexAddrA_slice,indexAddrA_oslice,indexAddrA_ptr,indexAddrA_optr,loadA_ptr,loadA_optr,lenK,indexK,loadK,Int.reduceBEq,Int.reduceBNe,Int.reduceMod,Int.reduceDiv,Int.reduceTDiv,Int.reduceTMod,Int.reduceFDiv,Int.reduceSub,Int.reduceNeg,Int.reduceGT,Int.reduceGE,BitVec.reduceOfInt,BitVec.reduceAnd,BitVec.reduceOr,BitVec.reduceXOr,BitVec.reduceToNat,Int.reduceToNat,Int.reducePow,Int.reduceMul,hT.all]

theorem shrIn {x n : Nat} (hn : n ≤ 64) : shiftOp .shr .i64 (x : Int) (n : Int) = some (.int .i64 ((x / 2 ^ n : Nat) : Int)) := by
  unfold shiftOp
  rw [if_neg (by omega)]
  have e : min ((n : Int).toNat) (IntKind.bits .i64) = n := by
    show min ((n : Int).toNat) 64 = n
    omega
  simp only [e]
  congr 2
  rw [Int.fdiv_eq_ediv_of_nonneg _ (Int.pow_nonneg (by decide)), Int.natCast_ediv, Int.natCast_pow]; rfl

/-- The document's rounding of the first bits, whatever lies behind. -/
theorem rRoundedB (M : Addr → Option AV) (H : Heap) {m : Nat} {e : Int} {b : Bool} (hm1 : b = true → 9223372036854775808 ≤ m) (hm2 : m < 18446744073709551616) (he1 : -1074 ≤ e) (he2 : e ≤ 2900) :
    SemF Tryz.prog M 73 [.int .u64 m, .int .i64 e, .bool b] H fun v h => v = .float .f64 (rung (sticky m b) e) ∧ h = H := by
  cases b
  · rw [show sticky m false = m by simp [sticky]]
    exact rRounded M H hm2 (by unfold I64; omega)
  · exact rRoundedS M H (hm1 rfl) hm2 he1 he2

/-- The document rounds a row of words. -/
theorem rLeading (M : Addr → Option AV) {H : Heap} {b ep : Nat} {el : TypeId} {w : List Int} {Tn : Nat} (hw : Wd H b ep el w) (hl : w.length = 72) (hd : Dig w) (hTn : Tn = nl w) :
    SemF Tryz.prog M 67 [wS b ep] H fun v h => v = .float .f64 (rung Tn (-1074)) ∧ h = H := by
  refine fw Tryz.func67 (by kernel_rfl) rfl (by kernel_rfl) fun C L T hT hS => ?_
  unfold wS
  have nx : ∀ n : Nat, n < 72 → indexAddrA T H 72 (.slice b ep 0 1 72 (some 72)) (.int .i64 (n : Int)) = some (.ptr b ep n) := fun n hn => Wd.sx hT.ty72 rfl hT.ty2 rfl hn
  have ox : ∀ n : Nat, n < 72 → loadA T M H 2 (.ptr b ep n) = some (.int .i64 (((w.getD n 0).toNat : Nat) : Int)) := fun n hn => by
    rw [hw.ld (by omega) hT.ty2 rfl, Int.toNat_of_nonneg (hd.at_ n).1]
  have bitx : ∀ k : Nat, k < 2304 → (w.getD (k / 32) 0).toNat / 2 ^ (k % 32) % 2 = Tn / 2 ^ k % 2 := fun k hk => by rw [hTn]; exact hd.bit (by omega)
  have b63 : ∀ k : Nat, (w.getD (k / 32) 0).toNat / 2 ^ (k % 32) < 9223372036854775808 := fun k => by
    have := hd.at_ (k / 32)
    exact Nat.lt_of_le_of_lt (Nat.div_le_self _ _) (by omega)
  obtain ⟨tb, htb⟩ : ∃ tb, tb = 32 * w.length := ⟨_, rfl⟩
  have hTb : Tn < 2 ^ tb := by rw [hTn, htb]; exact hd.val.2
  have htb2 : tb = 2304 := by omega
  clear hTn
  simp only [gX,gT,gM,gL,gB,wantedA,evOp,opv,absC,absC0,isAggT,resA,resultA,binA,eqA,eqGuardA,isConstA,isFlatScalar,shiftOp,strOp,ordB,readN,sliceCells,lenA,storeA,newA,buildA,fillA,buildSliceA,boundsA,bndA,sliceA,ptrOK,fieldAddrA,fieldA,indexA,extractA,convA,isIntT,biA,bytesOf,setAll,List.replicate,Nat.reduceAdd,Nat.reduceSub,Nat.reduceMul,Nat.reduceLT,Nat.reduceLeDiff,Nat.reduceEqDiff,Int.reduceEq,Int.reduceLT,Int.reduceLE,Int.reduceNe,Int.reduceAdd,Nat.reduceBEq,reduceCtorEq,lenB_nil,lenB_slice,lenB_oslice,lenB_str,lenB_agg,indexAddrA_slice,indexAddrA_oslice,indexAddrA_ptr,indexAddrA_optr,loadA_ptr,loadA_optr,lenK,indexK,loadK,Int.reduceBEq,Int.reduceBNe,Int.reduceMod,Int.reduceDiv,Int.reduceTDiv,Int.reduceTMod,Int.reduceFDiv,Int.reduceSub,Int.reduceNeg,Int.reduceGT,Int.reduceGE,BitVec.reduceOfInt,BitVec.reduceAnd,BitVec.reduceOr,BitVec.reduceXOr,BitVec.reduceToNat,Int.reduceToNat,Int.reducePow,Int.reduceMul,hT.all,Tryz.f67]
  refine hS.loop (fun m e h => ∃ (t : Nat) (Iy : Int) (j1 : AV) (j : List AV), e = .slice b ep 0 1 72 (some 72) :: j1 :: .float .f64 0 :: .int .i64 Iy :: j ∧ j.length = 71 ∧ Iy = (t : Int) - 1 ∧ t = m ∧ t ≤ 2304 ∧ Tn < 2 ^ t ∧ h = H) tb ⟨tb, 2303, _, _, rfl, rfl, by omega, rfl, by omega, hTb, rfl⟩ ?_
  rintro m e h ⟨t, Iy, j1, j, rfl, hj, hIy, rfl, ht, hTt, rfl⟩ J hJ
  obtain ⟨g, rfl⟩ : ∃ g : Nat → AV, j = [g 0, g 1, g 2, g 3, g 4, g 5, g 6, g 7, g 8, g 9, g 10, g 11, g 12, g 13, g 14, g 15, g 16, g 17, g 18, g 19, g 20, g 21, g 22, g 23, g 24, g 25, g 26, g 27, g 28, g 29, g 30, g 31, g 32, g 33, g 34, g 35, g 36, g 37, g 38, g 39, g 40, g 41, g 42, g 43, g 44, g 45, g 46, g 47, g 48, g 49, g 50, g 51, g 52, g 53, g 54, g 55, g 56, g 57, g 58, g 59, g 60, g 61, g 62, g 63, g 64, g 65, g 66, g 67, g 68, g 69, g 70] := junk 71 j hj
  by_cases h0 : t = 0
  · subst h0
    have hT0 : Tn = 0 := by rw [Nat.pow_zero] at hTt; omega
    rw [hT0, rung_0]
    obtain rfl : Iy = -1 := by omega
    simp only [gX,gT,gM,gL,gB,wantedA,evOp,opv,absC,absC0,isAggT,resA,resultA,binA,eqA,eqGuardA,isConstA,isFlatScalar,shiftOp,strOp,ordB,readN,sliceCells,lenA,storeA,newA,buildA,fillA,buildSliceA,boundsA,bndA,sliceA,ptrOK,fieldAddrA,fieldA,indexA,extractA,convA,isIntT,biA,bytesOf,setAll,List.replicate,Nat.reduceAdd,Nat.reduceSub,Nat.reduceMul,Nat.reduceLT,Nat.reduceLeDiff,Nat.reduceEqDiff,Int.reduceEq,Int.reduceLT,Int.reduceLE,Int.reduceNe,Int.reduceAdd,Nat.reduceBEq,reduceCtorEq,lenB_nil,lenB_slice,lenB_oslice,lenB_str,lenB_agg,indexAddrA_slice,indexAddrA_oslice,indexAddrA_ptr,indexAddrA_optr,loadA_ptr,loadA_optr,lenK,indexK,loadK,Int.reduceBEq,Int.reduceBNe,Int.reduceMod,Int.reduceDiv,Int.reduceTDiv,Int.reduceTMod,Int.reduceFDiv,Int.reduceSub,Int.reduceNeg,Int.reduceGT,Int.reduceGE,BitVec.reduceOfInt,BitVec.reduceAnd,BitVec.reduceOr,BitVec.reduceXOr,BitVec.reduceToNat,Int.reduceToNat,Int.reducePow,Int.reduceMul,hT.all]
  obtain ⟨u, rfl⟩ : ∃ u, t = u + 1 := ⟨t - 1, by omega⟩
  obtain rfl : Iy = (u : Int) := by omega
  have g1 : (u : Int) ≥ 0 := by omega
  have d1 : ∀ k : Nat, (k : Int).tdiv 32 = ((k / 32 : Nat) : Int) := fun k => by rw [Int.tdiv_eq_ediv_of_nonneg (by omega)]; omega
  have d2 : ∀ k : Nat, (k : Int).tmod 32 = ((k % 32 : Nat) : Int) := fun k => by rw [Int.tmod_eq_emod_of_nonneg (by omega)]; omega
  have i1 : ∀ k : Nat, k < 3000 → IntKind.i64.wrap ((k / 32 : Nat) : Int) = ((k / 32 : Nat) : Int) := fun k hk => wrap_i64 (by omega) (by omega)
  have i2 : ∀ k : Nat, IntKind.u64.wrap ((k % 32 : Nat) : Int) = ((k % 32 : Nat) : Int) := fun k => by rw [wU]; omega
  have v1 := shrIn (x := (w.getD (u / 32) 0).toNat) (n := u % 32) (by omega)
  have a1 := and1I (b63 u)
  rw [bitx u (by omega)] at a1
  have n1 := nx (u / 32) (by omega)
  have o1 := ox (u / 32) (by omega)
  have d1u := d1 u
  have d2u := d2 u
  have i1u := i1 u (by omega)
  have i2u := i2 u
  obtain ⟨xu, hxu⟩ : ∃ x, x = (w.getD (u / 32) 0).toNat := ⟨_, rfl⟩
  obtain ⟨qu, hqu⟩ : ∃ x, x = u / 32 := ⟨_, rfl⟩
  obtain ⟨ru, hru⟩ : ∃ x, x = u % 32 := ⟨_, rfl⟩
  rw [← hxu] at v1 a1 o1
  rw [← hqu] at n1 o1 d1u i1u
  rw [← hru] at v1 a1 d2u i2u
  obtain ⟨yu, hyu⟩ : ∃ y, y = xu / 2 ^ ru := ⟨_, rfl⟩
  rw [← hyu] at v1 a1
  rcases Nat.mod_two_eq_zero_or_one (Tn / 2 ^ u) with hbit | hbit
  · rw [hbit] at a1
    have iu : IntKind.i64.wrap ((u : Int) - 1) = (u : Int) - 1 := wrap_i64 (by omega) (by omega)
    have hlt : Tn < 2 ^ u := by
      have hp := Nat.two_pow_pos u
      rw [Nat.pow_succ] at hTt
      have h1 : Tn / 2 ^ u < 2 := by rw [Nat.div_lt_iff_lt_mul hp]; omega
      have h2 : Tn / 2 ^ u = 0 := by
        generalize Tn / 2 ^ u = d at h1 hbit
        omega
      rcases Nat.div_eq_zero_iff.1 h2 with h3 | h3
      · omega
      · exact h3
    simp only [gX,gT,gM,gL,gB,wantedA,evOp,opv,absC,absC0,isAggT,resA,resultA,binA,eqA,eqGuardA,isConstA,isFlatScalar,strOp,ordB,readN,sliceCells,lenA,storeA,newA,buildA,fillA,buildSliceA,boundsA,bndA,sliceA,ptrOK,fieldAddrA,fieldA,indexA,extractA,convA,isIntT,biA,bytesOf,setAll,List.replicate,Nat.reduceAdd,Nat.reduceSub,Nat.reduceMul,Nat.reduceLT,Nat.reduceLeDiff,Nat.reduceEqDiff,Int.reduceEq,Int.reduceLT,Int.reduceLE,Int.reduceNe,Int.reduceAdd,Nat.reduceBEq,reduceCtorEq,lenB_nil,lenB_slice,lenB_oslice,lenB_str,lenB_agg,indexAddrA_oslice,indexAddrA_ptr,indexAddrA_optr,loadA_optr,lenK,indexK,loadK,Int.reduceBEq,Int.reduceBNe,Int.reduceMod,Int.reduceDiv,Int.reduceTDiv,Int.reduceTMod,Int.reduceFDiv,Int.reduceSub,Int.reduceNeg,Int.reduceGT,Int.reduceGE,BitVec.reduceOfInt,BitVec.reduceAnd,BitVec.reduceOr,BitVec.reduceXOr,BitVec.reduceToNat,Int.reduceToNat,Int.reducePow,Int.reduceMul,hT.all,g1,d1u,d2u,i1u,i2u,n1,o1,v1,a1,iu]
    exact hJ u _ _ _ (by omega) (Weak.refl _) ⟨u, _, _, _, rfl, rfl, rfl, rfl, by omega, hlt, rfl⟩
  rw [hbit] at a1
  have hT0 : Tn ≠ 0 := by rintro rfl; rw [Nat.zero_div] at hbit; cases hbit
  have hlog : Tn.log2 = u := log2_of (by
    refine Nat.not_lt.1 fun hc => ?_
    rw [Nat.div_eq_of_lt hc] at hbit; cases hbit) hTt
  have hfirst := doc_first hT0
  have hbits := doc_bits hT0
  rw [hlog] at hfirst hbits
  obtain ⟨low, hlow⟩ : ∃ low, low = u - 63 := ⟨_, rfl⟩
  rw [← hlow] at hfirst hbits
  clear d1u d2u i1u i2u
  have d1u := d1 u
  have d2u := d2 u
  have i1u := i1 u (by omega)
  have i2u := i2 u
  rw [← hqu] at d1u i1u
  rw [← hru] at d2u i2u
  have g2 : ¬ (u : Int) < 0 := by omega
  have i3 : IntKind.i64.wrap ((u : Int) - 63) = (u : Int) - 63 := wrap_i64 (by omega) (by omega)
  have i4 : max ((u : Int) - 63) 0 = (low : Int) := by omega
  simp only [gX,gT,gM,gL,gB,wantedA,evOp,opv,absC,absC0,isAggT,resA,resultA,binA,eqA,eqGuardA,isConstA,isFlatScalar,strOp,ordB,readN,sliceCells,lenA,storeA,newA,buildA,fillA,buildSliceA,boundsA,bndA,sliceA,ptrOK,fieldAddrA,fieldA,indexA,extractA,convA,isIntT,bytesOf,setAll,List.replicate,Nat.reduceAdd,Nat.reduceSub,Nat.reduceMul,Nat.reduceLT,Nat.reduceLeDiff,Nat.reduceEqDiff,Int.reduceEq,Int.reduceLT,Int.reduceLE,Int.reduceNe,Int.reduceAdd,Nat.reduceBEq,reduceCtorEq,lenB_nil,lenB_slice,lenB_oslice,lenB_str,lenB_agg,indexAddrA_oslice,indexAddrA_ptr,indexAddrA_optr,loadA_optr,lenK,indexK,loadK,Int.reduceBEq,Int.reduceBNe,Int.reduceMod,Int.reduceDiv,Int.reduceTDiv,Int.reduceTMod,Int.reduceFDiv,Int.reduceSub,Int.reduceNeg,Int.reduceGT,Int.reduceGE,BitVec.reduceOfInt,BitVec.reduceAnd,BitVec.reduceOr,BitVec.reduceXOr,BitVec.reduceToNat,Int.reduceToNat,Int.reducePow,Int.reduceMul,hT.all,g1,d1u,d2u,i1u,i2u,n1,o1,v1,a1,g2,i3,biA_max,i4]
  refine hS.loop (fun m e h' => ∃ (n Am : Nat) (Ix : Int) (j : List AV), e = .slice b ep 0 1 72 (some 72) :: j1 :: .float .f64 0 :: .int .i64 (u : Int) :: .int .u64 (Am : Int) :: .int .i64 (low : Int) :: .int .i64 Ix :: j ∧ j.length = 68 ∧ Am = Tn / 2 ^ (low + n) ∧ Ix = (low : Int) + (n : Int) - 1 ∧ n = m ∧ low + n ≤ u + 1 ∧ h' = h) (u + 1 - low) ⟨u + 1 - low, 0, (u : Int), _, rfl, rfl, by rw [show low + (u + 1 - low) = u + 1 by omega, Nat.div_eq_of_lt hTt], by omega, rfl, by omega, rfl⟩ ?_
  rintro m' e h' ⟨n, Am, Ix, j, rfl, hj, hAm, hIx, rfl, hn, rfl⟩ J' hJ'
  obtain ⟨g, rfl⟩ : ∃ g : Nat → AV, j = [g 0, g 1, g 2, g 3, g 4, g 5, g 6, g 7, g 8, g 9, g 10, g 11, g 12, g 13, g 14, g 15, g 16, g 17, g 18, g 19, g 20, g 21, g 22, g 23, g 24, g 25, g 26, g 27, g 28, g 29, g 30, g 31, g 32, g 33, g 34, g 35, g 36, g 37, g 38, g 39, g 40, g 41, g 42, g 43, g 44, g 45, g 46, g 47, g 48, g 49, g 50, g 51, g 52, g 53, g 54, g 55, g 56, g 57, g 58, g 59, g 60, g 61, g 62, g 63, g 64, g 65, g 66, g 67] := junk 68 j hj
  by_cases hn0 : n = 0
  rotate_left
  · obtain ⟨n, rfl⟩ : ∃ k, n = k + 1 := ⟨n - 1, by omega⟩
    obtain ⟨k, hk⟩ : ∃ k, k = low + n := ⟨_, rfl⟩
    obtain rfl : Ix = (k : Int) := by omega
    rw [show low + (n + 1) = k + 1 by omega] at hAm
    have g3 : (k : Int) ≥ (low : Int) := by omega
    have hstep := half_step Tn k
    have hTk : Tn / 2 ^ k < 18446744073709551616 := by
      refine Nat.lt_of_le_of_lt (Nat.div_le_div_left (Nat.pow_le_pow_right (by omega) (show low ≤ k by omega)) (Nat.two_pow_pos _)) hbits.1
    obtain ⟨A, hA0⟩ : ∃ A, A = Am := ⟨_, rfl⟩
    rw [← hA0] at hAm ⊢
    have hA : A = Tn / 2 ^ (k + 1) := hAm
    obtain ⟨A', hA'⟩ : ∃ A, A = Tn / 2 ^ k := ⟨_, rfl⟩
    have b1 := bitx k (by omega)
    have a3 := and1I (b63 k)
    rw [b1, ← hA'] at a3
    rw [← hA, ← hA'] at hstep
    rw [← hA'] at hTk
    have v3 : shiftOp .shl .u64 (A : Int) 1 = some (.int .u64 ((A * 2 ^ 1 : Nat) : Int)) := shlU (a := A) (n := 1) (by omega) (by omega)
    have q3 := or64 (k := 1) (a := A) (b := A' % 2) (by omega) (by omega) (by omega)
    rw [show A * 2 ^ 1 + A' % 2 = A' by omega] at q3
    obtain ⟨A2, hA2⟩ : ∃ y, y = A * 2 ^ 1 := ⟨_, rfl⟩
    rw [← hA2] at v3 q3
    have v4 := shrIn (x := (w.getD (k / 32) 0).toNat) (n := k % 32) (by omega)
    have n3 := nx (k / 32) (by omega)
    have o3 := ox (k / 32) (by omega)
    have d3 := d1 k
    have d4 := d2 k
    have i5 := i1 k (by omega)
    have i6 := i2 k
    have i7 : IntKind.u64.wrap ((A' % 2 : Nat) : Int) = ((A' % 2 : Nat) : Int) := by rw [wU]; omega
    have i8 : IntKind.i64.wrap ((k : Int) - 1) = (low : Int) + (n : Int) - 1 := by rw [wrap_i64 (by omega) (by omega)]; omega
    obtain ⟨bk, hbk⟩ : ∃ y, y = A' % 2 := ⟨_, rfl⟩
    rw [← hbk] at a3 q3 i7
    obtain ⟨xk, hxk⟩ : ∃ x, x = (w.getD (k / 32) 0).toNat := ⟨_, rfl⟩
    obtain ⟨qk, hqk⟩ : ∃ x, x = k / 32 := ⟨_, rfl⟩
    obtain ⟨rk, hrk⟩ : ∃ x, x = k % 32 := ⟨_, rfl⟩
    rw [← hxk] at v4 a3 o3
    rw [← hqk] at n3 o3 d3 i5
    rw [← hrk] at v4 a3 d4 i6
    obtain ⟨yk, hyk⟩ : ∃ y, y = xk / 2 ^ rk := ⟨_, rfl⟩
    rw [← hyk] at v4 a3
    simp only [gX,gT,gM,gL,gB,wantedA,evOp,opv,absC,absC0,isAggT,resA,resultA,binA,eqA,eqGuardA,isConstA,isFlatScalar,strOp,ordB,readN,sliceCells,lenA,storeA,newA,buildA,fillA,buildSliceA,boundsA,bndA,sliceA,ptrOK,fieldAddrA,fieldA,indexA,extractA,convA,isIntT,biA,bytesOf,setAll,List.replicate,Nat.reduceAdd,Nat.reduceSub,Nat.reduceMul,Nat.reduceLT,Nat.reduceLeDiff,Nat.reduceEqDiff,Int.reduceEq,Int.reduceLT,Int.reduceLE,Int.reduceNe,Int.reduceAdd,Nat.reduceBEq,reduceCtorEq,lenB_nil,lenB_slice,lenB_oslice,lenB_str,lenB_agg,indexAddrA_oslice,indexAddrA_ptr,indexAddrA_optr,loadA_optr,lenK,indexK,loadK,Int.reduceBEq,Int.reduceBNe,Int.reduceMod,Int.reduceDiv,Int.reduceTDiv,Int.reduceTMod,Int.reduceFDiv,Int.reduceSub,Int.reduceNeg,Int.reduceGT,Int.reduceGE,BitVec.reduceOfInt,BitVec.reduceAnd,BitVec.reduceOr,BitVec.reduceXOr,BitVec.reduceToNat,Int.reduceToNat,Int.reducePow,Int.reduceMul,hT.all,g3,v3,d3,d4,i5,i6,n3,o3,v4,a3,i7,q3,i8]
    exact hJ' n _ _ _ (by omega) (Weak.refl _) ⟨n, A', (low : Int) + (n : Int) - 1, _, rfl, rfl, by rw [← hk, hA'], rfl, rfl, by omega, rfl⟩
  subst hn0
  rw [Nat.add_zero] at hAm
  have g4 : ¬ (Ix ≥ (low : Int)) := by omega
  obtain ⟨mm, hmm⟩ : ∃ mm, mm = Am := ⟨_, rfl⟩
  rw [← hmm] at hAm ⊢
  rw [← hAm] at hfirst hbits
  simp only [gX,gT,gM,gL,gB,wantedA,evOp,opv,absC,absC0,isAggT,resA,resultA,binA,eqA,eqGuardA,isConstA,isFlatScalar,shiftOp,strOp,ordB,readN,sliceCells,lenA,storeA,newA,buildA,fillA,buildSliceA,boundsA,bndA,sliceA,ptrOK,fieldAddrA,fieldA,indexA,extractA,convA,isIntT,biA,bytesOf,setAll,List.replicate,Nat.reduceAdd,Nat.reduceSub,Nat.reduceMul,Nat.reduceLT,Nat.reduceLeDiff,Nat.reduceEqDiff,Int.reduceEq,Int.reduceLT,Int.reduceLE,Int.reduceNe,Int.reduceAdd,Nat.reduceBEq,reduceCtorEq,lenB_nil,lenB_slice,lenB_oslice,lenB_str,lenB_agg,indexAddrA_slice,indexAddrA_oslice,indexAddrA_ptr,indexAddrA_optr,loadA_ptr,loadA_optr,lenK,indexK,loadK,Int.reduceBEq,Int.reduceBNe,Int.reduceMod,Int.reduceDiv,Int.reduceTDiv,Int.reduceTMod,Int.reduceFDiv,Int.reduceSub,Int.reduceNeg,Int.reduceGT,Int.reduceGE,BitVec.reduceOfInt,BitVec.reduceAnd,BitVec.reduceOr,BitVec.reduceXOr,BitVec.reduceToNat,Int.reduceToNat,Int.reducePow,Int.reduceMul,hT.all,g4]
  refine hS.loop (fun m e h2 => ∃ (k : Nat) (st : Bool) (j6 : AV) (j : List AV), e = .slice b ep 0 1 72 (some 72) :: j1 :: .float .f64 0 :: .int .i64 (u : Int) :: .int .u64 (mm : Int) :: .int .i64 (low : Int) :: j6 :: .bool st :: .int .i64 k :: j ∧ j.length = 66 ∧ k + m = low ∧ st = decide (Tn % 2 ^ k ≠ 0) ∧ h2 = h') low ⟨0, false, _, _, rfl, rfl, by omega, by rw [Nat.pow_zero, Nat.mod_one]; rfl, rfl⟩ ?_
  rintro m' e h2 ⟨k, st, j6, j, rfl, hj, hk, hst, rfl⟩ J'' hJ''
  obtain ⟨g, rfl⟩ : ∃ g : Nat → AV, j = [g 0, g 1, g 2, g 3, g 4, g 5, g 6, g 7, g 8, g 9, g 10, g 11, g 12, g 13, g 14, g 15, g 16, g 17, g 18, g 19, g 20, g 21, g 22, g 23, g 24, g 25, g 26, g 27, g 28, g 29, g 30, g 31, g 32, g 33, g 34, g 35, g 36, g 37, g 38, g 39, g 40, g 41, g 42, g 43, g 44, g 45, g 46, g 47, g 48, g 49, g 50, g 51, g 52, g 53, g 54, g 55, g 56, g 57, g 58, g 59, g 60, g 61, g 62, g 63, g 64, g 65] := junk 66 j hj
  by_cases hkl : k < low
  · have g5 : (k : Int) < (low : Int) := by omega
    have hls := low_bit_step Tn k
    rw [← hst] at hls
    have b1 := bitx k (by omega)
    have a3 := and1I (b63 k)
    rw [b1] at a3
    have v4 := shrIn (x := (w.getD (k / 32) 0).toNat) (n := k % 32) (by omega)
    have n3 := nx (k / 32) (by omega)
    have o3 := ox (k / 32) (by omega)
    have d3 := d1 k
    have d4 := d2 k
    have i5 := i1 k (by omega)
    have i6 := i2 k
    have i8 : IntKind.i64.wrap ((k : Int) + 1) = ((k + 1 : Nat) : Int) := by rw [wrap_i64 (by omega) (by omega)]; omega
    obtain ⟨bk, hbk⟩ : ∃ y, y = Tn / 2 ^ k % 2 := ⟨_, rfl⟩
    rw [← hbk] at a3 hls
    have b5 : ((bk : Int) == 1) = decide (bk = 1) := by
      by_cases z : bk = 1
      · subst z; rfl
      · rw [decide_eq_false z, beq_eq_false_iff_ne]; omega
    obtain ⟨γ, hγ⟩ : ∃ γ, γ = decide (bk = 1) := ⟨_, rfl⟩
    rw [← hγ] at b5 hls
    obtain ⟨xk, hxk⟩ : ∃ x, x = (w.getD (k / 32) 0).toNat := ⟨_, rfl⟩
    obtain ⟨qk, hqk⟩ : ∃ x, x = k / 32 := ⟨_, rfl⟩
    obtain ⟨rk, hrk⟩ : ∃ x, x = k % 32 := ⟨_, rfl⟩
    rw [← hxk] at v4 a3 o3
    rw [← hqk] at n3 o3 d3 i5
    rw [← hrk] at v4 a3 d4 i6
    obtain ⟨yk, hyk⟩ : ∃ y, y = xk / 2 ^ rk := ⟨_, rfl⟩
    rw [← hyk] at v4 a3
    clear hst
    cases st
    · simp only [gX,gT,gM,gL,gB,wantedA,evOp,opv,absC,absC0,isAggT,resA,resultA,binA,eqA,eqGuardA,isConstA,isFlatScalar,strOp,ordB,readN,sliceCells,lenA,storeA,newA,buildA,fillA,buildSliceA,boundsA,bndA,sliceA,ptrOK,fieldAddrA,fieldA,indexA,extractA,convA,isIntT,biA,bytesOf,setAll,List.replicate,Nat.reduceAdd,Nat.reduceSub,Nat.reduceMul,Nat.reduceLT,Nat.reduceLeDiff,Nat.reduceEqDiff,Int.reduceEq,Int.reduceLT,Int.reduceLE,Int.reduceNe,Int.reduceAdd,Nat.reduceBEq,reduceCtorEq,lenB_nil,lenB_slice,lenB_oslice,lenB_str,lenB_agg,indexAddrA_oslice,indexAddrA_ptr,indexAddrA_optr,loadA_optr,lenK,indexK,loadK,Int.reduceBEq,Int.reduceBNe,Int.reduceMod,Int.reduceDiv,Int.reduceTDiv,Int.reduceTMod,Int.reduceFDiv,Int.reduceSub,Int.reduceNeg,Int.reduceGT,Int.reduceGE,BitVec.reduceOfInt,BitVec.reduceAnd,BitVec.reduceOr,BitVec.reduceXOr,BitVec.reduceToNat,Int.reduceToNat,Int.reducePow,Int.reduceMul,hT.all,g5,d3,d4,i5,i6,n3,o3,v4,a3,b5,i8]
      exact hJ'' (m' - 1) _ _ _ (by omega) (Weak.refl _) ⟨k + 1, γ, _, _, rfl, rfl, by omega, by rw [hls, Bool.false_or], rfl⟩
    · simp only [gX,gT,gM,gL,gB,wantedA,evOp,opv,absC,absC0,isAggT,resA,resultA,binA,eqA,eqGuardA,isConstA,isFlatScalar,strOp,ordB,readN,sliceCells,lenA,storeA,newA,buildA,fillA,buildSliceA,boundsA,bndA,sliceA,ptrOK,fieldAddrA,fieldA,indexA,extractA,convA,isIntT,biA,bytesOf,setAll,List.replicate,Nat.reduceAdd,Nat.reduceSub,Nat.reduceMul,Nat.reduceLT,Nat.reduceLeDiff,Nat.reduceEqDiff,Int.reduceEq,Int.reduceLT,Int.reduceLE,Int.reduceNe,Int.reduceAdd,Nat.reduceBEq,reduceCtorEq,lenB_nil,lenB_slice,lenB_oslice,lenB_str,lenB_agg,indexAddrA_oslice,indexAddrA_ptr,indexAddrA_optr,loadA_optr,lenK,indexK,loadK,Int.reduceBEq,Int.reduceBNe,Int.reduceMod,Int.reduceDiv,Int.reduceTDiv,Int.reduceTMod,Int.reduceFDiv,Int.reduceSub,Int.reduceNeg,Int.reduceGT,Int.reduceGE,BitVec.reduceOfInt,BitVec.reduceAnd,BitVec.reduceOr,BitVec.reduceXOr,BitVec.reduceToNat,Int.reduceToNat,Int.reducePow,Int.reduceMul,hT.all,g5,d3,d4,i5,i6,n3,o3,v4,a3,b5,i8]
      exact hJ'' (m' - 1) _ _ _ (by omega) (Weak.refl _) ⟨k + 1, true, _, _, rfl, rfl, by omega, by rw [hls, Bool.true_or], rfl⟩
  have g5 : ¬ (k : Int) < (low : Int) := by omega
  obtain rfl : k = low := by omega
  rw [← hst] at hfirst
  have i9 : IntKind.i64.wrap ((k : Int) - 1074) = -1074 + (k : Int) := by rw [wrap_i64 (by omega) (by omega)]; omega
  have hst2 : st = true → 9223372036854775808 ≤ mm := by
    intro hh
    refine hbits.2 ?_
    by_cases c : k = 0
    · subst c
      rw [hst, Nat.pow_zero, Nat.mod_one] at hh
      cases hh
    · omega
  have hro := rRoundedB M h2 hst2 hbits.1 (e := -1074 + (k : Int)) (by omega) (by omega)
  rw [hfirst] at hro
  simp only [gX,gT,gM,gL,gB,wantedA,evOp,opv,absC,absC0,isAggT,resA,resultA,binA,eqA,eqGuardA,isConstA,isFlatScalar,shiftOp,strOp,ordB,readN,sliceCells,lenA,storeA,newA,buildA,fillA,buildSliceA,boundsA,bndA,sliceA,ptrOK,fieldAddrA,fieldA,indexA,extractA,convA,isIntT,biA,bytesOf,setAll,List.replicate,Nat.reduceAdd,Nat.reduceSub,Nat.reduceMul,Nat.reduceLT,Nat.reduceLeDiff,Nat.reduceEqDiff,Int.reduceEq,Int.reduceLT,Int.reduceLE,Int.reduceNe,Int.reduceAdd,Nat.reduceBEq,reduceCtorEq,lenB_nil,lenB_slice,lenB_oslice,lenB_str,lenB_agg,indexAddrA_slice,indexAddrA_oslice,indexAddrA_ptr,indexAddrA_optr,loadA_ptr,loadA_optr,lenK,indexK,loadK,Int.reduceBEq,Int.reduceBNe,Int.reduceMod,Int.reduceDiv,Int.reduceTDiv,Int.reduceTMod,Int.reduceFDiv,Int.reduceSub,Int.reduceNeg,Int.reduceGT,Int.reduceGE,BitVec.reduceOfInt,BitVec.reduceAnd,BitVec.reduceOr,BitVec.reduceXOr,BitVec.reduceToNat,Int.reduceToNat,Int.reducePow,Int.reduceMul,hT.all,g5,i9]
  refine hS.one hro ?_
  simp only [gX,gT,gM,gL,gB,wantedA,evOp,opv,absC,absC0,isAggT,resA,resultA,binA,eqA,eqGuardA,isConstA,isFlatScalar,shiftOp,strOp,ordB,readN,sliceCells,lenA,storeA,newA,buildA,fillA,buildSliceA,boundsA,bndA,sliceA,ptrOK,fieldAddrA,fieldA,indexA,extractA,convA,isIntT,biA,bytesOf,setAll,List.replicate,Nat.reduceAdd,Nat.reduceSub,Nat.reduceMul,Nat.reduceLT,Nat.reduceLeDiff,Nat.reduceEqDiff,Int.reduceEq,Int.reduceLT,Int.reduceLE,Int.reduceNe,Int.reduceAdd,Nat.reduceBEq,reduceCtorEq,lenB_nil,lenB_slice,lenB_oslice,lenB_str,lenB_agg,indexAddrA_slice,indexAddrA_oslice,indexAddrA_ptr,indexAddrA_optr,loadA_ptr,loadA_optr,lenK,indexK,loadK,Int.reduceBEq,Int.reduceBNe,Int.reduceMod,Int.reduceDiv,Int.reduceTDiv,Int.reduceTMod,Int.reduceFDiv,Int.reduceSub,Int.reduceNeg,Int.reduceGT,Int.reduceGE,BitVec.reduceOfInt,BitVec.reduceAnd,BitVec.reduceOr,BitVec.reduceXOr,BitVec.reduceToNat,Int.reduceToNat,Int.reducePow,Int.reduceMul,hT.all]

end Go.Proofs.YtpddepehlinfnaaGreatDoor.B
