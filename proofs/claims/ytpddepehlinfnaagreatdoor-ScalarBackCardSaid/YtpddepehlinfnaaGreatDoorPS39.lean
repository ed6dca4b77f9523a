/- Part of a claim: the program's Print. -/
import Derived.Test.YtpddepehlinfnaaGreatDoorPS38
set_option linter.unusedSimpArgs false
set_option linter.unusedVariables false
set_option maxRecDepth 100000
set_option maxHeartbeats 10000000
namespace Go.Proofs.YtpddepehlinfnaaGreatDoor.B
open Go Go.RowKit Go.Proofs.YtpddepehlinfnaaGreatDoor.E Go.Proofs.YtpddepehlinfnaaGreatDoor.FL

theorem norm_ex {m : Nat} (h0 : m ≠ 0) (h : m < 9007199254740992) : ∃ N K : Nat, m * 2 ^ N = K ∧ 4503599627370496 ≤ K ∧ K < 9007199254740992 ∧ N ≤ 52 := by
  have aux : ∀ (k m : Nat), m ≠ 0 → m < 9007199254740992 → 4503599627370496 ≤ m * 2 ^ k → ∃ N K : Nat, m * 2 ^ N = K ∧ 4503599627370496 ≤ K ∧ K < 9007199254740992 ∧ N ≤ k := by
    intro k
    induction k with
    | zero => exact fun m _ h1 h2 => ⟨0, m, by simp, by simpa using h2, h1, Nat.le_refl _⟩
    | succ k ih =>
      intro m h0 h1 h2
      by_cases c : 4503599627370496 ≤ m
      · exact ⟨0, m, by simp, c, h1, by omega⟩
      · obtain ⟨N, K, e1, e2, e3, e4⟩ := ih (m * 2) (by omega) (by omega) (by rw [Nat.mul_assoc, ← Nat.pow_succ']; exact h2)
        exact ⟨N + 1, K, by rw [← e1, Nat.pow_succ', Nat.mul_assoc], e2, e3, by omega⟩
  refine aux 52 m h0 h ?_
  have : (2 : Nat) ^ 52 = 4503599627370496 := by decide
  omega

/-- What Print answers. -/
def Prt (n : Nat) (s : List UInt8) : Prop :=
  (isNaN .f64 n = true ∧ s = [110, 97, 110]) ∨
  (n % 9223372036854775808 = 9218868437227405312 ∧ s = if 9223372036854775808 ≤ n then [45, 105, 110, 102] else [105, 110, 102]) ∨
  (n % 9223372036854775808 = 0 ∧ s = if 9223372036854775808 ≤ n then [45, 48] else [48]) ∨
  (n % 9223372036854775808 ≠ 0 ∧ n % 9223372036854775808 < 9218868437227405312 ∧ ∃ N K : Nat, magOf (n % 9223372036854775808) * 2 ^ N = K ∧ 4503599627370496 ≤ K ∧ K < 9007199254740992 ∧ N ≤ 52 ∧
    s = tx (hdN (decide (9223372036854775808 ≤ n)) (K - 4503599627370496)) ++ [112] ++ Lib.itoa ((upOf (n % 9223372036854775808) : Int) - 1022 - N))

theorem prt_ex {n : Nat} (h : n < 18446744073709551616) : ∃ s, Prt n s := by
  cases hn : isNaN .f64 n
  · rw [isNaN_of, decide_eq_false_iff_not] at hn
    by_cases c1 : n % 9223372036854775808 = 9218868437227405312
    · exact ⟨_, .inr (.inl ⟨c1, rfl⟩)⟩
    by_cases c2 : n % 9223372036854775808 = 0
    · exact ⟨_, .inr (.inr (.inl ⟨c2, rfl⟩))⟩
    obtain ⟨N, K, e1, e2, e3, e4⟩ := norm_ex (m := magOf (n % 9223372036854775808)) (by unfold magOf; split <;> omega) (by unfold magOf; split <;> omega)
    exact ⟨_, .inr (.inr (.inr ⟨c2, by omega, N, K, e1, e2, e3, e4, rfl⟩))⟩
  · exact ⟨_, .inl ⟨hn, rfl⟩⟩

theorem lt0 {T : Tab} {t : TypeId} {x y : Operand} {n : Nat} (h : n < 18446744073709551616) (hr : n % 9223372036854775808 = 9218868437227405312) : binA T .lss t x y (.float .f64 n) (.float .f64 0) = some (.bool (decide (9223372036854775808 ≤ n))) := by
  by_cases c : 9223372036854775808 ≤ n
  · obtain rfl : n = 18442240474082181120 := by omega
    rfl
  · obtain rfl : n = 9218868437227405312 := by omega
    rfl

theorem sPrint {M : Addr → Option AV} (hp : Pow M) (H : Heap) {n : Nat} (h : n < 18446744073709551616) {s : List UInt8} (hs : Prt n s) : SemF Tryz.prog M 40 [.float .f64 n] H fun v _ => v = .str s := by
  have hcl := sClass M H h
  have hsi := sSigned M H h
  unfold clsW at hcl
  unfold sgW at hsi
  rcases hs with ⟨h1, rfl⟩ | ⟨h1, rfl⟩ | ⟨h1, rfl⟩ | ⟨h1, h2, N, K, e1, e2, e3, e4, rfl⟩
  · rw [if_pos h1] at hcl
    refine fw Tryz.func40 (by kernel_rfl) rfl (by kernel_rfl) fun C L T hT hS => ?_
    simp only [gX,gT,gM,gL,gB,wantedA,evOp,opv,absC,absC0,isAggT,resA,resultA,binA,eqA,eqGuardA,isConstA,isFlatScalar,shiftOp,strOp,ordB,readN,sliceCells,lenA,storeA,newA,buildA,fillA,buildSliceA,boundsA,bndA,sliceA,ptrOK,fieldAddrA,fieldA,indexA,extractA,convA,isIntT,biA,bytesOf,setAll,List.replicate,Nat.reduceAdd,Nat.reduceSub,Nat.reduceMul,Nat.reduceLT,Nat.reduceLeDiff,Nat.reduceEqDiff,Int.reduceEq,Int.reduceLT,Int.reduceLE,Int.reduceNe,Int.reduceAdd,Nat.reduceBEq,reduceCtorEq,lenB_nil,lenB_slice,lenB_oslice,lenB_str,lenB_agg,indexAddrA_slice,indexAddrA_oslice,indexAddrA_ptr,indexAddrA_optr,loadA_ptr,loadA_optr,lenK,indexK,loadK,Int.reduceBEq,Int.reduceBNe,Int.reduceMod,Int.reduceDiv,Int.reduceTDiv,Int.reduceTMod,Int.reduceFDiv,Int.reduceSub,Int.reduceNeg,Int.reduceGT,Int.reduceGE,BitVec.reduceOfInt,BitVec.reduceAnd,BitVec.reduceOr,BitVec.reduceXOr,BitVec.reduceToNat,Int.reduceToNat,Int.reducePow,Int.reduceMul,hT.all,Tryz.f40]
    refine hS.one hcl ?_
    simp only [gX,gT,gM,gL,gB,wantedA,evOp,opv,absC,absC0,isAggT,resA,resultA,binA,eqA,eqGuardA,isConstA,isFlatScalar,shiftOp,strOp,ordB,readN,sliceCells,lenA,storeA,newA,buildA,fillA,buildSliceA,boundsA,bndA,sliceA,ptrOK,fieldAddrA,fieldA,indexA,extractA,convA,isIntT,biA,bytesOf,setAll,List.replicate,Nat.reduceAdd,Nat.reduceSub,Nat.reduceMul,Nat.reduceLT,Nat.reduceLeDiff,Nat.reduceEqDiff,Int.reduceEq,Int.reduceLT,Int.reduceLE,Int.reduceNe,Int.reduceAdd,Nat.reduceBEq,reduceCtorEq,lenB_nil,lenB_slice,lenB_oslice,lenB_str,lenB_agg,indexAddrA_slice,indexAddrA_oslice,indexAddrA_ptr,indexAddrA_optr,loadA_ptr,loadA_optr,lenK,indexK,loadK,Int.reduceBEq,Int.reduceBNe,Int.reduceMod,Int.reduceDiv,Int.reduceTDiv,Int.reduceTMod,Int.reduceFDiv,Int.reduceSub,Int.reduceNeg,Int.reduceGT,Int.reduceGE,BitVec.reduceOfInt,BitVec.reduceAnd,BitVec.reduceOr,BitVec.reduceXOr,BitVec.reduceToNat,Int.reduceToNat,Int.reducePow,Int.reduceMul,hT.all]
    try rfl
  · have hn : isNaN .f64 n = false := by rw [isNaN_of, decide_eq_false_iff_not]; omega
    rw [hn, if_neg (by simp), if_pos h1] at hcl
    have hlt := fun T t o p => lt0 (T := T) (t := t) (x := o) (y := p) h h1
    refine fw Tryz.func40 (by kernel_rfl) rfl (by kernel_rfl) fun C L T hT hS => ?_
    simp only [gX,gT,gM,gL,gB,wantedA,evOp,opv,absC,absC0,isAggT,resA,resultA,binA,eqA,eqGuardA,isConstA,isFlatScalar,shiftOp,strOp,ordB,readN,sliceCells,lenA,storeA,newA,buildA,fillA,buildSliceA,boundsA,bndA,sliceA,ptrOK,fieldAddrA,fieldA,indexA,extractA,convA,isIntT,biA,bytesOf,setAll,List.replicate,Nat.reduceAdd,Nat.reduceSub,Nat.reduceMul,Nat.reduceLT,Nat.reduceLeDiff,Nat.reduceEqDiff,Int.reduceEq,Int.reduceLT,Int.reduceLE,Int.reduceNe,Int.reduceAdd,Nat.reduceBEq,reduceCtorEq,lenB_nil,lenB_slice,lenB_oslice,lenB_str,lenB_agg,indexAddrA_slice,indexAddrA_oslice,indexAddrA_ptr,indexAddrA_optr,loadA_ptr,loadA_optr,lenK,indexK,loadK,Int.reduceBEq,Int.reduceBNe,Int.reduceMod,Int.reduceDiv,Int.reduceTDiv,Int.reduceTMod,Int.reduceFDiv,Int.reduceSub,Int.reduceNeg,Int.reduceGT,Int.reduceGE,BitVec.reduceOfInt,BitVec.reduceAnd,BitVec.reduceOr,BitVec.reduceXOr,BitVec.reduceToNat,Int.reduceToNat,Int.reducePow,Int.reduceMul,hT.all,Tryz.f40]
    refine hS.one hcl ?_
    by_cases c : 9223372036854775808 ≤ n
    · rw [if_pos c]
      rw [decide_eq_true c] at hlt
      simp only [gX,gT,gM,gL,gB,wantedA,evOp,opv,absC,absC0,isAggT,resA,resultA,eqA,eqGuardA,isConstA,isFlatScalar,shiftOp,strOp,ordB,readN,sliceCells,lenA,storeA,newA,buildA,fillA,buildSliceA,boundsA,bndA,sliceA,ptrOK,fieldAddrA,fieldA,indexA,extractA,convA,isIntT,biA,bytesOf,setAll,List.replicate,Nat.reduceAdd,Nat.reduceSub,Nat.reduceMul,Nat.reduceLT,Nat.reduceLeDiff,Nat.reduceEqDiff,Int.reduceEq,Int.reduceLT,Int.reduceLE,Int.reduceNe,Int.reduceAdd,Nat.reduceBEq,reduceCtorEq,lenB_nil,lenB_slice,lenB_oslice,lenB_str,lenB_agg,indexAddrA_slice,indexAddrA_oslice,indexAddrA_ptr,indexAddrA_optr,loadA_ptr,loadA_optr,lenK,indexK,loadK,Int.reduceBEq,Int.reduceBNe,Int.reduceMod,Int.reduceDiv,Int.reduceTDiv,Int.reduceTMod,Int.reduceFDiv,Int.reduceSub,Int.reduceNeg,Int.reduceGT,Int.reduceGE,BitVec.reduceOfInt,BitVec.reduceAnd,BitVec.reduceOr,BitVec.reduceXOr,BitVec.reduceToNat,Int.reduceToNat,Int.reducePow,Int.reduceMul,hT.all,hlt,binA_int]
      try rfl
    · rw [if_neg c]
      rw [decide_eq_false c] at hlt
      simp only [gX,gT,gM,gL,gB,wantedA,evOp,opv,absC,absC0,isAggT,resA,resultA,eqA,eqGuardA,isConstA,isFlatScalar,shiftOp,strOp,ordB,readN,sliceCells,lenA,storeA,newA,buildA,fillA,buildSliceA,boundsA,bndA,sliceA,ptrOK,fieldAddrA,fieldA,indexA,extractA,convA,isIntT,biA,bytesOf,setAll,List.replicate,Nat.reduceAdd,Nat.reduceSub,Nat.reduceMul,Nat.reduceLT,Nat.reduceLeDiff,Nat.reduceEqDiff,Int.reduceEq,Int.reduceLT,Int.reduceLE,Int.reduceNe,Int.reduceAdd,Nat.reduceBEq,reduceCtorEq,lenB_nil,lenB_slice,lenB_oslice,lenB_str,lenB_agg,indexAddrA_slice,indexAddrA_oslice,indexAddrA_ptr,indexAddrA_optr,loadA_ptr,loadA_optr,lenK,indexK,loadK,Int.reduceBEq,Int.reduceBNe,Int.reduceMod,Int.reduceDiv,Int.reduceTDiv,Int.reduceTMod,Int.reduceFDiv,Int.reduceSub,Int.reduceNeg,Int.reduceGT,Int.reduceGE,BitVec.reduceOfInt,BitVec.reduceAnd,BitVec.reduceOr,BitVec.reduceXOr,BitVec.reduceToNat,Int.reduceToNat,Int.reducePow,Int.reduceMul,hT.all,hlt,binA_int]
      try rfl
  · have hn : isNaN .f64 n = false := by rw [isNaN_of, decide_eq_false_iff_not]; omega
    rw [hn, if_neg (by simp), if_neg (by omega), if_pos h1] at hcl
    rw [hn] at hsi
    simp only [Bool.not_false, Bool.true_and] at hsi
    refine fw Tryz.func40 (by kernel_rfl) rfl (by kernel_rfl) fun C L T hT hS => ?_
    simp only [gX,gT,gM,gL,gB,wantedA,evOp,opv,absC,absC0,isAggT,resA,resultA,binA,eqA,eqGuardA,isConstA,isFlatScalar,shiftOp,strOp,ordB,readN,sliceCells,lenA,storeA,newA,buildA,fillA,buildSliceA,boundsA,bndA,sliceA,ptrOK,fieldAddrA,fieldA,indexA,extractA,convA,isIntT,biA,bytesOf,setAll,List.replicate,Nat.reduceAdd,Nat.reduceSub,Nat.reduceMul,Nat.reduceLT,Nat.reduceLeDiff,Nat.reduceEqDiff,Int.reduceEq,Int.reduceLT,Int.reduceLE,Int.reduceNe,Int.reduceAdd,Nat.reduceBEq,reduceCtorEq,lenB_nil,lenB_slice,lenB_oslice,lenB_str,lenB_agg,indexAddrA_slice,indexAddrA_oslice,indexAddrA_ptr,indexAddrA_optr,loadA_ptr,loadA_optr,lenK,indexK,loadK,Int.reduceBEq,Int.reduceBNe,Int.reduceMod,Int.reduceDiv,Int.reduceTDiv,Int.reduceTMod,Int.reduceFDiv,Int.reduceSub,Int.reduceNeg,Int.reduceGT,Int.reduceGE,BitVec.reduceOfInt,BitVec.reduceAnd,BitVec.reduceOr,BitVec.reduceXOr,BitVec.reduceToNat,Int.reduceToNat,Int.reducePow,Int.reduceMul,hT.all,Tryz.f40]
    refine hS.one hcl ?_
    simp only [gX,gT,gM,gL,gB,wantedA,evOp,opv,absC,absC0,isAggT,resA,resultA,binA,eqA,eqGuardA,isConstA,isFlatScalar,shiftOp,strOp,ordB,readN,sliceCells,lenA,storeA,newA,buildA,fillA,buildSliceA,boundsA,bndA,sliceA,ptrOK,fieldAddrA,fieldA,indexA,extractA,convA,isIntT,biA,bytesOf,setAll,List.replicate,Nat.reduceAdd,Nat.reduceSub,Nat.reduceMul,Nat.reduceLT,Nat.reduceLeDiff,Nat.reduceEqDiff,Int.reduceEq,Int.reduceLT,Int.reduceLE,Int.reduceNe,Int.reduceAdd,Nat.reduceBEq,reduceCtorEq,lenB_nil,lenB_slice,lenB_oslice,lenB_str,lenB_agg,indexAddrA_slice,indexAddrA_oslice,indexAddrA_ptr,indexAddrA_optr,loadA_ptr,loadA_optr,lenK,indexK,loadK,Int.reduceBEq,Int.reduceBNe,Int.reduceMod,Int.reduceDiv,Int.reduceTDiv,Int.reduceTMod,Int.reduceFDiv,Int.reduceSub,Int.reduceNeg,Int.reduceGT,Int.reduceGE,BitVec.reduceOfInt,BitVec.reduceAnd,BitVec.reduceOr,BitVec.reduceXOr,BitVec.reduceToNat,Int.reduceToNat,Int.reducePow,Int.reduceMul,hT.all]
    refine hS.one hsi ?_
    by_cases c : 9223372036854775808 ≤ n
    · rw [if_pos c, decide_eq_true c]
      simp only [gX,gT,gM,gL,gB,wantedA,evOp,opv,absC,absC0,isAggT,resA,resultA,binA,eqA,eqGuardA,isConstA,isFlatScalar,shiftOp,strOp,ordB,readN,sliceCells,lenA,storeA,newA,buildA,fillA,buildSliceA,boundsA,bndA,sliceA,ptrOK,fieldAddrA,fieldA,indexA,extractA,convA,isIntT,biA,bytesOf,setAll,List.replicate,Nat.reduceAdd,Nat.reduceSub,Nat.reduceMul,Nat.reduceLT,Nat.reduceLeDiff,Nat.reduceEqDiff,Int.reduceEq,Int.reduceLT,Int.reduceLE,Int.reduceNe,Int.reduceAdd,Nat.reduceBEq,reduceCtorEq,lenB_nil,lenB_slice,lenB_oslice,lenB_str,lenB_agg,indexAddrA_slice,indexAddrA_oslice,indexAddrA_ptr,indexAddrA_optr,loadA_ptr,loadA_optr,lenK,indexK,loadK,Int.reduceBEq,Int.reduceBNe,Int.reduceMod,Int.reduceDiv,Int.reduceTDiv,Int.reduceTMod,Int.reduceFDiv,Int.reduceSub,Int.reduceNeg,Int.reduceGT,Int.reduceGE,BitVec.reduceOfInt,BitVec.reduceAnd,BitVec.reduceOr,BitVec.reduceXOr,BitVec.reduceToNat,Int.reduceToNat,Int.reducePow,Int.reduceMul,hT.all]
      try rfl
    · rw [if_neg c, decide_eq_false c]
      simp only [gX,gT,gM,gL,gB,wantedA,evOp,opv,absC,absC0,isAggT,resA,resultA,binA,eqA,eqGuardA,isConstA,isFlatScalar,shiftOp,strOp,ordB,readN,sliceCells,lenA,storeA,newA,buildA,fillA,buildSliceA,boundsA,bndA,sliceA,ptrOK,fieldAddrA,fieldA,indexA,extractA,convA,isIntT,biA,bytesOf,setAll,List.replicate,Nat.reduceAdd,Nat.reduceSub,Nat.reduceMul,Nat.reduceLT,Nat.reduceLeDiff,Nat.reduceEqDiff,Int.reduceEq,Int.reduceLT,Int.reduceLE,Int.reduceNe,Int.reduceAdd,Nat.reduceBEq,reduceCtorEq,lenB_nil,lenB_slice,lenB_oslice,lenB_str,lenB_agg,indexAddrA_slice,indexAddrA_oslice,indexAddrA_ptr,indexAddrA_optr,loadA_ptr,loadA_optr,lenK,indexK,loadK,Int.reduceBEq,Int.reduceBNe,Int.reduceMod,Int.reduceDiv,Int.reduceTDiv,Int.reduceTMod,Int.reduceFDiv,Int.reduceSub,Int.reduceNeg,Int.reduceGT,Int.reduceGE,BitVec.reduceOfInt,BitVec.reduceAnd,BitVec.reduceOr,BitVec.reduceXOr,BitVec.reduceToNat,Int.reduceToNat,Int.reducePow,Int.reduceMul,hT.all]
      try rfl
  · have hn : isNaN .f64 n = false := by rw [isNaN_of, decide_eq_false_iff_not]; omega
    obtain ⟨k, hk, hk1, hk2, hk3⟩ : ∃ k : Int, (if isNaN .f64 n = true then (1 : Int) else if n % 9223372036854775808 = 9218868437227405312 then 2 else if n % 9223372036854775808 = 0 then 3 else if n % 9223372036854775808 < 4503599627370496 then 4 else 5) = k ∧ (k == 1) = false ∧ (k == 2) = false ∧ (k == 3) = false := by
      rw [hn, if_neg (by simp), if_neg (by omega), if_neg h1]
      by_cases c : n % 9223372036854775808 < 4503599627370496
      · rw [if_pos c]; exact ⟨_, rfl, rfl, rfl, rfl⟩
      · rw [if_neg c]; exact ⟨_, rfl, rfl, rfl, rfl⟩
    rw [hk] at hcl
    have hup : upOf (n % 9223372036854775808) ≤ 2045 := by unfold upOf; split <;> omega
    obtain ⟨ex, hex⟩ : ∃ ex : Int, ex = (upOf (n % 9223372036854775808) : Int) - 1022 - N := ⟨_, rfl⟩
    rw [← hex]
    obtain ⟨f, hf⟩ : ∃ f, f = K - 4503599627370496 := ⟨_, rfl⟩
    rw [← hf]
    have hF := fun H => pFormat M (H := H) (ex := ex) h rfl h1 h2 e1 e2 e3 (by omega) hf hex
    rw [outX_cut] at hF
    have hne : tx (hdN (decide (9223372036854775808 ≤ n)) f) ≠ [] := by
      intro e
      have := congrArg List.length e
      rw [tx_length] at this
      unfold hdN at this
      simp at this
    have hhl := hdN_len (decide (9223372036854775808 ≤ n)) f
    rw [← tx_length] at hhl
    have hnm := hdN_mem (neg := decide (9223372036854775808 ≤ n)) (f := f) (by omega)
    obtain ⟨d1, d2, d3, d4⟩ := dgN_ok (n := ex.natAbs) (by omega)
    have hlt : (tx (dgN ex.natAbs)).length ≤ 4 := by rw [tx_length]; exact d3
    have hC := fun H => pCut M H (d := (if decide (ex < 0) then 45 else 43) :: tx (dgN ex.natAbs)) hnm hne (by rw [List.length_append, List.length_cons, List.length_cons]; omega)
    have hA := fun H => pAtoi M (decide (ex < 0)) (H := H) d1 d2 d3
    rw [d4, show (if decide (ex < 0) then -((ex.natAbs : Nat) : Int) else ((ex.natAbs : Nat) : Int)) = ex by by_cases c : ex < 0 <;> simp [c] <;> omega] at hA
    have hI := fun H => pItoa hp H (n := ex) (by omega) (by omega)
    have hil := itoa_len (n := ex) (by omega)
    obtain ⟨a, ha⟩ : ∃ a, a = tx (hdN (decide (9223372036854775808 ≤ n)) f) := ⟨_, rfl⟩
    obtain ⟨d, hd⟩ : ∃ d : List UInt8, d = (if decide (ex < 0) then 45 else 43) :: tx (dgN ex.natAbs) := ⟨_, rfl⟩
    obtain ⟨i, hi⟩ : ∃ i, i = Lib.itoa ex := ⟨_, rfl⟩
    rw [← ha] at hhl
    simp only [← ha, ← hd] at hF hC
    simp only [← hd] at hA
    simp only [← hi] at hI hil
    rw [← ha, ← hi]
    obtain ⟨st, hst⟩ : ∃ st, st = a ++ 112 :: d := ⟨_, rfl⟩
    simp only [← hst] at hF hC
    have l1 : a.length + 1 ≤ 9223372036854775807 := by omega
    have l2 : a.length + 1 + i.length ≤ 9223372036854775807 := by omega
    refine fw Tryz.func40 (by kernel_rfl) rfl (by kernel_rfl) fun C L T hT hS => ?_
    have ad1 := fun T t o p => addS (T := T) (t := t) (o := o) (p := p) (a := a) (b := [112]) (by simp; omega)
    have ad2 := fun T t o p => addS (T := T) (t := t) (o := o) (p := p) (a := a ++ [112]) (b := i) (by simp; omega)
    simp only [gX,gT,gM,gL,gB,wantedA,evOp,opv,absC,absC0,isAggT,resA,resultA,binA,eqA,eqGuardA,isConstA,isFlatScalar,shiftOp,strOp,ordB,readN,sliceCells,lenA,storeA,newA,buildA,fillA,buildSliceA,boundsA,bndA,sliceA,ptrOK,fieldAddrA,fieldA,indexA,extractA,convA,isIntT,biA,bytesOf,setAll,List.replicate,Nat.reduceAdd,Nat.reduceSub,Nat.reduceMul,Nat.reduceLT,Nat.reduceLeDiff,Nat.reduceEqDiff,Int.reduceEq,Int.reduceLT,Int.reduceLE,Int.reduceNe,Int.reduceAdd,Nat.reduceBEq,reduceCtorEq,lenB_nil,lenB_slice,lenB_oslice,lenB_str,lenB_agg,indexAddrA_slice,indexAddrA_oslice,indexAddrA_ptr,indexAddrA_optr,loadA_ptr,loadA_optr,lenK,indexK,loadK,Int.reduceBEq,Int.reduceBNe,Int.reduceMod,Int.reduceDiv,Int.reduceTDiv,Int.reduceTMod,Int.reduceFDiv,Int.reduceSub,Int.reduceNeg,Int.reduceGT,Int.reduceGE,BitVec.reduceOfInt,BitVec.reduceAnd,BitVec.reduceOr,BitVec.reduceXOr,BitVec.reduceToNat,Int.reduceToNat,Int.reducePow,Int.reduceMul,hT.all,Tryz.f40]
    refine hS.one hcl ?_
    simp only [gX,gT,gM,gL,gB,wantedA,evOp,opv,absC,absC0,isAggT,resA,resultA,binA,eqA,eqGuardA,isConstA,isFlatScalar,shiftOp,strOp,ordB,readN,sliceCells,lenA,storeA,newA,buildA,fillA,buildSliceA,boundsA,bndA,sliceA,ptrOK,fieldAddrA,fieldA,indexA,extractA,convA,isIntT,biA,bytesOf,setAll,List.replicate,Nat.reduceAdd,Nat.reduceSub,Nat.reduceMul,Nat.reduceLT,Nat.reduceLeDiff,Nat.reduceEqDiff,Int.reduceEq,Int.reduceLT,Int.reduceLE,Int.reduceNe,Int.reduceAdd,Nat.reduceBEq,reduceCtorEq,lenB_nil,lenB_slice,lenB_oslice,lenB_str,lenB_agg,indexAddrA_slice,indexAddrA_oslice,indexAddrA_ptr,indexAddrA_optr,loadA_ptr,loadA_optr,lenK,indexK,loadK,Int.reduceBEq,Int.reduceBNe,Int.reduceMod,Int.reduceDiv,Int.reduceTDiv,Int.reduceTMod,Int.reduceFDiv,Int.reduceSub,Int.reduceNeg,Int.reduceGT,Int.reduceGE,BitVec.reduceOfInt,BitVec.reduceAnd,BitVec.reduceOr,BitVec.reduceXOr,BitVec.reduceToNat,Int.reduceToNat,Int.reducePow,Int.reduceMul,hT.all,hk1,hk2,hk3]
    refine hS.call (hF _) ?_
    rintro v h' rfl
    simp only [gX,gT,gM,gL,gB,wantedA,evOp,opv,absC,absC0,isAggT,resA,resultA,binA,eqA,eqGuardA,isConstA,isFlatScalar,shiftOp,strOp,ordB,readN,sliceCells,lenA,storeA,newA,buildA,fillA,buildSliceA,boundsA,bndA,sliceA,ptrOK,fieldAddrA,fieldA,indexA,extractA,convA,isIntT,biA,bytesOf,setAll,List.replicate,Nat.reduceAdd,Nat.reduceSub,Nat.reduceMul,Nat.reduceLT,Nat.reduceLeDiff,Nat.reduceEqDiff,Int.reduceEq,Int.reduceLT,Int.reduceLE,Int.reduceNe,Int.reduceAdd,Nat.reduceBEq,reduceCtorEq,lenB_nil,lenB_slice,lenB_oslice,lenB_str,lenB_agg,indexAddrA_slice,indexAddrA_oslice,indexAddrA_ptr,indexAddrA_optr,loadA_ptr,loadA_optr,lenK,indexK,loadK,Int.reduceBEq,Int.reduceBNe,Int.reduceMod,Int.reduceDiv,Int.reduceTDiv,Int.reduceTMod,Int.reduceFDiv,Int.reduceSub,Int.reduceNeg,Int.reduceGT,Int.reduceGE,BitVec.reduceOfInt,BitVec.reduceAnd,BitVec.reduceOr,BitVec.reduceXOr,BitVec.reduceToNat,Int.reduceToNat,Int.reducePow,Int.reduceMul,hT.all]
    refine hS.call (hC _) ?_
    rintro v h'' ⟨rfl, rfl⟩
    simp only [gX,gT,gM,gL,gB,wantedA,evOp,opv,absC,absC0,isAggT,resA,resultA,binA,eqA,eqGuardA,isConstA,isFlatScalar,shiftOp,strOp,ordB,readN,sliceCells,lenA,storeA,newA,buildA,fillA,buildSliceA,boundsA,bndA,sliceA,ptrOK,fieldAddrA,fieldA,indexA,extractA,convA,isIntT,biA,bytesOf,setAll,List.replicate,Nat.reduceAdd,Nat.reduceSub,Nat.reduceMul,Nat.reduceLT,Nat.reduceLeDiff,Nat.reduceEqDiff,Int.reduceEq,Int.reduceLT,Int.reduceLE,Int.reduceNe,Int.reduceAdd,Nat.reduceBEq,reduceCtorEq,lenB_nil,lenB_slice,lenB_oslice,lenB_str,lenB_agg,indexAddrA_slice,indexAddrA_oslice,indexAddrA_ptr,indexAddrA_optr,loadA_ptr,loadA_optr,lenK,indexK,loadK,Int.reduceBEq,Int.reduceBNe,Int.reduceMod,Int.reduceDiv,Int.reduceTDiv,Int.reduceTMod,Int.reduceFDiv,Int.reduceSub,Int.reduceNeg,Int.reduceGT,Int.reduceGE,BitVec.reduceOfInt,BitVec.reduceAnd,BitVec.reduceOr,BitVec.reduceXOr,BitVec.reduceToNat,Int.reduceToNat,Int.reducePow,Int.reduceMul,hT.all]
    refine hS.call (hA _) ?_
    rintro v h3 rfl
    simp only [gX,gT,gM,gL,gB,wantedA,evOp,opv,absC,absC0,isAggT,resA,resultA,eqA,eqGuardA,isConstA,isFlatScalar,shiftOp,strOp,ordB,readN,sliceCells,lenA,storeA,newA,buildA,fillA,buildSliceA,boundsA,bndA,sliceA,ptrOK,fieldAddrA,fieldA,indexA,extractA,convA,isIntT,biA,bytesOf,setAll,List.replicate,Nat.reduceAdd,Nat.reduceSub,Nat.reduceMul,Nat.reduceLT,Nat.reduceLeDiff,Nat.reduceEqDiff,Int.reduceEq,Int.reduceLT,Int.reduceLE,Int.reduceNe,Int.reduceAdd,Nat.reduceBEq,reduceCtorEq,lenB_nil,lenB_slice,lenB_oslice,lenB_str,lenB_agg,indexAddrA_slice,indexAddrA_oslice,indexAddrA_ptr,indexAddrA_optr,loadA_ptr,loadA_optr,lenK,indexK,loadK,Int.reduceBEq,Int.reduceBNe,Int.reduceMod,Int.reduceDiv,Int.reduceTDiv,Int.reduceTMod,Int.reduceFDiv,Int.reduceSub,Int.reduceNeg,Int.reduceGT,Int.reduceGE,BitVec.reduceOfInt,BitVec.reduceAnd,BitVec.reduceOr,BitVec.reduceXOr,BitVec.reduceToNat,Int.reduceToNat,Int.reducePow,Int.reduceMul,hT.all,ad1]
    refine hS.call (hI _) ?_
    rintro v h4 ⟨rfl, rfl⟩
    simp only [gX,gT,gM,gL,gB,wantedA,evOp,opv,absC,absC0,isAggT,resA,resultA,eqA,eqGuardA,isConstA,isFlatScalar,shiftOp,strOp,ordB,readN,sliceCells,lenA,storeA,newA,buildA,fillA,buildSliceA,boundsA,bndA,sliceA,ptrOK,fieldAddrA,fieldA,indexA,extractA,convA,isIntT,biA,bytesOf,setAll,List.replicate,Nat.reduceAdd,Nat.reduceSub,Nat.reduceMul,Nat.reduceLT,Nat.reduceLeDiff,Nat.reduceEqDiff,Int.reduceEq,Int.reduceLT,Int.reduceLE,Int.reduceNe,Int.reduceAdd,Nat.reduceBEq,reduceCtorEq,lenB_nil,lenB_slice,lenB_oslice,lenB_str,lenB_agg,indexAddrA_slice,indexAddrA_oslice,indexAddrA_ptr,indexAddrA_optr,loadA_ptr,loadA_optr,lenK,indexK,loadK,Int.reduceBEq,Int.reduceBNe,Int.reduceMod,Int.reduceDiv,Int.reduceTDiv,Int.reduceTMod,Int.reduceFDiv,Int.reduceSub,Int.reduceNeg,Int.reduceGT,Int.reduceGE,BitVec.reduceOfInt,BitVec.reduceAnd,BitVec.reduceOr,BitVec.reduceXOr,BitVec.reduceToNat,Int.reduceToNat,Int.reducePow,Int.reduceMul,hT.all,ad2]
    try rfl

end Go.Proofs.YtpddepehlinfnaaGreatDoor.B
