/- Part of a claim: the library writes a float: FormatFloat in base 16. -/
import Derived.Test.YtpddepehlinfnaaGreatDoorPS33
set_option linter.unusedSimpArgs false
set_option linter.unusedVariables false
set_option maxRecDepth 100000
set_option maxHeartbeats 10000000
namespace Go.Proofs.YtpddepehlinfnaaGreatDoor.B
open Go Go.RowKit Go.Proofs.YtpddepehlinfnaaGreatDoor.E Go.Proofs.YtpddepehlinfnaaGreatDoor.FL

theorem Bf.cells {M : Addr → Option AV} {H : Heap} {b n : Nat} {bs : List Nat} (h : Bf H b bs) (hn : n = bs.length) (h0 : n ≠ 0) : sliceCells M H (.slice b 0 0 1 n (some 24)) 1 = some (bC bs) := by
  obtain ⟨rest, h1, h2⟩ := h
  simp only [sliceCells, if_true]
  rw [if_neg h0, h1]
  simp only [Nat.zero_add, List.drop_zero]
  rw [if_pos ⟨Nat.le_refl _, by rw [List.length_append, bC_length]; omega⟩, hn]
  have : bs.length * 1 = (bC bs).length := by rw [bC_length, Nat.mul_one]
  rw [this, List.take_left]

theorem msk11 {q : Nat} (h : q < 4096) : IntKind.i64.wrap (((BitVec.ofInt 64 (q : Int)) &&& 2047#64).toNat : Int) = ((q % 2048 : Nat) : Int) := by
  have e : (BitVec.ofNat 64 q &&& BitVec.ofNat 64 2047).toNat = q &&& 2047 := by
    rw [BitVec.toNat_and, BitVec.toNat_ofNat, BitVec.toNat_ofNat, Nat.mod_eq_of_lt (by omega), Nat.mod_eq_of_lt (by omega)]
  have e2 : q &&& 2047 = q % 2048 := Nat.and_two_pow_sub_one_eq_mod q 11
  rw [ofInt_nat]
  rw [show (2047#64) = BitVec.ofNat 64 2047 by rfl, e, e2, wrap_i64 (by omega) (by omega)]

theorem kBits (M : Addr → Option AV) (H : Heap) {w : Nat} (hn : isNaN .f64 w = false) : SemF Tryz.prog M 116 [.float .f64 w] H fun v h => v = .int .u64 w ∧ h = H :=
  X0_ok M 116 _ rfl _ _ _ _ (by simp only [bitsX, hn, and_self, if_true])

theorem pFtoa (M : Addr → Option AV) {H : Heap} {b n r K N f : Nat} {ex : Int} (hB : Bf H b []) (hn : n < 18446744073709551616) (hr : r = n % 9223372036854775808) (h0 : r ≠ 0) (hf : r < 9218868437227405312)
    (hm : magOf r * 2 ^ N = K) (hK1 : 4503599627370496 ≤ K) (hK2 : K < 9007199254740992) (hN : N ≤ 60) (hff : f = K - 4503599627370496) (hex : ex = (upOf r : Int) - 1022 - N) :
    SemF Tryz.prog M 106 [.slice b 0 0 1 0 (some 24), .float .f64 n, .int .u8 120, .int .i64 (-1)] H fun v h => ∃ k, v = .slice b 0 0 1 k (some 24) ∧ k = (outX (decide (9223372036854775808 ≤ n)) f (decide (ex < 0)) ex.natAbs).length ∧ Bf h b (outX (decide (9223372036854775808 ≤ n)) f (decide (ex < 0)) ex.natAbs) := by
  have hnn : isNaN .f64 n = false := by rw [isNaN_of, decide_eq_false_iff_not]; omega
  have hup : upOf r ≤ 2045 := by unfold upOf; split <;> omega
  have hX := fun h (hB : Bf h b []) => pFmtX M (neg := decide (9223372036854775808 ≤ n)) (e0 := (upOf r : Int) - 1022) hB hm hK1 hK2 hN hff hex (by omega) (by omega)
  have v1 : shiftOp .shr .u64 (n : Int) 63 = some (.int .u64 ((n / 9223372036854775808 : Nat) : Int)) := by
    have := shrU (a := n) (n := 63) (by omega)
    rw [show 2 ^ 63 = 9223372036854775808 by decide] at this
    exact this
  have bn : (((n / 9223372036854775808 : Nat) : Int) != 0) = decide (9223372036854775808 ≤ n) := by
    by_cases c : 9223372036854775808 ≤ n
    · rw [decide_eq_true c, bne_iff_ne]; omega
    · rw [decide_eq_false c, bne_eq_false_iff_eq]; omega
  have v2 := shr52 (b := n)
  have w2 : IntKind.i64.wrap ((n / 4503599627370496 : Nat) : Int) = (n / 4503599627370496 : Nat) := wrap_i64 (by omega) (by omega)
  have a1 := msk11 (q := n / 4503599627370496) (by omega)
  have a2 := low52 hn
  obtain ⟨q, hq⟩ : ∃ q, q = n / 4503599627370496 % 2048 := ⟨_, rfl⟩
  obtain ⟨fr, hfr⟩ : ∃ q, q = n % 4503599627370496 := ⟨_, rfl⟩
  rw [← hq] at a1
  rw [← hfr] at a2
  have v3 : shiftOp .shl .i64 1 11 = some (.int .i64 2048) := rfl
  have v4 : shiftOp .shl .u64 1 52 = some (.int .u64 4503599627370496) := rfl
  have k1 : IntKind.i64.wrap 63 = 63 := rfl
  have k2 : IntKind.i64.wrap 2047 = 2047 := rfl
  have k3 : IntKind.u64.wrap 4503599627370495 = 4503599627370495 := rfl
  have b1 : ((q : Int) == 2047) = false := by rw [beq_eq_false_iff_ne]; omega
  have hq2 : q = r / 4503599627370496 := by omega
  have hfr2 : fr = r % 4503599627370496 := by omega
  by_cases c : q = 0
  · have b2 : ((q : Int) == 0) = true := by rw [beq_iff_eq]; omega
    have i1 : IntKind.i64.wrap ((q : Int) + 1) = 1 := by rw [wrap_i64 (by omega) (by omega)]; omega
    have i2 : IntKind.i64.wrap (-1022) = -1022 := rfl
    have e1 : magOf r = fr := by unfold magOf; rw [if_pos (by omega)]; omega
    have e2 : upOf r = 0 := by unfold upOf; rw [if_pos (by omega)]
    rw [e1, e2] at hX
    have hX0 := hX H hB
    rw [show ((0 : Nat) : Int) - 1022 = -1022 by rfl] at hX0
    refine fq Tryz.func106 (by kernel_rfl) rfl (by kernel_rfl) fun C L T hT hS => ?_
    simp only [gX,gT,gM,gL,gB,wantedA,evOp,opv,absC,absC0,isAggT,resA,resultA,binA,eqA,eqGuardA,isConstA,isFlatScalar,shiftOp,strOp,ordB,readN,sliceCells,lenA,storeA,newA,buildA,fillA,buildSliceA,boundsA,bndA,sliceA,ptrOK,fieldAddrA,fieldA,indexA,extractA,convA,isIntT,biA,bytesOf,setAll,List.replicate,Nat.reduceAdd,Nat.reduceSub,Nat.reduceMul,Nat.reduceLT,Nat.reduceLeDiff,Nat.reduceEqDiff,Int.reduceEq,Int.reduceLT,Int.reduceLE,Int.reduceNe,Int.reduceAdd,Nat.reduceBEq,reduceCtorEq,lenB_nil,lenB_slice,lenB_oslice,lenB_str,lenB_agg,indexAddrA_slice,indexAddrA_oslice,indexAddrA_ptr,indexAddrA_optr,loadA_ptr,loadA_optr,lenK,indexK,loadK,Int.reduceBEq,Int.reduceBNe,Int.reduceMod,Int.reduceDiv,Int.reduceTDiv,Int.reduceTMod,Int.reduceFDiv,Int.reduceSub,Int.reduceNeg,Int.reduceGT,Int.reduceGE,BitVec.reduceOfInt,BitVec.reduceAnd,BitVec.reduceOr,BitVec.reduceXOr,BitVec.reduceToNat,Int.reduceToNat,Int.reducePow,Int.reduceMul,hT.all,Tryz.f106]
    refine hS.one (kBits M _ hnn) ?_
    simp only [gX,gT,gM,gL,gB,wantedA,evOp,opv,absC,absC0,isAggT,resA,resultA,binA,eqA,eqGuardA,isConstA,isFlatScalar,strOp,ordB,readN,sliceCells,lenA,storeA,newA,buildA,fillA,buildSliceA,boundsA,bndA,sliceA,ptrOK,fieldAddrA,fieldA,indexA,extractA,convA,isIntT,biA,bytesOf,setAll,List.replicate,Nat.reduceAdd,Nat.reduceSub,Nat.reduceMul,Nat.reduceLT,Nat.reduceLeDiff,Nat.reduceEqDiff,Int.reduceEq,Int.reduceLT,Int.reduceLE,Int.reduceNe,Int.reduceAdd,Nat.reduceBEq,reduceCtorEq,lenB_nil,lenB_slice,lenB_oslice,lenB_str,lenB_agg,indexAddrA_slice,indexAddrA_oslice,indexAddrA_ptr,indexAddrA_optr,loadA_ptr,loadA_optr,lenK,indexK,loadK,Int.reduceBEq,Int.reduceBNe,Int.reduceMod,Int.reduceDiv,Int.reduceTDiv,Int.reduceTMod,Int.reduceFDiv,Int.reduceSub,Int.reduceNeg,Int.reduceGT,Int.reduceGE,BitVec.reduceOfInt,BitVec.reduceAnd,BitVec.reduceOr,BitVec.reduceXOr,BitVec.reduceToNat,Int.reduceToNat,Int.reducePow,Int.reduceMul,hT.all,v1,bn,v2,w2,a1,a2,v3,v4,k1,k2,k3,b1,b2,i1,i2]
    refine hS.call hX0 ?_
    rintro v h ⟨k, rfl, hk, hB2⟩
    simp only [gX,gT,gM,gL,gB,wantedA,evOp,opv,absC,absC0,isAggT,resA,resultA,binA,eqA,eqGuardA,isConstA,isFlatScalar,shiftOp,strOp,ordB,readN,sliceCells,lenA,storeA,newA,buildA,fillA,buildSliceA,boundsA,bndA,sliceA,ptrOK,fieldAddrA,fieldA,indexA,extractA,convA,isIntT,biA,bytesOf,setAll,List.replicate,Nat.reduceAdd,Nat.reduceSub,Nat.reduceMul,Nat.reduceLT,Nat.reduceLeDiff,Nat.reduceEqDiff,Int.reduceEq,Int.reduceLT,Int.reduceLE,Int.reduceNe,Int.reduceAdd,Nat.reduceBEq,reduceCtorEq,lenB_nil,lenB_slice,lenB_oslice,lenB_str,lenB_agg,indexAddrA_slice,indexAddrA_oslice,indexAddrA_ptr,indexAddrA_optr,loadA_ptr,loadA_optr,lenK,indexK,loadK,Int.reduceBEq,Int.reduceBNe,Int.reduceMod,Int.reduceDiv,Int.reduceTDiv,Int.reduceTMod,Int.reduceFDiv,Int.reduceSub,Int.reduceNeg,Int.reduceGT,Int.reduceGE,BitVec.reduceOfInt,BitVec.reduceAnd,BitVec.reduceOr,BitVec.reduceXOr,BitVec.reduceToNat,Int.reduceToNat,Int.reducePow,Int.reduceMul,hT.all]
    exact ⟨k, rfl, hk, hB2⟩
  · have b2 : ((q : Int) == 0) = false := by rw [beq_eq_false_iff_ne]; omega
    have i1 : IntKind.i64.wrap ((q : Int) + -1023) = (upOf r : Int) - 1022 := by rw [wrap_i64 (by omega) (by omega)]; unfold upOf; rw [if_neg (by omega)]; omega
    have o1 := or52 (n := fr) (by omega)
    have e1 : magOf r = 4503599627370496 + fr := by unfold magOf; rw [if_neg (by omega)]; omega
    rw [e1] at hX
    have hX0 := hX H hB
    refine fq Tryz.func106 (by kernel_rfl) rfl (by kernel_rfl) fun C L T hT hS => ?_
    simp only [gX,gT,gM,gL,gB,wantedA,evOp,opv,absC,absC0,isAggT,resA,resultA,binA,eqA,eqGuardA,isConstA,isFlatScalar,shiftOp,strOp,ordB,readN,sliceCells,lenA,storeA,newA,buildA,fillA,buildSliceA,boundsA,bndA,sliceA,ptrOK,fieldAddrA,fieldA,indexA,extractA,convA,isIntT,biA,bytesOf,setAll,List.replicate,Nat.reduceAdd,Nat.reduceSub,Nat.reduceMul,Nat.reduceLT,Nat.reduceLeDiff,Nat.reduceEqDiff,Int.reduceEq,Int.reduceLT,Int.reduceLE,Int.reduceNe,Int.reduceAdd,Nat.reduceBEq,reduceCtorEq,lenB_nil,lenB_slice,lenB_oslice,lenB_str,lenB_agg,indexAddrA_slice,indexAddrA_oslice,indexAddrA_ptr,indexAddrA_optr,loadA_ptr,loadA_optr,lenK,indexK,loadK,Int.reduceBEq,Int.reduceBNe,Int.reduceMod,Int.reduceDiv,Int.reduceTDiv,Int.reduceTMod,Int.reduceFDiv,Int.reduceSub,Int.reduceNeg,Int.reduceGT,Int.reduceGE,BitVec.reduceOfInt,BitVec.reduceAnd,BitVec.reduceOr,BitVec.reduceXOr,BitVec.reduceToNat,Int.reduceToNat,Int.reducePow,Int.reduceMul,hT.all,Tryz.f106]
    refine hS.one (kBits M _ hnn) ?_
    simp only [gX,gT,gM,gL,gB,wantedA,evOp,opv,absC,absC0,isAggT,resA,resultA,binA,eqA,eqGuardA,isConstA,isFlatScalar,strOp,ordB,readN,sliceCells,lenA,storeA,newA,buildA,fillA,buildSliceA,boundsA,bndA,sliceA,ptrOK,fieldAddrA,fieldA,indexA,extractA,convA,isIntT,biA,bytesOf,setAll,List.replicate,Nat.reduceAdd,Nat.reduceSub,Nat.reduceMul,Nat.reduceLT,Nat.reduceLeDiff,Nat.reduceEqDiff,Int.reduceEq,Int.reduceLT,Int.reduceLE,Int.reduceNe,Int.reduceAdd,Nat.reduceBEq,reduceCtorEq,lenB_nil,lenB_slice,lenB_oslice,lenB_str,lenB_agg,indexAddrA_slice,indexAddrA_oslice,indexAddrA_ptr,indexAddrA_optr,loadA_ptr,loadA_optr,lenK,indexK,loadK,Int.reduceBEq,Int.reduceBNe,Int.reduceMod,Int.reduceDiv,Int.reduceTDiv,Int.reduceTMod,Int.reduceFDiv,Int.reduceSub,Int.reduceNeg,Int.reduceGT,Int.reduceGE,BitVec.reduceOfInt,BitVec.reduceAnd,BitVec.reduceOr,BitVec.reduceXOr,BitVec.reduceToNat,Int.reduceToNat,Int.reducePow,Int.reduceMul,hT.all,v1,bn,v2,w2,a1,a2,v3,v4,k1,k2,k3,b1,b2,i1,o1]
    refine hS.call hX0 ?_
    rintro v h ⟨k, rfl, hk, hB2⟩
    simp only [gX,gT,gM,gL,gB,wantedA,evOp,opv,absC,absC0,isAggT,resA,resultA,binA,eqA,eqGuardA,isConstA,isFlatScalar,shiftOp,strOp,ordB,readN,sliceCells,lenA,storeA,newA,buildA,fillA,buildSliceA,boundsA,bndA,sliceA,ptrOK,fieldAddrA,fieldA,indexA,extractA,convA,isIntT,biA,bytesOf,setAll,List.replicate,Nat.reduceAdd,Nat.reduceSub,Nat.reduceMul,Nat.reduceLT,Nat.reduceLeDiff,Nat.reduceEqDiff,Int.reduceEq,Int.reduceLT,Int.reduceLE,Int.reduceNe,Int.reduceAdd,Nat.reduceBEq,reduceCtorEq,lenB_nil,lenB_slice,lenB_oslice,lenB_str,lenB_agg,indexAddrA_slice,indexAddrA_oslice,indexAddrA_ptr,indexAddrA_optr,loadA_ptr,loadA_optr,lenK,indexK,loadK,Int.reduceBEq,Int.reduceBNe,Int.reduceMod,Int.reduceDiv,Int.reduceTDiv,Int.reduceTMod,Int.reduceFDiv,Int.reduceSub,Int.reduceNeg,Int.reduceGT,Int.reduceGE,BitVec.reduceOfInt,BitVec.reduceAnd,BitVec.reduceOr,BitVec.reduceXOr,BitVec.reduceToNat,Int.reduceToNat,Int.reducePow,Int.reduceMul,hT.all]
    exact ⟨k, rfl, hk, hB2⟩

/-- A row of bytes as a text. -/
def tx (l : List Nat) : List UInt8 := l.map UInt8.ofNat

theorem outX_pos (neg : Bool) (f : Nat) (eneg : Bool) (n : Nat) : (outX neg f eneg n).length ≠ 0 := by
  unfold outX; simp

theorem pFormat0 (M : Addr → Option AV) {H : Heap} {n r K N f : Nat} {ex : Int} (hn : n < 18446744073709551616) (hr : r = n % 9223372036854775808) (h0 : r ≠ 0) (hf : r < 9218868437227405312)
    (hm : magOf r * 2 ^ N = K) (hK1 : 4503599627370496 ≤ K) (hK2 : K < 9007199254740992) (hN : N ≤ 60) (hff : f = K - 4503599627370496) (hex : ex = (upOf r : Int) - 1022 - N) :
    SemF Tryz.prog M 94 [.float .f64 n, .int .u8 120, .int .i64 (-1), .int .i64 64] H fun v _ => v = .str (tx (outX (decide (9223372036854775808 ≤ n)) f (decide (ex < 0)) ex.natAbs)) := by
  refine fw Tryz.func94 (by kernel_rfl) rfl (by kernel_rfl) fun C L T hT hS => ?_
  have k1 : IntKind.i64.wrap 3 = 3 := rfl
  have mx : List.foldlM max2A (AV.int IntKind.i64 3) [AV.int IntKind.i64 24] = some (.int .i64 24) := rfl
  obtain ⟨zs, hz⟩ : ∃ zs, zs = zerosA [AV.int IntKind.u8 0] 24 := ⟨_, rfl⟩
  have hzl : zs.length = 24 := by rw [hz]; rfl
  have mk : makeSliceA T H 101 (.int .i64 0) (.int .i64 24) = some (.slice H.length 0 0 1 0 (some 24), H ++ [.c zs 5 0 0]) := by
    rw [hz]
    simp only [makeSliceA, hT.ty101, hT.ty5]
    rfl
  simp only [gX,gT,gM,gL,gB,wantedA,evOp,opv,absC,absC0,isAggT,resA,resultA,binA,eqA,eqGuardA,isConstA,isFlatScalar,shiftOp,strOp,ordB,readN,sliceCells,lenA,storeA,newA,buildA,fillA,buildSliceA,boundsA,bndA,sliceA,ptrOK,fieldAddrA,fieldA,indexA,extractA,convA,isIntT,biA,bytesOf,setAll,List.replicate,Nat.reduceAdd,Nat.reduceSub,Nat.reduceMul,Nat.reduceLT,Nat.reduceLeDiff,Nat.reduceEqDiff,Int.reduceEq,Int.reduceLT,Int.reduceLE,Int.reduceNe,Int.reduceAdd,Nat.reduceBEq,reduceCtorEq,lenB_nil,lenB_slice,lenB_oslice,lenB_str,lenB_agg,indexAddrA_slice,indexAddrA_oslice,indexAddrA_ptr,indexAddrA_optr,loadA_ptr,loadA_optr,lenK,indexK,loadK,Int.reduceBEq,Int.reduceBNe,Int.reduceMod,Int.reduceDiv,Int.reduceTDiv,Int.reduceTMod,Int.reduceFDiv,Int.reduceSub,Int.reduceNeg,Int.reduceGT,Int.reduceGE,BitVec.reduceOfInt,BitVec.reduceAnd,BitVec.reduceOr,BitVec.reduceXOr,BitVec.reduceToNat,Int.reduceToNat,Int.reducePow,Int.reduceMul,hT.all,Tryz.f94,k1,mx,mk]
  refine hS.call (pFtoa M (b := H.length) (H := H ++ [.c zs 5 0 0]) ⟨zs, by rw [hp_get0]; rfl, by rw [hzl]; rfl⟩ hn hr h0 hf hm hK1 hK2 hN hff hex) ?_
  rintro v h ⟨k, rfl, hk, hB⟩
  have cl := fun M => hB.cells (M := M) hk (by rw [hk]; exact outX_pos _ _ _ _)
  have by1 := bC_bytes (outX (decide (9223372036854775808 ≤ n)) f (decide (ex < 0)) ex.natAbs)
  simp only [gX,gT,gM,gL,gB,wantedA,evOp,opv,absC,absC0,isAggT,resA,resultA,binA,eqA,eqGuardA,isConstA,isFlatScalar,shiftOp,strOp,ordB,readN,lenA,storeA,newA,buildA,fillA,buildSliceA,boundsA,bndA,sliceA,ptrOK,fieldAddrA,fieldA,indexA,extractA,convA,isIntT,biA,bytesOf,setAll,List.replicate,Nat.reduceAdd,Nat.reduceSub,Nat.reduceMul,Nat.reduceLT,Nat.reduceLeDiff,Nat.reduceEqDiff,Int.reduceEq,Int.reduceLT,Int.reduceLE,Int.reduceNe,Int.reduceAdd,Nat.reduceBEq,reduceCtorEq,lenB_nil,lenB_slice,lenB_oslice,lenB_str,lenB_agg,indexAddrA_slice,indexAddrA_oslice,indexAddrA_ptr,indexAddrA_optr,loadA_ptr,loadA_optr,lenK,indexK,loadK,Int.reduceBEq,Int.reduceBNe,Int.reduceMod,Int.reduceDiv,Int.reduceTDiv,Int.reduceTMod,Int.reduceFDiv,Int.reduceSub,Int.reduceNeg,Int.reduceGT,Int.reduceGE,BitVec.reduceOfInt,BitVec.reduceAnd,BitVec.reduceOr,BitVec.reduceXOr,BitVec.reduceToNat,Int.reduceToNat,Int.reducePow,Int.reduceMul,hT.all,cl,by1]
  rfl

theorem pFormat (M : Addr → Option AV) {H : Heap} {n r K N f : Nat} {ex : Int} (hn : n < 18446744073709551616) (hr : r = n % 9223372036854775808) (h0 : r ≠ 0) (hf : r < 9218868437227405312)
    (hm : magOf r * 2 ^ N = K) (hK1 : 4503599627370496 ≤ K) (hK2 : K < 9007199254740992) (hN : N ≤ 60) (hff : f = K - 4503599627370496) (hex : ex = (upOf r : Int) - 1022 - N) :
    SemF Tryz.prog M 74 [.float .f64 n, .int .u8 120, .int .i64 (-1), .int .i64 64] H fun v _ => v = .str (tx (outX (decide (9223372036854775808 ≤ n)) f (decide (ex < 0)) ex.natAbs)) := by
  refine fw Tryz.func74 (by kernel_rfl) rfl (by kernel_rfl) fun C L T hT hS => ?_
  simp only [gX,gT,gM,gL,gB,wantedA,evOp,opv,absC,absC0,isAggT,resA,resultA,binA,eqA,eqGuardA,isConstA,isFlatScalar,shiftOp,strOp,ordB,readN,sliceCells,lenA,storeA,newA,buildA,fillA,buildSliceA,boundsA,bndA,sliceA,ptrOK,fieldAddrA,fieldA,indexA,extractA,convA,isIntT,biA,bytesOf,setAll,List.replicate,Nat.reduceAdd,Nat.reduceSub,Nat.reduceMul,Nat.reduceLT,Nat.reduceLeDiff,Nat.reduceEqDiff,Int.reduceEq,Int.reduceLT,Int.reduceLE,Int.reduceNe,Int.reduceAdd,Nat.reduceBEq,reduceCtorEq,lenB_nil,lenB_slice,lenB_oslice,lenB_str,lenB_agg,indexAddrA_slice,indexAddrA_oslice,indexAddrA_ptr,indexAddrA_optr,loadA_ptr,loadA_optr,lenK,indexK,loadK,Int.reduceBEq,Int.reduceBNe,Int.reduceMod,Int.reduceDiv,Int.reduceTDiv,Int.reduceTMod,Int.reduceFDiv,Int.reduceSub,Int.reduceNeg,Int.reduceGT,Int.reduceGE,BitVec.reduceOfInt,BitVec.reduceAnd,BitVec.reduceOr,BitVec.reduceXOr,BitVec.reduceToNat,Int.reduceToNat,Int.reducePow,Int.reduceMul,hT.all,Tryz.f74]
  refine hS.call (pFormat0 M hn hr h0 hf hm hK1 hK2 hN hff hex) ?_
  rintro v h rfl
  simp only [gX,gT,gM,gL,gB,wantedA,evOp,opv,absC,absC0,isAggT,resA,resultA,binA,eqA,eqGuardA,isConstA,isFlatScalar,shiftOp,strOp,ordB,readN,sliceCells,lenA,storeA,newA,buildA,fillA,buildSliceA,boundsA,bndA,sliceA,ptrOK,fieldAddrA,fieldA,indexA,extractA,convA,isIntT,biA,bytesOf,setAll,List.replicate,Nat.reduceAdd,Nat.reduceSub,Nat.reduceMul,Nat.reduceLT,Nat.reduceLeDiff,Nat.reduceEqDiff,Int.reduceEq,Int.reduceLT,Int.reduceLE,Int.reduceNe,Int.reduceAdd,Nat.reduceBEq,reduceCtorEq,lenB_nil,lenB_slice,lenB_oslice,lenB_str,lenB_agg,indexAddrA_slice,indexAddrA_oslice,indexAddrA_ptr,indexAddrA_optr,loadA_ptr,loadA_optr,lenK,indexK,loadK,Int.reduceBEq,Int.reduceBNe,Int.reduceMod,Int.reduceDiv,Int.reduceTDiv,Int.reduceTMod,Int.reduceFDiv,Int.reduceSub,Int.reduceNeg,Int.reduceGT,Int.reduceGE,BitVec.reduceOfInt,BitVec.reduceAnd,BitVec.reduceOr,BitVec.reduceXOr,BitVec.reduceToNat,Int.reduceToNat,Int.reducePow,Int.reduceMul,hT.all]
  try rfl

end Go.Proofs.YtpddepehlinfnaaGreatDoor.B
