/- Part of a claim: texts taken apart by the library: Cut, IndexByte, IndexRune, suffixes. -/
import Derived.Test.YtaaecodkdgkjoaaDoorPT2
set_option linter.unusedSimpArgs false
set_option linter.unusedVariables false
set_option maxRecDepth 100000
set_option maxHeartbeats 10000000
namespace Go.Proofs.YtaaecodkdgkjoaaDoor.B
open Go Go.RowKit Go.Proofs.YtaaecodkdgkjoaaDoor.E

theorem strTo {T : Tab} (hT : Ty T) {H : Heap} {s : List UInt8} {n : Nat} (h : n ≤ s.length) : sliceA T H 9 (.str s) none (some (.int .i64 (n : Int))) none = some (.str (s.take n)) := by
  have hb : 0 ≤ (n : Int) ∧ (n : Int) ≤ (s.length : Int) := ⟨by omega, by omega⟩
  simp [sliceA, hT.ty9, boundsA, bndA, hb, h]
theorem strFrom {T : Tab} (hT : Ty T) {H : Heap} {s : List UInt8} {n : Nat} (h : n ≤ s.length) : sliceA T H 9 (.str s) (some (.int .i64 (n : Int))) none none = some (.str (s.drop n)) := by
  have hb : 0 ≤ (n : Int) ∧ (n : Int) ≤ (s.length : Int) := ⟨by omega, by omega⟩
  simp [sliceA, hT.ty9, boundsA, bndA, hb, h]
theorem strAt {T : Tab} (hT : Ty T) {s : List UInt8} {i : Nat} {c : UInt8} (h : s[i]? = some c) : indexA T 9 (.str s) (.int .i64 (i : Int)) = some (.int .u8 (c.toNat : Int)) := by
  simp only [indexA, hT.ty9]
  rw [if_pos (by omega), Int.toNat_natCast, h]
  rfl

theorem byteAt_mid {a d : List UInt8} {c : UInt8} (h : c ∉ a) : byteAt (a ++ c :: d) c = a.length := by
  have e : (List.range (a ++ c :: d).length).find? (fun i => (a ++ c :: d)[i]! == c) = some a.length := by
    rw [List.find?_range_eq_some]
    refine ⟨?_, by simp, ?_⟩
    · simp
    · intro j hj
      have h1 : (a ++ c :: d)[j]! = a[j] := by
        rw [List.getElem!_eq_getElem?_getD, List.getElem?_append_left hj, List.getElem?_eq_getElem hj]; rfl
      rw [h1, Bool.not_eq_true', beq_eq_false_iff_ne]
      exact fun e => h (e ▸ List.getElem_mem hj)
  unfold byteAt
  rw [e]
theorem byteAt_none {s : List UInt8} {c : UInt8} (h : c ∉ s) : byteAt s c = -1 := by
  have e : (List.range s.length).find? (fun i => s[i]! == c) = none := by
    rw [List.find?_eq_none]
    intro i hi
    have hi := List.mem_range.1 hi
    rw [List.getElem!_eq_getElem?_getD, List.getElem?_eq_getElem hi]
    simp only [Option.getD_some, beq_iff_eq]
    exact fun e => h (e ▸ List.getElem_mem hi)
  unfold byteAt
  rw [e]
theorem first_split {c : UInt8} : ∀ (s : List UInt8), c ∉ s ∨ ∃ a d, s = a ++ c :: d ∧ c ∉ a
  | [] => .inl (by simp)
  | x :: s => by
    by_cases e : x = c
    · subst e; exact .inr ⟨[], s, rfl, by simp⟩
    · rcases first_split (c := c) s with h | ⟨a, d, h1, h2⟩
      · exact .inl (by simp [h]; exact fun e' => e e'.symm)
      · exact .inr ⟨x :: a, d, by rw [h1]; rfl, by simp [h2]; exact fun e' => e e'.symm⟩

/-! ### IndexByte, Cut -/

theorem pIdxBL (M : Addr → Option AV) (H : Heap) (s : List UInt8) (c : UInt8) : SemF Tryd.prog M 96 [.str s, .int .u8 (c.toNat : Int)] H fun v h => v = .int .i64 (byteAt s c) ∧ h = H := by
  have hc : UInt8.ofNat ((c.toNat : Int)).toNat = c := by rw [Int.toNat_natCast]; simp
  have hx := X0_ok M 112 idxByteX rfl [.str s, .int .u8 (c.toNat : Int)] [] (.int .i64 (byteAt s c)) [] (by show some (AV.int .i64 (byteAt s (UInt8.ofNat ((c.toNat : Int)).toNat)), _) = _; rw [hc])
  obtain ⟨k, hk⟩ : ∃ k, k = byteAt s c := ⟨_, rfl⟩
  rw [← hk] at hx ⊢
  refine fpure rfl rfl (fw Tryd.func96 (by kernel_rfl) rfl (by kernel_rfl) fun C L T hT hS => ?_) H
  simp only [gX,gT,gM,gL,gB,wantedA,evOp,opv,absC,absC0,isAggT,resA,resultA,binA,eqA,eqGuardA,isConstA,isFlatScalar,shiftOp,strOp,ordB,readN,sliceCells,lenA,storeA,newA,buildA,fillA,buildSliceA,boundsA,bndA,sliceA,ptrOK,fieldAddrA,fieldA,indexA,extractA,convA,isIntT,biA,bytesOf,setAll,List.replicate,Nat.reduceAdd,Nat.reduceSub,Nat.reduceMul,Nat.reduceLT,Nat.reduceLeDiff,Nat.reduceEqDiff,Int.reduceEq,Int.reduceLT,Int.reduceLE,Int.reduceNe,Int.reduceAdd,Nat.reduceBEq,reduceCtorEq,lenB_nil,lenB_slice,lenB_oslice,lenB_str,lenB_agg,indexAddrA_slice,indexAddrA_oslice,indexAddrA_ptr,indexAddrA_optr,loadA_ptr,loadA_optr,lenK,indexK,loadK,Int.reduceBEq,Int.reduceBNe,Int.reduceMod,Int.reduceDiv,Int.reduceTDiv,Int.reduceTMod,Int.reduceFDiv,Int.reduceSub,Int.reduceNeg,Int.reduceGT,Int.reduceGE,BitVec.reduceOfInt,BitVec.reduceAnd,BitVec.reduceOr,BitVec.reduceXOr,BitVec.reduceToNat,Int.reduceToNat,Int.reducePow,Int.reduceMul,hT.all,Tryd.f96]
  refine hS.one hx ?_
  simp only [gX,gT,gM,gL,gB,wantedA,evOp,opv,absC,absC0,isAggT,resA,resultA,binA,eqA,eqGuardA,isConstA,isFlatScalar,shiftOp,strOp,ordB,readN,sliceCells,lenA,storeA,newA,buildA,fillA,buildSliceA,boundsA,bndA,sliceA,ptrOK,fieldAddrA,fieldA,indexA,extractA,convA,isIntT,biA,bytesOf,setAll,List.replicate,Nat.reduceAdd,Nat.reduceSub,Nat.reduceMul,Nat.reduceLT,Nat.reduceLeDiff,Nat.reduceEqDiff,Int.reduceEq,Int.reduceLT,Int.reduceLE,Int.reduceNe,Int.reduceAdd,Nat.reduceBEq,reduceCtorEq,lenB_nil,lenB_slice,lenB_oslice,lenB_str,lenB_agg,indexAddrA_slice,indexAddrA_oslice,indexAddrA_ptr,indexAddrA_optr,loadA_ptr,loadA_optr,lenK,indexK,loadK,Int.reduceBEq,Int.reduceBNe,Int.reduceMod,Int.reduceDiv,Int.reduceTDiv,Int.reduceTMod,Int.reduceFDiv,Int.reduceSub,Int.reduceNeg,Int.reduceGT,Int.reduceGE,BitVec.reduceOfInt,BitVec.reduceAnd,BitVec.reduceOr,BitVec.reduceXOr,BitVec.reduceToNat,Int.reduceToNat,Int.reducePow,Int.reduceMul,hT.all]
theorem pIdxBS (M : Addr → Option AV) (H : Heap) (s : List UInt8) (c : UInt8) : SemF Tryd.prog M 78 [.str s, .int .u8 (c.toNat : Int)] H fun v h => v = .int .i64 (byteAt s c) ∧ h = H := by
  have hx := pIdxBL M [] s c
  obtain ⟨k, hk⟩ : ∃ k, k = byteAt s c := ⟨_, rfl⟩
  rw [← hk] at hx ⊢
  refine fpure rfl rfl (fw Tryd.func78 (by kernel_rfl) rfl (by kernel_rfl) fun C L T hT hS => ?_) H
  simp only [gX,gT,gM,gL,gB,wantedA,evOp,opv,absC,absC0,isAggT,resA,resultA,binA,eqA,eqGuardA,isConstA,isFlatScalar,shiftOp,strOp,ordB,readN,sliceCells,lenA,storeA,newA,buildA,fillA,buildSliceA,boundsA,bndA,sliceA,ptrOK,fieldAddrA,fieldA,indexA,extractA,convA,isIntT,biA,bytesOf,setAll,List.replicate,Nat.reduceAdd,Nat.reduceSub,Nat.reduceMul,Nat.reduceLT,Nat.reduceLeDiff,Nat.reduceEqDiff,Int.reduceEq,Int.reduceLT,Int.reduceLE,Int.reduceNe,Int.reduceAdd,Nat.reduceBEq,reduceCtorEq,lenB_nil,lenB_slice,lenB_oslice,lenB_str,lenB_agg,indexAddrA_slice,indexAddrA_oslice,indexAddrA_ptr,indexAddrA_optr,loadA_ptr,loadA_optr,lenK,indexK,loadK,Int.reduceBEq,Int.reduceBNe,Int.reduceMod,Int.reduceDiv,Int.reduceTDiv,Int.reduceTMod,Int.reduceFDiv,Int.reduceSub,Int.reduceNeg,Int.reduceGT,Int.reduceGE,BitVec.reduceOfInt,BitVec.reduceAnd,BitVec.reduceOr,BitVec.reduceXOr,BitVec.reduceToNat,Int.reduceToNat,Int.reducePow,Int.reduceMul,hT.all,Tryd.f78]
  refine hS.one hx ?_
  simp only [gX,gT,gM,gL,gB,wantedA,evOp,opv,absC,absC0,isAggT,resA,resultA,binA,eqA,eqGuardA,isConstA,isFlatScalar,shiftOp,strOp,ordB,readN,sliceCells,lenA,storeA,newA,buildA,fillA,buildSliceA,boundsA,bndA,sliceA,ptrOK,fieldAddrA,fieldA,indexA,extractA,convA,isIntT,biA,bytesOf,setAll,List.replicate,Nat.reduceAdd,Nat.reduceSub,Nat.reduceMul,Nat.reduceLT,Nat.reduceLeDiff,Nat.reduceEqDiff,Int.reduceEq,Int.reduceLT,Int.reduceLE,Int.reduceNe,Int.reduceAdd,Nat.reduceBEq,reduceCtorEq,lenB_nil,lenB_slice,lenB_oslice,lenB_str,lenB_agg,indexAddrA_slice,indexAddrA_oslice,indexAddrA_ptr,indexAddrA_optr,loadA_ptr,loadA_optr,lenK,indexK,loadK,Int.reduceBEq,Int.reduceBNe,Int.reduceMod,Int.reduceDiv,Int.reduceTDiv,Int.reduceTMod,Int.reduceFDiv,Int.reduceSub,Int.reduceNeg,Int.reduceGT,Int.reduceGE,BitVec.reduceOfInt,BitVec.reduceAnd,BitVec.reduceOr,BitVec.reduceXOr,BitVec.reduceToNat,Int.reduceToNat,Int.reducePow,Int.reduceMul,hT.all]

theorem pIdx1 (M : Addr → Option AV) (H : Heap) (s : List UInt8) : SemF Tryd.prog M 72 [.str s, .str [47]] H fun v h => v = .int .i64 (byteAt s 47) ∧ h = H := by
  have hb : SemF Tryd.prog M 96 [.str s, .int .u8 47] [] fun v h => v = .int .i64 (byteAt s 47) ∧ h = [] := pIdxBL M [] s 47
  by_cases e : s = [47]
  · subst e
    refine fpure rfl rfl (fw Tryd.func72 (by kernel_rfl) rfl (by kernel_rfl) fun C L T hT hS => ?_) H
    simp only [gX,gT,gM,gL,gB,wantedA,evOp,opv,absC,absC0,isAggT,resA,resultA,binA,eqA,eqGuardA,isConstA,isFlatScalar,shiftOp,strOp,ordB,readN,sliceCells,lenA,storeA,newA,buildA,fillA,buildSliceA,boundsA,bndA,sliceA,ptrOK,fieldAddrA,fieldA,indexA,extractA,convA,isIntT,biA,bytesOf,setAll,List.replicate,Nat.reduceAdd,Nat.reduceSub,Nat.reduceMul,Nat.reduceLT,Nat.reduceLeDiff,Nat.reduceEqDiff,Int.reduceEq,Int.reduceLT,Int.reduceLE,Int.reduceNe,Int.reduceAdd,Nat.reduceBEq,reduceCtorEq,lenB_nil,lenB_slice,lenB_oslice,lenB_str,lenB_agg,indexAddrA_slice,indexAddrA_oslice,indexAddrA_ptr,indexAddrA_optr,loadA_ptr,loadA_optr,lenK,indexK,loadK,Int.reduceBEq,Int.reduceBNe,Int.reduceMod,Int.reduceDiv,Int.reduceTDiv,Int.reduceTMod,Int.reduceFDiv,Int.reduceSub,Int.reduceNeg,Int.reduceGT,Int.reduceGE,BitVec.reduceOfInt,BitVec.reduceAnd,BitVec.reduceOr,BitVec.reduceXOr,BitVec.reduceToNat,Int.reduceToNat,Int.reducePow,Int.reduceMul,hT.all,Tryd.f72]
    try rfl
  · have ne : (([47] : List UInt8) == s) = false := by rw [beq_eq_false_iff_ne]; exact fun h => e h.symm
    obtain ⟨k, hk⟩ : ∃ k, k = byteAt s 47 := ⟨_, rfl⟩
    rw [← hk] at hb ⊢
    refine fpure rfl rfl (fw Tryd.func72 (by kernel_rfl) rfl (by kernel_rfl) fun C L T hT hS => ?_) H
    simp only [gX,gT,gM,gL,gB,wantedA,evOp,opv,absC,absC0,isAggT,resA,resultA,binA,eqA,eqGuardA,isConstA,isFlatScalar,shiftOp,strOp,ordB,readN,sliceCells,lenA,storeA,newA,buildA,fillA,buildSliceA,boundsA,bndA,sliceA,ptrOK,fieldAddrA,fieldA,indexA,extractA,convA,isIntT,biA,bytesOf,setAll,List.replicate,Nat.reduceAdd,Nat.reduceSub,Nat.reduceMul,Nat.reduceLT,Nat.reduceLeDiff,Nat.reduceEqDiff,Int.reduceEq,Int.reduceLT,Int.reduceLE,Int.reduceNe,Int.reduceAdd,Nat.reduceBEq,reduceCtorEq,lenB_nil,lenB_slice,lenB_oslice,lenB_str,lenB_agg,indexAddrA_slice,indexAddrA_oslice,indexAddrA_ptr,indexAddrA_optr,loadA_ptr,loadA_optr,lenK,indexK,loadK,Int.reduceBEq,Int.reduceBNe,Int.reduceMod,Int.reduceDiv,Int.reduceTDiv,Int.reduceTMod,Int.reduceFDiv,Int.reduceSub,Int.reduceNeg,Int.reduceGT,Int.reduceGE,BitVec.reduceOfInt,BitVec.reduceAnd,BitVec.reduceOr,BitVec.reduceXOr,BitVec.reduceToNat,Int.reduceToNat,Int.reducePow,Int.reduceMul,hT.all,Tryd.f72,ne]
    refine hS.one hb ?_
    simp only [gX,gT,gM,gL,gB,wantedA,evOp,opv,absC,absC0,isAggT,resA,resultA,binA,eqA,eqGuardA,isConstA,isFlatScalar,shiftOp,strOp,ordB,readN,sliceCells,lenA,storeA,newA,buildA,fillA,buildSliceA,boundsA,bndA,sliceA,ptrOK,fieldAddrA,fieldA,indexA,extractA,convA,isIntT,biA,bytesOf,setAll,List.replicate,Nat.reduceAdd,Nat.reduceSub,Nat.reduceMul,Nat.reduceLT,Nat.reduceLeDiff,Nat.reduceEqDiff,Int.reduceEq,Int.reduceLT,Int.reduceLE,Int.reduceNe,Int.reduceAdd,Nat.reduceBEq,reduceCtorEq,lenB_nil,lenB_slice,lenB_oslice,lenB_str,lenB_agg,indexAddrA_slice,indexAddrA_oslice,indexAddrA_ptr,indexAddrA_optr,loadA_ptr,loadA_optr,lenK,indexK,loadK,Int.reduceBEq,Int.reduceBNe,Int.reduceMod,Int.reduceDiv,Int.reduceTDiv,Int.reduceTMod,Int.reduceFDiv,Int.reduceSub,Int.reduceNeg,Int.reduceGT,Int.reduceGE,BitVec.reduceOfInt,BitVec.reduceAnd,BitVec.reduceOr,BitVec.reduceXOr,BitVec.reduceToNat,Int.reduceToNat,Int.reducePow,Int.reduceMul,hT.all]

/-- What Cut by a stroke answers. -/
def cutV (s : List UInt8) (v : AV) : Prop := ((47 : UInt8) ∉ s ∧ v = .tup [.str s, .str [], .bool false]) ∨ ∃ a d, s = a ++ 47 :: d ∧ (47 : UInt8) ∉ a ∧ v = .tup [.str a, .str d, .bool true]

theorem pCut0 (M : Addr → Option AV) (H : Heap) {s : List UInt8} {v : AV} (hl : s.length < 1000000000) (hv : cutV s v) : SemF Tryd.prog M 54 [.str s, .str [47]] H fun r h => r = v ∧ h = H := by
  have hb := pIdx1 M [] s
  rcases hv with ⟨h1, rfl⟩ | ⟨a, d, rfl, h1, rfl⟩
  · rw [byteAt_none h1] at hb
    refine fpure rfl rfl (fq Tryd.func54 (by kernel_rfl) rfl (by kernel_rfl) fun C L T hT hS => ?_) H
    simp only [gX,gT,gM,gL,gB,wantedA,evOp,opv,absC,absC0,isAggT,resA,resultA,binA,eqA,eqGuardA,isConstA,isFlatScalar,shiftOp,strOp,ordB,readN,sliceCells,lenA,storeA,newA,buildA,fillA,buildSliceA,boundsA,bndA,sliceA,ptrOK,fieldAddrA,fieldA,indexA,extractA,convA,isIntT,biA,bytesOf,setAll,List.replicate,Nat.reduceAdd,Nat.reduceSub,Nat.reduceMul,Nat.reduceLT,Nat.reduceLeDiff,Nat.reduceEqDiff,Int.reduceEq,Int.reduceLT,Int.reduceLE,Int.reduceNe,Int.reduceAdd,Nat.reduceBEq,reduceCtorEq,lenB_nil,lenB_slice,lenB_oslice,lenB_str,lenB_agg,indexAddrA_slice,indexAddrA_oslice,indexAddrA_ptr,indexAddrA_optr,loadA_ptr,loadA_optr,lenK,indexK,loadK,Int.reduceBEq,Int.reduceBNe,Int.reduceMod,Int.reduceDiv,Int.reduceTDiv,Int.reduceTMod,Int.reduceFDiv,Int.reduceSub,Int.reduceNeg,Int.reduceGT,Int.reduceGE,BitVec.reduceOfInt,BitVec.reduceAnd,BitVec.reduceOr,BitVec.reduceXOr,BitVec.reduceToNat,Int.reduceToNat,Int.reducePow,Int.reduceMul,hT.all,Tryd.f54]
    refine hS.one hb ?_
    simp only [gX,gT,gM,gL,gB,wantedA,evOp,opv,absC,absC0,isAggT,resA,resultA,binA,eqA,eqGuardA,isConstA,isFlatScalar,shiftOp,strOp,ordB,readN,sliceCells,lenA,storeA,newA,buildA,fillA,buildSliceA,boundsA,bndA,sliceA,ptrOK,fieldAddrA,fieldA,indexA,extractA,convA,isIntT,biA,bytesOf,setAll,List.replicate,Nat.reduceAdd,Nat.reduceSub,Nat.reduceMul,Nat.reduceLT,Nat.reduceLeDiff,Nat.reduceEqDiff,Int.reduceEq,Int.reduceLT,Int.reduceLE,Int.reduceNe,Int.reduceAdd,Nat.reduceBEq,reduceCtorEq,lenB_nil,lenB_slice,lenB_oslice,lenB_str,lenB_agg,indexAddrA_slice,indexAddrA_oslice,indexAddrA_ptr,indexAddrA_optr,loadA_ptr,loadA_optr,lenK,indexK,loadK,Int.reduceBEq,Int.reduceBNe,Int.reduceMod,Int.reduceDiv,Int.reduceTDiv,Int.reduceTMod,Int.reduceFDiv,Int.reduceSub,Int.reduceNeg,Int.reduceGT,Int.reduceGE,BitVec.reduceOfInt,BitVec.reduceAnd,BitVec.reduceOr,BitVec.reduceXOr,BitVec.reduceToNat,Int.reduceToNat,Int.reducePow,Int.reduceMul,hT.all]
    try rfl
  · rw [byteAt_mid h1] at hb
    refine fpure rfl rfl (fq Tryd.func54 (by kernel_rfl) rfl (by kernel_rfl) fun C L T hT hS => ?_) H
    have t1 : ∀ H, sliceA T H 9 (.str (a ++ 47 :: d)) none (some (.int .i64 (a.length : Int))) none = some (.str a) := fun H => by
      rw [strTo hT (by simp), List.take_left]
    have t2 : ∀ H, sliceA T H 9 (.str (a ++ 47 :: d)) (some (.int .i64 ((a.length + 1 : Nat) : Int))) none none = some (.str d) := fun H => by
      rw [strFrom hT (by simp)]
      congr 2
      simp [List.drop_append]
    have hal : a.length < 1000000000 := by rw [List.length_append] at hl; omega
    have i1 : IntKind.i64.wrap ((a.length : Int) + 1) = ((a.length + 1 : Nat) : Int) := by rw [wrap_i64 (by omega) (by omega)]; omega
    have b1 : decide ((a.length : Int) ≥ 0) = true := decide_eq_true (by omega)
    have b2 : (0 ≤ (a.length : Int)) := by omega
    obtain ⟨s, hs⟩ : ∃ s, s = a ++ 47 :: d := ⟨_, rfl⟩
    rw [← hs] at hb t1 t2 ⊢
    simp only [gX,gT,gM,gL,gB,wantedA,evOp,opv,absC,absC0,isAggT,resA,resultA,binA,eqA,eqGuardA,isConstA,isFlatScalar,shiftOp,strOp,ordB,readN,sliceCells,lenA,storeA,newA,buildA,fillA,buildSliceA,boundsA,bndA,sliceA,ptrOK,fieldAddrA,fieldA,indexA,extractA,convA,isIntT,biA,bytesOf,setAll,List.replicate,Nat.reduceAdd,Nat.reduceSub,Nat.reduceMul,Nat.reduceLT,Nat.reduceLeDiff,Nat.reduceEqDiff,Int.reduceEq,Int.reduceLT,Int.reduceLE,Int.reduceNe,Int.reduceAdd,Nat.reduceBEq,reduceCtorEq,lenB_nil,lenB_slice,lenB_oslice,lenB_str,lenB_agg,indexAddrA_slice,indexAddrA_oslice,indexAddrA_ptr,indexAddrA_optr,loadA_ptr,loadA_optr,lenK,indexK,loadK,Int.reduceBEq,Int.reduceBNe,Int.reduceMod,Int.reduceDiv,Int.reduceTDiv,Int.reduceTMod,Int.reduceFDiv,Int.reduceSub,Int.reduceNeg,Int.reduceGT,Int.reduceGE,BitVec.reduceOfInt,BitVec.reduceAnd,BitVec.reduceOr,BitVec.reduceXOr,BitVec.reduceToNat,Int.reduceToNat,Int.reducePow,Int.reduceMul,hT.all,Tryd.f54]
    refine hS.one hb ?_
    simp only [gX,gT,gM,gL,gB,wantedA,evOp,opv,absC,absC0,isAggT,resA,resultA,binA,eqA,eqGuardA,isConstA,isFlatScalar,shiftOp,strOp,ordB,readN,sliceCells,lenA,storeA,newA,buildA,fillA,buildSliceA,boundsA,bndA,ptrOK,fieldAddrA,fieldA,indexA,extractA,convA,isIntT,biA,bytesOf,setAll,List.replicate,Nat.reduceAdd,Nat.reduceSub,Nat.reduceMul,Nat.reduceLT,Nat.reduceLeDiff,Nat.reduceEqDiff,Int.reduceEq,Int.reduceLT,Int.reduceLE,Int.reduceNe,Int.reduceAdd,Nat.reduceBEq,reduceCtorEq,lenB_nil,lenB_slice,lenB_oslice,lenB_str,lenB_agg,indexAddrA_slice,indexAddrA_oslice,indexAddrA_ptr,indexAddrA_optr,loadA_ptr,loadA_optr,lenK,indexK,loadK,Int.reduceBEq,Int.reduceBNe,Int.reduceMod,Int.reduceDiv,Int.reduceTDiv,Int.reduceTMod,Int.reduceFDiv,Int.reduceSub,Int.reduceNeg,Int.reduceGT,Int.reduceGE,BitVec.reduceOfInt,BitVec.reduceAnd,BitVec.reduceOr,BitVec.reduceXOr,BitVec.reduceToNat,Int.reduceToNat,Int.reducePow,Int.reduceMul,hT.all,b1,b2,t1,t2,i1]
    try rfl

theorem pCut (M : Addr → Option AV) (H : Heap) {s : List UInt8} {v : AV} (hl : s.length < 1000000000) (hv : cutV s v) : SemF Tryd.prog M 39 [.str s, .str [47]] H fun r h => r = v ∧ h = H := by
  have hb := pCut0 M [] hl hv
  obtain ⟨a, b, c, rfl, hf⟩ : ∃ a b c, v = .tup [a, b, c] ∧ flat (.tup [a, b, c]) = true := by
    rcases hv with ⟨_, rfl⟩ | ⟨_, _, _, _, rfl⟩ <;> exact ⟨_, _, _, rfl, rfl⟩
  refine fpure rfl hf (fw Tryd.func39 (by kernel_rfl) rfl (by kernel_rfl) fun C L T hT hS => ?_) H
  simp only [gX,gT,gM,gL,gB,wantedA,evOp,opv,absC,absC0,isAggT,resA,resultA,binA,eqA,eqGuardA,isConstA,isFlatScalar,shiftOp,strOp,ordB,readN,sliceCells,lenA,storeA,newA,buildA,fillA,buildSliceA,boundsA,bndA,sliceA,ptrOK,fieldAddrA,fieldA,indexA,extractA,convA,isIntT,biA,bytesOf,setAll,List.replicate,Nat.reduceAdd,Nat.reduceSub,Nat.reduceMul,Nat.reduceLT,Nat.reduceLeDiff,Nat.reduceEqDiff,Int.reduceEq,Int.reduceLT,Int.reduceLE,Int.reduceNe,Int.reduceAdd,Nat.reduceBEq,reduceCtorEq,lenB_nil,lenB_slice,lenB_oslice,lenB_str,lenB_agg,indexAddrA_slice,indexAddrA_oslice,indexAddrA_ptr,indexAddrA_optr,loadA_ptr,loadA_optr,lenK,indexK,loadK,Int.reduceBEq,Int.reduceBNe,Int.reduceMod,Int.reduceDiv,Int.reduceTDiv,Int.reduceTMod,Int.reduceFDiv,Int.reduceSub,Int.reduceNeg,Int.reduceGT,Int.reduceGE,BitVec.reduceOfInt,BitVec.reduceAnd,BitVec.reduceOr,BitVec.reduceXOr,BitVec.reduceToNat,Int.reduceToNat,Int.reducePow,Int.reduceMul,hT.all,Tryd.f39]
  refine hS.one hb ?_
  simp only [gX,gT,gM,gL,gB,wantedA,evOp,opv,absC,absC0,isAggT,resA,resultA,binA,eqA,eqGuardA,isConstA,isFlatScalar,shiftOp,strOp,ordB,readN,sliceCells,lenA,storeA,newA,buildA,fillA,buildSliceA,boundsA,bndA,sliceA,ptrOK,fieldAddrA,fieldA,indexA,extractA,convA,isIntT,biA,bytesOf,setAll,List.replicate,Nat.reduceAdd,Nat.reduceSub,Nat.reduceMul,Nat.reduceLT,Nat.reduceLeDiff,Nat.reduceEqDiff,Int.reduceEq,Int.reduceLT,Int.reduceLE,Int.reduceNe,Int.reduceAdd,Nat.reduceBEq,reduceCtorEq,lenB_nil,lenB_slice,lenB_oslice,lenB_str,lenB_agg,indexAddrA_slice,indexAddrA_oslice,indexAddrA_ptr,indexAddrA_optr,loadA_ptr,loadA_optr,lenK,indexK,loadK,Int.reduceBEq,Int.reduceBNe,Int.reduceMod,Int.reduceDiv,Int.reduceTDiv,Int.reduceTMod,Int.reduceFDiv,Int.reduceSub,Int.reduceNeg,Int.reduceGT,Int.reduceGE,BitVec.reduceOfInt,BitVec.reduceAnd,BitVec.reduceOr,BitVec.reduceXOr,BitVec.reduceToNat,Int.reduceToNat,Int.reducePow,Int.reduceMul,hT.all]
  try rfl

/-! ### Suffixes -/

theorem pSuf0 (M : Addr → Option AV) (H : Heap) (s : List UInt8) (hl : s.length < 1000000000) : ∃ b : Bool, (SemF Tryd.prog M 62 [.str s, .str [105]] H fun r h => r = .bool b ∧ h = H) ∧ (b = true ↔ ∃ t, s = t ++ [105]) := by
  rcases List.eq_nil_or_concat s with rfl | ⟨t, c, rfl⟩
  · refine ⟨false, ?_, by simp⟩
    refine fpure rfl rfl (fw Tryd.func62 (by kernel_rfl) rfl (by kernel_rfl) fun C L T hT hS => ?_) H
    simp only [gX,gT,gM,gL,gB,wantedA,evOp,opv,absC,absC0,isAggT,resA,resultA,binA,eqA,eqGuardA,isConstA,isFlatScalar,shiftOp,strOp,ordB,readN,sliceCells,lenA,storeA,newA,buildA,fillA,buildSliceA,boundsA,bndA,sliceA,ptrOK,fieldAddrA,fieldA,indexA,extractA,convA,isIntT,biA,bytesOf,setAll,List.replicate,Nat.reduceAdd,Nat.reduceSub,Nat.reduceMul,Nat.reduceLT,Nat.reduceLeDiff,Nat.reduceEqDiff,Int.reduceEq,Int.reduceLT,Int.reduceLE,Int.reduceNe,Int.reduceAdd,Nat.reduceBEq,reduceCtorEq,lenB_nil,lenB_slice,lenB_oslice,lenB_str,lenB_agg,indexAddrA_slice,indexAddrA_oslice,indexAddrA_ptr,indexAddrA_optr,loadA_ptr,loadA_optr,lenK,indexK,loadK,Int.reduceBEq,Int.reduceBNe,Int.reduceMod,Int.reduceDiv,Int.reduceTDiv,Int.reduceTMod,Int.reduceFDiv,Int.reduceSub,Int.reduceNeg,Int.reduceGT,Int.reduceGE,BitVec.reduceOfInt,BitVec.reduceAnd,BitVec.reduceOr,BitVec.reduceXOr,BitVec.reduceToNat,Int.reduceToNat,Int.reducePow,Int.reduceMul,hT.all,Tryd.f62]
    try rfl
  · rw [List.concat_eq_append] at hl ⊢
    rw [List.length_append, List.length_singleton] at hl
    refine ⟨[c] == [105], ?_, ?_⟩
    · refine fpure rfl rfl (fw Tryd.func62 (by kernel_rfl) rfl (by kernel_rfl) fun C L T hT hS => ?_) H
      have t2 : ∀ H, sliceA T H 9 (.str (t ++ [c])) (some (.int .i64 (t.length : Int))) none none = some (.str [c]) := fun H => by
        rw [strFrom hT (by simp), List.drop_left]
      have hll : (t ++ [c]).length = t.length + 1 := by simp
      have b1 : decide (((t.length + 1 : Nat) : Int) ≥ 1) = true := decide_eq_true (by omega)
      have i1 : IntKind.i64.wrap (((t.length + 1 : Nat) : Int) - 1) = (t.length : Int) := by rw [wrap_i64 (by omega) (by omega)]; omega
      obtain ⟨s, hs⟩ : ∃ s, s = t ++ [c] := ⟨_, rfl⟩
      obtain ⟨n, hn⟩ : ∃ n, n = t.length + 1 := ⟨_, rfl⟩
      rw [← hn] at b1 i1 hll
      rw [← hs] at t2 hll ⊢
      simp only [gX,gT,gM,gL,gB,wantedA,evOp,opv,absC,absC0,isAggT,resA,resultA,binA,eqA,eqGuardA,isConstA,isFlatScalar,shiftOp,strOp,ordB,readN,sliceCells,lenA,storeA,newA,buildA,fillA,buildSliceA,boundsA,bndA,ptrOK,fieldAddrA,fieldA,indexA,extractA,convA,isIntT,biA,bytesOf,setAll,List.replicate,Nat.reduceAdd,Nat.reduceSub,Nat.reduceMul,Nat.reduceLT,Nat.reduceLeDiff,Nat.reduceEqDiff,Int.reduceEq,Int.reduceLT,Int.reduceLE,Int.reduceNe,Int.reduceAdd,Nat.reduceBEq,reduceCtorEq,lenB_nil,lenB_slice,lenB_oslice,lenB_str,lenB_agg,indexAddrA_slice,indexAddrA_oslice,indexAddrA_ptr,indexAddrA_optr,loadA_ptr,loadA_optr,lenK,indexK,loadK,Int.reduceBEq,Int.reduceBNe,Int.reduceMod,Int.reduceDiv,Int.reduceTDiv,Int.reduceTMod,Int.reduceFDiv,Int.reduceSub,Int.reduceNeg,Int.reduceGT,Int.reduceGE,BitVec.reduceOfInt,BitVec.reduceAnd,BitVec.reduceOr,BitVec.reduceXOr,BitVec.reduceToNat,Int.reduceToNat,Int.reducePow,Int.reduceMul,hT.all,Tryd.f62,hll,b1,i1,t2]
      try rfl
    · rw [beq_iff_eq]
      constructor
      · intro h; exact ⟨t, by rw [h]⟩
      · rintro ⟨u, h⟩; exact (List.append_inj' h rfl).2
theorem pSuf (M : Addr → Option AV) (s : List UInt8) (hl : s.length < 1000000000) : ∃ b : Bool, (∀ H, SemF Tryd.prog M 42 [.str s, .str [105]] H fun r h => r = .bool b ∧ h = H) ∧ (b = true ↔ ∃ t, s = t ++ [105]) := by
  obtain ⟨b, h1, h2⟩ := pSuf0 M [] s hl
  refine ⟨b, fun H => ?_, h2⟩
  refine fpure rfl rfl (fw Tryd.func42 (by kernel_rfl) rfl (by kernel_rfl) fun C L T hT hS => ?_) H
  simp only [gX,gT,gM,gL,gB,wantedA,evOp,opv,absC,absC0,isAggT,resA,resultA,binA,eqA,eqGuardA,isConstA,isFlatScalar,shiftOp,strOp,ordB,readN,sliceCells,lenA,storeA,newA,buildA,fillA,buildSliceA,boundsA,bndA,sliceA,ptrOK,fieldAddrA,fieldA,indexA,extractA,convA,isIntT,biA,bytesOf,setAll,List.replicate,Nat.reduceAdd,Nat.reduceSub,Nat.reduceMul,Nat.reduceLT,Nat.reduceLeDiff,Nat.reduceEqDiff,Int.reduceEq,Int.reduceLT,Int.reduceLE,Int.reduceNe,Int.reduceAdd,Nat.reduceBEq,reduceCtorEq,lenB_nil,lenB_slice,lenB_oslice,lenB_str,lenB_agg,indexAddrA_slice,indexAddrA_oslice,indexAddrA_ptr,indexAddrA_optr,loadA_ptr,loadA_optr,lenK,indexK,loadK,Int.reduceBEq,Int.reduceBNe,Int.reduceMod,Int.reduceDiv,Int.reduceTDiv,Int.reduceTMod,Int.reduceFDiv,Int.reduceSub,Int.reduceNeg,Int.reduceGT,Int.reduceGE,BitVec.reduceOfInt,BitVec.reduceAnd,BitVec.reduceOr,BitVec.reduceXOr,BitVec.reduceToNat,Int.reduceToNat,Int.reducePow,Int.reduceMul,hT.all,Tryd.f42]
  refine hS.one h1 ?_
  simp only [gX,gT,gM,gL,gB,wantedA,evOp,opv,absC,absC0,isAggT,resA,resultA,binA,eqA,eqGuardA,isConstA,isFlatScalar,shiftOp,strOp,ordB,readN,sliceCells,lenA,storeA,newA,buildA,fillA,buildSliceA,boundsA,bndA,sliceA,ptrOK,fieldAddrA,fieldA,indexA,extractA,convA,isIntT,biA,bytesOf,setAll,List.replicate,Nat.reduceAdd,Nat.reduceSub,Nat.reduceMul,Nat.reduceLT,Nat.reduceLeDiff,Nat.reduceEqDiff,Int.reduceEq,Int.reduceLT,Int.reduceLE,Int.reduceNe,Int.reduceAdd,Nat.reduceBEq,reduceCtorEq,lenB_nil,lenB_slice,lenB_oslice,lenB_str,lenB_agg,indexAddrA_slice,indexAddrA_oslice,indexAddrA_ptr,indexAddrA_optr,loadA_ptr,loadA_optr,lenK,indexK,loadK,Int.reduceBEq,Int.reduceBNe,Int.reduceMod,Int.reduceDiv,Int.reduceTDiv,Int.reduceTMod,Int.reduceFDiv,Int.reduceSub,Int.reduceNeg,Int.reduceGT,Int.reduceGE,BitVec.reduceOfInt,BitVec.reduceAnd,BitVec.reduceOr,BitVec.reduceXOr,BitVec.reduceToNat,Int.reduceToNat,Int.reducePow,Int.reduceMul,hT.all]
/-- What TrimSuffix leaves. -/
def trimI (s : List UInt8) : List UInt8 := if s.getLast? = some 105 then s.dropLast else s
theorem trimI_app (t : List UInt8) : trimI (t ++ [105]) = t := by unfold trimI; simp
theorem pTrimS (M : Addr → Option AV) (H : Heap) (s : List UInt8) (hl : s.length < 1000000000) : SemF Tryd.prog M 43 [.str s, .str [105]] H fun r h => r = .str (trimI s) ∧ h = H := by
  obtain ⟨b, h1, h2⟩ := pSuf0 M [] s hl
  have h3 : SemF Tryd.prog M 63 [.str s, .str [105]] [] fun r h => r = .str (trimI s) ∧ h = [] := by
    cases b
    · have e : trimI s = s := by
        unfold trimI
        rw [if_neg]
        intro h
        obtain ⟨t, ht⟩ := List.getLast?_eq_some_iff.1 h
        exact absurd (h2.2 ⟨t, ht⟩) (by decide)
      rw [e]
      refine fpure rfl rfl (fw Tryd.func63 (by kernel_rfl) rfl (by kernel_rfl) fun C L T hT hS => ?_) []
      simp only [gX,gT,gM,gL,gB,wantedA,evOp,opv,absC,absC0,isAggT,resA,resultA,binA,eqA,eqGuardA,isConstA,isFlatScalar,shiftOp,strOp,ordB,readN,sliceCells,lenA,storeA,newA,buildA,fillA,buildSliceA,boundsA,bndA,sliceA,ptrOK,fieldAddrA,fieldA,indexA,extractA,convA,isIntT,biA,bytesOf,setAll,List.replicate,Nat.reduceAdd,Nat.reduceSub,Nat.reduceMul,Nat.reduceLT,Nat.reduceLeDiff,Nat.reduceEqDiff,Int.reduceEq,Int.reduceLT,Int.reduceLE,Int.reduceNe,Int.reduceAdd,Nat.reduceBEq,reduceCtorEq,lenB_nil,lenB_slice,lenB_oslice,lenB_str,lenB_agg,indexAddrA_slice,indexAddrA_oslice,indexAddrA_ptr,indexAddrA_optr,loadA_ptr,loadA_optr,lenK,indexK,loadK,Int.reduceBEq,Int.reduceBNe,Int.reduceMod,Int.reduceDiv,Int.reduceTDiv,Int.reduceTMod,Int.reduceFDiv,Int.reduceSub,Int.reduceNeg,Int.reduceGT,Int.reduceGE,BitVec.reduceOfInt,BitVec.reduceAnd,BitVec.reduceOr,BitVec.reduceXOr,BitVec.reduceToNat,Int.reduceToNat,Int.reducePow,Int.reduceMul,hT.all,Tryd.f63]
      refine hS.one h1 ?_
      simp only [gX,gT,gM,gL,gB,wantedA,evOp,opv,absC,absC0,isAggT,resA,resultA,binA,eqA,eqGuardA,isConstA,isFlatScalar,shiftOp,strOp,ordB,readN,sliceCells,lenA,storeA,newA,buildA,fillA,buildSliceA,boundsA,bndA,sliceA,ptrOK,fieldAddrA,fieldA,indexA,extractA,convA,isIntT,biA,bytesOf,setAll,List.replicate,Nat.reduceAdd,Nat.reduceSub,Nat.reduceMul,Nat.reduceLT,Nat.reduceLeDiff,Nat.reduceEqDiff,Int.reduceEq,Int.reduceLT,Int.reduceLE,Int.reduceNe,Int.reduceAdd,Nat.reduceBEq,reduceCtorEq,lenB_nil,lenB_slice,lenB_oslice,lenB_str,lenB_agg,indexAddrA_slice,indexAddrA_oslice,indexAddrA_ptr,indexAddrA_optr,loadA_ptr,loadA_optr,lenK,indexK,loadK,Int.reduceBEq,Int.reduceBNe,Int.reduceMod,Int.reduceDiv,Int.reduceTDiv,Int.reduceTMod,Int.reduceFDiv,Int.reduceSub,Int.reduceNeg,Int.reduceGT,Int.reduceGE,BitVec.reduceOfInt,BitVec.reduceAnd,BitVec.reduceOr,BitVec.reduceXOr,BitVec.reduceToNat,Int.reduceToNat,Int.reducePow,Int.reduceMul,hT.all]
    · obtain ⟨t, rfl⟩ := h2.1 rfl
      rw [trimI_app]
      rw [List.length_append, List.length_singleton] at hl
      refine fpure rfl rfl (fw Tryd.func63 (by kernel_rfl) rfl (by kernel_rfl) fun C L T hT hS => ?_) []
      have t2 : ∀ H, sliceA T H 9 (.str (t ++ [105])) none (some (.int .i64 (t.length : Int))) none = some (.str t) := fun H => by
        rw [strTo hT (by simp), List.take_left]
      have hll : (t ++ [105]).length = t.length + 1 := by simp
      have i1 : IntKind.i64.wrap (((t.length + 1 : Nat) : Int) - 1) = (t.length : Int) := by rw [wrap_i64 (by omega) (by omega)]; omega
      obtain ⟨s, hs⟩ : ∃ s, s = t ++ [105] := ⟨_, rfl⟩
      obtain ⟨n, hn⟩ : ∃ n, n = t.length + 1 := ⟨_, rfl⟩
      rw [← hn] at i1 hll
      rw [← hs] at t2 hll h1 ⊢
      simp only [gX,gT,gM,gL,gB,wantedA,evOp,opv,absC,absC0,isAggT,resA,resultA,binA,eqA,eqGuardA,isConstA,isFlatScalar,shiftOp,strOp,ordB,readN,sliceCells,lenA,storeA,newA,buildA,fillA,buildSliceA,boundsA,bndA,sliceA,ptrOK,fieldAddrA,fieldA,indexA,extractA,convA,isIntT,biA,bytesOf,setAll,List.replicate,Nat.reduceAdd,Nat.reduceSub,Nat.reduceMul,Nat.reduceLT,Nat.reduceLeDiff,Nat.reduceEqDiff,Int.reduceEq,Int.reduceLT,Int.reduceLE,Int.reduceNe,Int.reduceAdd,Nat.reduceBEq,reduceCtorEq,lenB_nil,lenB_slice,lenB_oslice,lenB_str,lenB_agg,indexAddrA_slice,indexAddrA_oslice,indexAddrA_ptr,indexAddrA_optr,loadA_ptr,loadA_optr,lenK,indexK,loadK,Int.reduceBEq,Int.reduceBNe,Int.reduceMod,Int.reduceDiv,Int.reduceTDiv,Int.reduceTMod,Int.reduceFDiv,Int.reduceSub,Int.reduceNeg,Int.reduceGT,Int.reduceGE,BitVec.reduceOfInt,BitVec.reduceAnd,BitVec.reduceOr,BitVec.reduceXOr,BitVec.reduceToNat,Int.reduceToNat,Int.reducePow,Int.reduceMul,hT.all,Tryd.f63]
      refine hS.one h1 ?_
      simp only [gX,gT,gM,gL,gB,wantedA,evOp,opv,absC,absC0,isAggT,resA,resultA,binA,eqA,eqGuardA,isConstA,isFlatScalar,shiftOp,strOp,ordB,readN,sliceCells,lenA,storeA,newA,buildA,fillA,buildSliceA,boundsA,bndA,ptrOK,fieldAddrA,fieldA,indexA,extractA,convA,isIntT,biA,bytesOf,setAll,List.replicate,Nat.reduceAdd,Nat.reduceSub,Nat.reduceMul,Nat.reduceLT,Nat.reduceLeDiff,Nat.reduceEqDiff,Int.reduceEq,Int.reduceLT,Int.reduceLE,Int.reduceNe,Int.reduceAdd,Nat.reduceBEq,reduceCtorEq,lenB_nil,lenB_slice,lenB_oslice,lenB_str,lenB_agg,indexAddrA_slice,indexAddrA_oslice,indexAddrA_ptr,indexAddrA_optr,loadA_ptr,loadA_optr,lenK,indexK,loadK,Int.reduceBEq,Int.reduceBNe,Int.reduceMod,Int.reduceDiv,Int.reduceTDiv,Int.reduceTMod,Int.reduceFDiv,Int.reduceSub,Int.reduceNeg,Int.reduceGT,Int.reduceGE,BitVec.reduceOfInt,BitVec.reduceAnd,BitVec.reduceOr,BitVec.reduceXOr,BitVec.reduceToNat,Int.reduceToNat,Int.reducePow,Int.reduceMul,hT.all,hll,i1,t2]
      try rfl
  refine fpure rfl rfl (fw Tryd.func43 (by kernel_rfl) rfl (by kernel_rfl) fun C L T hT hS => ?_) H
  simp only [gX,gT,gM,gL,gB,wantedA,evOp,opv,absC,absC0,isAggT,resA,resultA,binA,eqA,eqGuardA,isConstA,isFlatScalar,shiftOp,strOp,ordB,readN,sliceCells,lenA,storeA,newA,buildA,fillA,buildSliceA,boundsA,bndA,sliceA,ptrOK,fieldAddrA,fieldA,indexA,extractA,convA,isIntT,biA,bytesOf,setAll,List.replicate,Nat.reduceAdd,Nat.reduceSub,Nat.reduceMul,Nat.reduceLT,Nat.reduceLeDiff,Nat.reduceEqDiff,Int.reduceEq,Int.reduceLT,Int.reduceLE,Int.reduceNe,Int.reduceAdd,Nat.reduceBEq,reduceCtorEq,lenB_nil,lenB_slice,lenB_oslice,lenB_str,lenB_agg,indexAddrA_slice,indexAddrA_oslice,indexAddrA_ptr,indexAddrA_optr,loadA_ptr,loadA_optr,lenK,indexK,loadK,Int.reduceBEq,Int.reduceBNe,Int.reduceMod,Int.reduceDiv,Int.reduceTDiv,Int.reduceTMod,Int.reduceFDiv,Int.reduceSub,Int.reduceNeg,Int.reduceGT,Int.reduceGE,BitVec.reduceOfInt,BitVec.reduceAnd,BitVec.reduceOr,BitVec.reduceXOr,BitVec.reduceToNat,Int.reduceToNat,Int.reducePow,Int.reduceMul,hT.all,Tryd.f43]
  refine hS.one h3 ?_
  simp only [gX,gT,gM,gL,gB,wantedA,evOp,opv,absC,absC0,isAggT,resA,resultA,binA,eqA,eqGuardA,isConstA,isFlatScalar,shiftOp,strOp,ordB,readN,sliceCells,lenA,storeA,newA,buildA,fillA,buildSliceA,boundsA,bndA,sliceA,ptrOK,fieldAddrA,fieldA,indexA,extractA,convA,isIntT,biA,bytesOf,setAll,List.replicate,Nat.reduceAdd,Nat.reduceSub,Nat.reduceMul,Nat.reduceLT,Nat.reduceLeDiff,Nat.reduceEqDiff,Int.reduceEq,Int.reduceLT,Int.reduceLE,Int.reduceNe,Int.reduceAdd,Nat.reduceBEq,reduceCtorEq,lenB_nil,lenB_slice,lenB_oslice,lenB_str,lenB_agg,indexAddrA_slice,indexAddrA_oslice,indexAddrA_ptr,indexAddrA_optr,loadA_ptr,loadA_optr,lenK,indexK,loadK,Int.reduceBEq,Int.reduceBNe,Int.reduceMod,Int.reduceDiv,Int.reduceTDiv,Int.reduceTMod,Int.reduceFDiv,Int.reduceSub,Int.reduceNeg,Int.reduceGT,Int.reduceGE,BitVec.reduceOfInt,BitVec.reduceAnd,BitVec.reduceOr,BitVec.reduceXOr,BitVec.reduceToNat,Int.reduceToNat,Int.reducePow,Int.reduceMul,hT.all]

end Go.Proofs.YtaaecodkdgkjoaaDoor.B
