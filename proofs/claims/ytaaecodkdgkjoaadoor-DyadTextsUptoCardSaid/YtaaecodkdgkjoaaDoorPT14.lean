/- Part of a claim: the law DyadTexts. -/
import Derived.Test.YtaaecodkdgkjoaaDoorPT13
import Derived.Test.YtaaecodkdgkjoaaDoorPH4
set_option linter.unusedSimpArgs false
set_option linter.unusedVariables false
set_option maxRecDepth 100000
set_option maxHeartbeats 10000000
namespace Go.Proofs.YtaaecodkdgkjoaaDoor.B
open Go Go.RowKit Go.Proofs.YtaaecodkdgkjoaaDoor.E

theorem ReadQ.pos {s : List UInt8} {v : AV} (h : ReadQ s v) {a b : Int} {e : Nat} (hr : Rt a b e) (hs : s = wr a b e) : v = .tup [dy a b e, .int .i64 0] := by
  rcases h with ⟨a', b', e', h1, h2, h3⟩ | ⟨h1, _⟩
  · obtain ⟨rfl, rfl, rfl⟩ := wr_inj hr h1 (hs.symm.trans h2)
    exact h3
  · exact absurd ⟨a, b, e, hr, hs⟩ h1
theorem ReadQ.neg {s : List UInt8} {v : AV} (h : ReadQ s v) (hn : ¬ ∃ (a b : Int) (e : Nat), Rt a b e ∧ s = wr a b e) : v = .tup [dy 0 0 0, .int .i64 50] := by
  rcases h with ⟨a', b', e', h1, h2, h3⟩ | ⟨_, h1⟩
  · exact absurd ⟨a', b', e', h1, h2⟩ hn
  · exact h1
/-- One answer. -/
theorem read_one (s : List UInt8) : ∃ (x y z k : Int), ∀ v, ReadQ s v → v = .tup [dy x y z, .int .i64 k] := by
  by_cases h : ∃ (a b : Int) (e : Nat), Rt a b e ∧ s = wr a b e
  · obtain ⟨a, b, e, hr, hs⟩ := h
    exact ⟨a, b, e, 0, fun v hv => hv.pos hr hs⟩
  · exact ⟨0, 0, 0, 50, fun v hv => hv.neg h⟩

theorem lawTexts {M : Addr → Option AV} (hM : ∀ a v, tabM a = some v → M a = some v) (hp : Pow M) (h2 : Err M 2) (h3 : Err M 3) {a b e : Int} (ha : I64 a) (hb : I64 b) {s : List UInt8} (hl : s.length ≤ 100000000) :
    SemF Tryd.prog M 4 [dy a b e, .str s] [] fun v _ => v = .bool true := by
  obtain ⟨x, y, z, k, hone⟩ := read_one s
  have hP := fun H => (pParse hM hp h2 h3 H hl).mono fun v h (q : ReadQ s v ∧ h = H) => (⟨hone v q.1, q.2⟩ : v = .tup [dy x y z, .int .i64 k] ∧ h = H)
  have hR := fun H => (rParse M H hl).mono fun v h (q : ReadQ s v ∧ h = H) => (⟨hone v q.1, q.2⟩ : v = .tup [dy x y z, .int .i64 k] ∧ h = H)
  have hp1 := fun H => pPrint hp H (e := e) ha hb
  have hp2 := fun H => rPrint M H (a := a) (b := b) (e := e)
  obtain ⟨w, n, hw⟩ : ∃ (w : List UInt8) (n : Int), (if Rt a b e then AV.tup [.str (wr a b e.toNat), .int .i64 0] else .tup [.str [], .int .i64 2]) = .tup [.str w, .int .i64 n] := by
    by_cases c : Rt a b e
    · exact ⟨_, _, if_pos c⟩
    · exact ⟨_, _, if_neg c⟩
  simp only [hw] at hp1 hp2
  have bs : (w == w) = true := beq_self_eq_true w
  have bn : ∀ n : Int, (n == n) = true := fun n => beq_self_eq_true n
  refine fw Tryd.func4 (by kernel_rfl) rfl (by kernel_rfl) fun C L T hT hS => ?_
  have en := fun o q => eql_dy hT (x := o) (y := q) (a := x) (b := y) (e := z) (a' := x) (b' := y) (e' := z)
  rw [decide_eq_true ⟨rfl, rfl, rfl⟩] at en
  have es : ∀ o q, binA T .eql 9 o q (.str w) (.str w) = some (.bool true) := fun o q => by simp [binA, eqGuardA, eqA, hT.all, strOp]
  unfold dy at *
  simp only [gX,gT,gM,gL,gB,wantedA,evOp,opv,absC,absC0,isAggT,resA,resultA,binA,eqA,eqGuardA,isConstA,isFlatScalar,shiftOp,strOp,ordB,readN,sliceCells,lenA,storeA,newA,buildA,fillA,buildSliceA,boundsA,bndA,sliceA,ptrOK,fieldAddrA,fieldA,indexA,extractA,convA,isIntT,biA,bytesOf,setAll,List.replicate,Nat.reduceAdd,Nat.reduceSub,Nat.reduceMul,Nat.reduceLT,Nat.reduceLeDiff,Nat.reduceEqDiff,Int.reduceEq,Int.reduceLT,Int.reduceLE,Int.reduceNe,Int.reduceAdd,Nat.reduceBEq,reduceCtorEq,lenB_nil,lenB_slice,lenB_oslice,lenB_str,lenB_agg,indexAddrA_slice,indexAddrA_oslice,indexAddrA_ptr,indexAddrA_optr,loadA_ptr,loadA_optr,lenK,indexK,loadK,Int.reduceBEq,Int.reduceBNe,Int.reduceMod,Int.reduceDiv,Int.reduceTDiv,Int.reduceTMod,Int.reduceFDiv,Int.reduceSub,Int.reduceNeg,Int.reduceGT,Int.reduceGE,BitVec.reduceOfInt,BitVec.reduceAnd,BitVec.reduceOr,BitVec.reduceXOr,BitVec.reduceToNat,Int.reduceToNat,Int.reducePow,Int.reduceMul,hT.all,Tryd.f4]
  refine hS.one (hp1 _) ?_
  simp only [gX,gT,gM,gL,gB,wantedA,evOp,opv,absC,absC0,isAggT,resA,resultA,binA,eqA,eqGuardA,isConstA,isFlatScalar,shiftOp,strOp,ordB,readN,sliceCells,lenA,storeA,newA,buildA,fillA,buildSliceA,boundsA,bndA,sliceA,ptrOK,fieldAddrA,fieldA,indexA,extractA,convA,isIntT,biA,bytesOf,setAll,List.replicate,Nat.reduceAdd,Nat.reduceSub,Nat.reduceMul,Nat.reduceLT,Nat.reduceLeDiff,Nat.reduceEqDiff,Int.reduceEq,Int.reduceLT,Int.reduceLE,Int.reduceNe,Int.reduceAdd,Nat.reduceBEq,reduceCtorEq,lenB_nil,lenB_slice,lenB_oslice,lenB_str,lenB_agg,indexAddrA_slice,indexAddrA_oslice,indexAddrA_ptr,indexAddrA_optr,loadA_ptr,loadA_optr,lenK,indexK,loadK,Int.reduceBEq,Int.reduceBNe,Int.reduceMod,Int.reduceDiv,Int.reduceTDiv,Int.reduceTMod,Int.reduceFDiv,Int.reduceSub,Int.reduceNeg,Int.reduceGT,Int.reduceGE,BitVec.reduceOfInt,BitVec.reduceAnd,BitVec.reduceOr,BitVec.reduceXOr,BitVec.reduceToNat,Int.reduceToNat,Int.reducePow,Int.reduceMul,hT.all]
  refine hS.one (hp2 _) ?_
  simp only [gX,gT,gM,gL,gB,wantedA,evOp,opv,absC,absC0,isAggT,resA,resultA,binA,eqA,eqGuardA,isConstA,isFlatScalar,shiftOp,strOp,ordB,readN,sliceCells,lenA,storeA,newA,buildA,fillA,buildSliceA,boundsA,bndA,sliceA,ptrOK,fieldAddrA,fieldA,indexA,extractA,convA,isIntT,biA,bytesOf,setAll,List.replicate,Nat.reduceAdd,Nat.reduceSub,Nat.reduceMul,Nat.reduceLT,Nat.reduceLeDiff,Nat.reduceEqDiff,Int.reduceEq,Int.reduceLT,Int.reduceLE,Int.reduceNe,Int.reduceAdd,Nat.reduceBEq,reduceCtorEq,lenB_nil,lenB_slice,lenB_oslice,lenB_str,lenB_agg,indexAddrA_slice,indexAddrA_oslice,indexAddrA_ptr,indexAddrA_optr,loadA_ptr,loadA_optr,lenK,indexK,loadK,Int.reduceBEq,Int.reduceBNe,Int.reduceMod,Int.reduceDiv,Int.reduceTDiv,Int.reduceTMod,Int.reduceFDiv,Int.reduceSub,Int.reduceNeg,Int.reduceGT,Int.reduceGE,BitVec.reduceOfInt,BitVec.reduceAnd,BitVec.reduceOr,BitVec.reduceXOr,BitVec.reduceToNat,Int.reduceToNat,Int.reducePow,Int.reduceMul,hT.all]
  refine hS.one (hP _) ?_
  simp only [gX,gT,gM,gL,gB,wantedA,evOp,opv,absC,absC0,isAggT,resA,resultA,binA,eqA,eqGuardA,isConstA,isFlatScalar,shiftOp,strOp,ordB,readN,sliceCells,lenA,storeA,newA,buildA,fillA,buildSliceA,boundsA,bndA,sliceA,ptrOK,fieldAddrA,fieldA,indexA,extractA,convA,isIntT,biA,bytesOf,setAll,List.replicate,Nat.reduceAdd,Nat.reduceSub,Nat.reduceMul,Nat.reduceLT,Nat.reduceLeDiff,Nat.reduceEqDiff,Int.reduceEq,Int.reduceLT,Int.reduceLE,Int.reduceNe,Int.reduceAdd,Nat.reduceBEq,reduceCtorEq,lenB_nil,lenB_slice,lenB_oslice,lenB_str,lenB_agg,indexAddrA_slice,indexAddrA_oslice,indexAddrA_ptr,indexAddrA_optr,loadA_ptr,loadA_optr,lenK,indexK,loadK,Int.reduceBEq,Int.reduceBNe,Int.reduceMod,Int.reduceDiv,Int.reduceTDiv,Int.reduceTMod,Int.reduceFDiv,Int.reduceSub,Int.reduceNeg,Int.reduceGT,Int.reduceGE,BitVec.reduceOfInt,BitVec.reduceAnd,BitVec.reduceOr,BitVec.reduceXOr,BitVec.reduceToNat,Int.reduceToNat,Int.reducePow,Int.reduceMul,hT.all]
  refine hS.one (hR _) ?_
  simp only [gX,gT,gM,gL,gB,wantedA,evOp,opv,absC,absC0,isAggT,resA,resultA,eqA,eqGuardA,isConstA,isFlatScalar,shiftOp,strOp,ordB,readN,sliceCells,lenA,storeA,newA,buildA,fillA,buildSliceA,boundsA,bndA,sliceA,ptrOK,fieldAddrA,fieldA,indexA,extractA,convA,isIntT,biA,bytesOf,setAll,List.replicate,Nat.reduceAdd,Nat.reduceSub,Nat.reduceMul,Nat.reduceLT,Nat.reduceLeDiff,Nat.reduceEqDiff,Int.reduceEq,Int.reduceLT,Int.reduceLE,Int.reduceNe,Int.reduceAdd,Nat.reduceBEq,reduceCtorEq,lenB_nil,lenB_slice,lenB_oslice,lenB_str,lenB_agg,indexAddrA_slice,indexAddrA_oslice,indexAddrA_ptr,indexAddrA_optr,loadA_ptr,loadA_optr,lenK,indexK,loadK,Int.reduceBEq,Int.reduceBNe,Int.reduceMod,Int.reduceDiv,Int.reduceTDiv,Int.reduceTMod,Int.reduceFDiv,Int.reduceSub,Int.reduceNeg,Int.reduceGT,Int.reduceGE,BitVec.reduceOfInt,BitVec.reduceAnd,BitVec.reduceOr,BitVec.reduceXOr,BitVec.reduceToNat,Int.reduceToNat,Int.reducePow,Int.reduceMul,hT.all,bs,bn,en,es,binA_int]
  refine hS.one (heads M hM _) ?_
  simp only [gX,gT,gM,gL,gB,wantedA,evOp,opv,absC,absC0,isAggT,resA,resultA,binA,eqA,eqGuardA,isConstA,isFlatScalar,shiftOp,strOp,ordB,readN,sliceCells,lenA,storeA,newA,buildA,fillA,buildSliceA,boundsA,bndA,sliceA,ptrOK,fieldAddrA,fieldA,indexA,extractA,convA,isIntT,biA,bytesOf,setAll,List.replicate,Nat.reduceAdd,Nat.reduceSub,Nat.reduceMul,Nat.reduceLT,Nat.reduceLeDiff,Nat.reduceEqDiff,Int.reduceEq,Int.reduceLT,Int.reduceLE,Int.reduceNe,Int.reduceAdd,Nat.reduceBEq,reduceCtorEq,lenB_nil,lenB_slice,lenB_oslice,lenB_str,lenB_agg,indexAddrA_slice,indexAddrA_oslice,indexAddrA_ptr,indexAddrA_optr,loadA_ptr,loadA_optr,lenK,indexK,loadK,Int.reduceBEq,Int.reduceBNe,Int.reduceMod,Int.reduceDiv,Int.reduceTDiv,Int.reduceTMod,Int.reduceFDiv,Int.reduceSub,Int.reduceNeg,Int.reduceGT,Int.reduceGE,BitVec.reduceOfInt,BitVec.reduceAnd,BitVec.reduceOr,BitVec.reduceXOr,BitVec.reduceToNat,Int.reduceToNat,Int.reducePow,Int.reduceMul,hT.all]

end Go.Proofs.YtaaecodkdgkjoaaDoor.B
