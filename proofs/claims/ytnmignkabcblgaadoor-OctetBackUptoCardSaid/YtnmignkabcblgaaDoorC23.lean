/- Part of a claim: the library's Valid. (Printed by gen_vb.py.) -/
import Derived.Test.YtnmignkabcblgaaDoorC8
import Derived.Test.YtnmignkabcblgaaDoorC22
set_option linter.unusedSimpArgs false
set_option linter.unusedVariables false
set_option maxRecDepth 100000
set_option maxHeartbeats 10000000
namespace Go.Proofs.YtnmignkabcblgaaDoor.C
open Go Go.RowKit Go.Proofs.YtnmignkabcblgaaDoor.E Go.Proofs.YtnmignkabcblgaaDoor.B

theorem full_slice {T : Tab} (hT : Ty T) {M : Addr → Option AV} {v : AV} {t : List UInt8} (hv : OBy M v t) (ht : t.length < 1000000000000000000) : ∃ v', (∀ H, sliceA T H 24 v none (some (.int .i64 (t.length : Int))) (some (.int .i64 (t.length : Int))) = some v') ∧ OBy M v' t := by
  cases hv with
  | nil =>
    refine ⟨.nilslice, fun H => ?_, .nil⟩
    unfold sliceA
    simp only [hT.ty24, hT.ty5, boundsA, bndA]
    simp
  | old a c _ h1 h2 =>
    refine ⟨.oslice (if t.length = 0 then a else a.add (0 * 1)) t.length t.length, fun H => ?_, .old _ _ _ ?_ (Nat.le_refl _)⟩
    · unfold sliceA
      have h3 : (0 : Int) ≤ (t.length : Int) ∧ (t.length : Int) ≤ (c : Int) := ⟨by omega, by omega⟩
      simp only [hT.ty24, hT.ty5, boundsA, bndA]
      simp [h2]
    · have e : ∀ y : Addr, y.add 0 = y := fun y => by unfold Addr.add; simp
      rw [Nat.zero_mul, e]
      split <;> exact h1

def loopB : Code → Option Code
  | .loop b => some b
  | .seq a b => match loopB a with
    | some x => some x
    | none => loopB b
  | .block _ b => loopB b
  | .cond _ a b => match loopB a with
    | some x => some x
    | none => loopB b
  | _ => none

noncomputable def body71 : Code := match Tryd.f71.body with
  | some c => match loopB c with
    | some b => b
    | none => .skip
  | none => .skip


theorem round_ascii (M : Addr → Option AV) (hM : ∀ a v, tabM a = some v → M a = some v) {C : CallX} {L : LoopX} {T : Tab} (hT : Ty T) (hS : Wk Tryd.prog T M C L) (s t : List UInt8) (w : AV) (hw : OBy M w t) (g : Nat → AV) (h : Heap) (K : Out → List AV → Heap → Prop) (J : List AV → Heap → Prop) (hv : validU t = validU s) (hlt : 0 < t.length) (hts : t.length < 1000000000000000000) (c : Nat) (hc : c = t[0].toNat) (hcc : c < 128)
    (hJ : ∀ (w' : AV) (t' : List UInt8) (j : List AV) (h' : Heap), j.length = 185 → t'.length < t.length → validU t' = validU s → OBy M w' t' → J (w' :: .tup [] :: .bool false :: j) h')
    (hK : ∀ (e : List AV) (h : Heap), e.getD 2 (.tup []) = .bool (validU s) → K .ret e h) :
    xC C L T M body71 (w :: .tup [] :: .bool false :: [g 0, g 1, g 2, g 3, g 4, g 5, g 6, g 7, g 8, g 9, g 10, g 11, g 12, g 13, g 14, g 15, g 16, g 17, g 18, g 19, g 20, g 21, g 22, g 23, g 24, g 25, g 26, g 27, g 28, g 29, g 30, g 31, g 32, g 33, g 34, g 35, g 36, g 37, g 38, g 39, g 40, g 41, g 42, g 43, g 44, g 45, g 46, g 47, g 48, g 49, g 50, g 51, g 52, g 53, g 54, g 55, g 56, g 57, g 58, g 59, g 60, g 61, g 62, g 63, g 64, g 65, g 66, g 67, g 68, g 69, g 70, g 71, g 72, g 73, g 74, g 75, g 76, g 77, g 78, g 79, g 80, g 81, g 82, g 83, g 84, g 85, g 86, g 87, g 88, g 89, g 90, g 91, g 92, g 93, g 94, g 95, g 96, g 97, g 98, g 99, g 100, g 101, g 102, g 103, g 104, g 105, g 106, g 107, g 108, g 109, g 110, g 111, g 112, g 113, g 114, g 115, g 116, g 117, g 118, g 119, g 120, g 121, g 122, g 123, g 124, g 125, g 126, g 127, g 128, g 129, g 130, g 131, g 132, g 133, g 134, g 135, g 136, g 137, g 138, g 139, g 140, g 141, g 142, g 143, g 144, g 145, g 146, g 147, g 148, g 149, g 150, g 151, g 152, g 153, g 154, g 155, g 156, g 157, g 158, g 159, g 160, g 161, g 162, g 163, g 164, g 165, g 166, g 167, g 168, g 169, g 170, g 171, g 172, g 173, g 174, g 175, g 176, g 177, g 178, g 179, g 180, g 181, g 182, g 183, g 184]) h (fun o e' h' => match o with | .normal => J e' h' | .exit i => K (.exit i) e' h' | .ret => K .ret e' h') .mk := by
  have ln := hw.len hT
  have g1 : (t.length : Int) > 0 := by omega
  have g3 : t[0]? = some t[0] := List.getElem?_eq_getElem hlt
  have ix0 : ∀ H, indexAddrA T H 24 w (.int .i64 0) = some (placeA w 0 1) := hw.idx hT g3
  have ld0 := hw.ld hT g3
  have hd : t = t[0] :: t.drop 1 := (List.drop_eq_getElem_cons hlt)
  have hne : t ≠ [] := by intro h0; rw [h0] at hlt; simp at hlt
  have hc256 : c < 256 := by have := t[0].toNat_lt; omega
  have g4 : (t[0].toNat : Int) = (c : Int) := by rw [hc]
  have key : ∀ n lo hi : Nat, ((c < 128 ∧ n = 0) ∨ (128 ≤ c ∧ classU c = (n + 1, lo, hi) ∧ 1 ≤ n ∧ n ≤ 3)) → validU s = if allOk t n lo hi then validU (t.drop (n + 1)) else false := fun n lo hi h => by
    rw [← hv, validU_cons hne, seqLen_class hd (by rw [← hc]; exact h)]
    cases allOk t n lo hi with
    | true => simp
    | false => simp
  have w1 : (c : Int) < 128 := by omega
  have hk := key 0 0 0 (.inl ⟨hcc, rfl⟩)
  rw [show allOk t 0 0 0 = true from rfl, if_pos rfl] at hk
  obtain ⟨rv, sl1', hrv⟩ := hw.tail hT (k := 1) (by omega)
  have sl1 : ∀ H, sliceA T H 24 w (some (.int .i64 1)) none none = some rv := sl1'
  obtain ⟨r, hr⟩ : ∃ r, r = t.drop 1 := ⟨_, rfl⟩
  have hrl : r.length + 1 = t.length := by rw [hr, List.length_drop]; omega
  rw [← hr] at hrv hk
  have lr := hrv.len hT
  by_cases hA : 8 < r.length
  rotate_left
  · have w2 : ¬ ((r.length : Int) > 8) := by omega
    simp only [gX,gM,gL,gB,List.map_cons,List.map_nil,wantedA,evOp,opv,absC,absC0,isAggT,resA,resultA,binA,eqA,eqGuardA,isConstA,isFlatScalar,shiftOp,strOp,ordB,readN,sliceCells,lenA,storeA,newA,buildA,fillA,buildSliceA,boundsA,bndA,ptrOK,fieldAddrA,fieldA,indexA,extractA,convA,isIntT,biA,bytesOf,setAll,List.replicate,List.cons.injEq,exists_eq_left',exists_eq_left,exists_eq_right',eq_self,Option.map_some,Option.map_none,Option.bind_some,Option.bind_none,Option.some.injEq,Prod.mk.injEq,Nat.reduceAdd,Nat.reduceSub,Nat.reduceMul,Nat.reduceLT,Nat.reduceLeDiff,Nat.reduceEqDiff,Int.reduceEq,Int.reduceLT,Int.reduceLE,Int.reduceNe,Int.reduceAdd,beq_self_eq_true,Option.bind_eq_bind,Option.pure_def,bind_pure_comp,Option.map_eq_map,decide_eq_true_eq,ne_eq,not_false_eq_true,not_true_eq_false,Nat.lt_irrefl,Nat.reduceBEq,if_true,if_false,ite_true,ite_false,reduceCtorEq,Bool.false_eq_true,lenB_nil,lenB_slice,lenB_oslice,lenB_str,lenB_agg,indexAddrA_slice,indexAddrA_oslice,indexAddrA_ptr,indexAddrA_optr,loadA_ptr,loadA_optr,lenK,indexK,loadK,Option.toList_some,Option.toList_none,Int.reduceBEq,Int.reduceBNe,Int.reduceMod,Int.reduceDiv,Int.reduceTDiv,Int.reduceTMod,Int.reduceFDiv,Int.reduceSub,Int.reduceNeg,Int.reduceGT,Int.reduceGE,BitVec.reduceOfInt,BitVec.reduceAnd,BitVec.reduceOr,BitVec.reduceXOr,BitVec.reduceToNat,Int.cast_ofNat_Int,Int.reduceToNat,Int.reducePow,Nat.min_eq_left,Int.reduceMul,List.mapM_cons,List.mapM_nil,hT.all,body71,loopB,Tryd.f71,ln,g1,ix0,ld0,g4,w1,lr,w2,sl1]
    exact hJ rv r _ _ rfl (by omega) (hk.symm) hrv
  have w2 : ((r.length : Int) > 8) := by omega
  obtain ⟨rv2, sl2', hrv2⟩ := hrv.tail hT (k := 8) (by omega)
  have sl2 : ∀ H, sliceA T H 24 rv (some (.int .i64 8)) none none = some rv2 := sl2'
  simp only [gX,gM,gL,gB,List.map_cons,List.map_nil,wantedA,evOp,opv,absC,absC0,isAggT,resA,resultA,binA,eqA,eqGuardA,isConstA,isFlatScalar,shiftOp,strOp,ordB,readN,sliceCells,lenA,storeA,newA,buildA,fillA,buildSliceA,boundsA,bndA,ptrOK,fieldAddrA,fieldA,indexA,extractA,convA,isIntT,biA,bytesOf,setAll,List.replicate,List.cons.injEq,exists_eq_left',exists_eq_left,exists_eq_right',eq_self,Option.map_some,Option.map_none,Option.bind_some,Option.bind_none,Option.some.injEq,Prod.mk.injEq,Nat.reduceAdd,Nat.reduceSub,Nat.reduceMul,Nat.reduceLT,Nat.reduceLeDiff,Nat.reduceEqDiff,Int.reduceEq,Int.reduceLT,Int.reduceLE,Int.reduceNe,Int.reduceAdd,beq_self_eq_true,Option.bind_eq_bind,Option.pure_def,bind_pure_comp,Option.map_eq_map,decide_eq_true_eq,ne_eq,not_false_eq_true,not_true_eq_false,Nat.lt_irrefl,Nat.reduceBEq,if_true,if_false,ite_true,ite_false,reduceCtorEq,Bool.false_eq_true,lenB_nil,lenB_slice,lenB_oslice,lenB_str,lenB_agg,indexAddrA_slice,indexAddrA_oslice,indexAddrA_ptr,indexAddrA_optr,loadA_ptr,loadA_optr,lenK,indexK,loadK,Option.toList_some,Option.toList_none,Int.reduceBEq,Int.reduceBNe,Int.reduceMod,Int.reduceDiv,Int.reduceTDiv,Int.reduceTMod,Int.reduceFDiv,Int.reduceSub,Int.reduceNeg,Int.reduceGT,Int.reduceGE,BitVec.reduceOfInt,BitVec.reduceAnd,BitVec.reduceOr,BitVec.reduceXOr,BitVec.reduceToNat,Int.cast_ofNat_Int,Int.reduceToNat,Int.reducePow,Nat.min_eq_left,Int.reduceMul,List.mapM_cons,List.mapM_nil,hT.all,body71,loopB,Tryd.f71,ln,g1,ix0,ld0,g4,w1,lr,w2,sl1]
  refine hS.one (wordBytes M _ hrv (by omega)) ?_
  by_cases hB : (wordS r &&& 9259542123273814144#64) = 0#64
  rotate_left
  · have w3 := mask_zero (wordS r)
    rw [decide_eq_false hB] at w3
    simp only [gX,gM,gL,gB,List.map_cons,List.map_nil,wantedA,evOp,opv,absC,absC0,isAggT,resA,resultA,binA,eqA,eqGuardA,isConstA,isFlatScalar,shiftOp,strOp,ordB,readN,sliceCells,lenA,storeA,newA,buildA,fillA,buildSliceA,boundsA,bndA,ptrOK,fieldAddrA,fieldA,indexA,extractA,convA,isIntT,biA,bytesOf,setAll,List.replicate,List.cons.injEq,exists_eq_left',exists_eq_left,exists_eq_right',eq_self,Option.map_some,Option.map_none,Option.bind_some,Option.bind_none,Option.some.injEq,Prod.mk.injEq,Nat.reduceAdd,Nat.reduceSub,Nat.reduceMul,Nat.reduceLT,Nat.reduceLeDiff,Nat.reduceEqDiff,Int.reduceEq,Int.reduceLT,Int.reduceLE,Int.reduceNe,Int.reduceAdd,beq_self_eq_true,Option.bind_eq_bind,Option.pure_def,bind_pure_comp,Option.map_eq_map,decide_eq_true_eq,ne_eq,not_false_eq_true,not_true_eq_false,Nat.lt_irrefl,Nat.reduceBEq,if_true,if_false,ite_true,ite_false,reduceCtorEq,Bool.false_eq_true,lenB_nil,lenB_slice,lenB_oslice,lenB_str,lenB_agg,indexAddrA_slice,indexAddrA_oslice,indexAddrA_ptr,indexAddrA_optr,loadA_ptr,loadA_optr,lenK,indexK,loadK,Option.toList_some,Option.toList_none,Int.reduceBEq,Int.reduceBNe,Int.reduceMod,Int.reduceDiv,Int.reduceTDiv,Int.reduceTMod,Int.reduceFDiv,Int.reduceSub,Int.reduceNeg,Int.reduceGT,Int.reduceGE,BitVec.reduceOfInt,BitVec.reduceAnd,BitVec.reduceOr,BitVec.reduceXOr,BitVec.reduceToNat,Int.cast_ofNat_Int,Int.reduceToNat,Int.reducePow,Nat.min_eq_left,Int.reduceMul,List.mapM_cons,List.mapM_nil,hT.all,ofInt_bv,wrap_bv,w3]
    exact hJ rv r _ _ rfl (by omega) (hk.symm) hrv
  have w3 := mask_zero (wordS r)
  rw [decide_eq_true hB] at w3
  have hk2 : validU r = validU (r.drop 8) := ascii8 (by omega) (low8_mask hB)
  obtain ⟨r2, hr2⟩ : ∃ r2, r2 = r.drop 8 := ⟨_, rfl⟩
  have hrl2 : r2.length + 8 = r.length := by rw [hr2, List.length_drop]; omega
  rw [← hr2] at hrv2 hk2
  have lr2 := hrv2.len hT
  by_cases hC : 16 < r2.length
  rotate_left
  · have w4 : ¬ ((r2.length : Int) > 16) := by omega
    simp only [gX,gM,gL,gB,List.map_cons,List.map_nil,wantedA,evOp,opv,absC,absC0,isAggT,resA,resultA,binA,eqA,eqGuardA,isConstA,isFlatScalar,shiftOp,strOp,ordB,readN,sliceCells,lenA,storeA,newA,buildA,fillA,buildSliceA,boundsA,bndA,ptrOK,fieldAddrA,fieldA,indexA,extractA,convA,isIntT,biA,bytesOf,setAll,List.replicate,List.cons.injEq,exists_eq_left',exists_eq_left,exists_eq_right',eq_self,Option.map_some,Option.map_none,Option.bind_some,Option.bind_none,Option.some.injEq,Prod.mk.injEq,Nat.reduceAdd,Nat.reduceSub,Nat.reduceMul,Nat.reduceLT,Nat.reduceLeDiff,Nat.reduceEqDiff,Int.reduceEq,Int.reduceLT,Int.reduceLE,Int.reduceNe,Int.reduceAdd,beq_self_eq_true,Option.bind_eq_bind,Option.pure_def,bind_pure_comp,Option.map_eq_map,decide_eq_true_eq,ne_eq,not_false_eq_true,not_true_eq_false,Nat.lt_irrefl,Nat.reduceBEq,if_true,if_false,ite_true,ite_false,reduceCtorEq,Bool.false_eq_true,lenB_nil,lenB_slice,lenB_oslice,lenB_str,lenB_agg,indexAddrA_slice,indexAddrA_oslice,indexAddrA_ptr,indexAddrA_optr,loadA_ptr,loadA_optr,lenK,indexK,loadK,Option.toList_some,Option.toList_none,Int.reduceBEq,Int.reduceBNe,Int.reduceMod,Int.reduceDiv,Int.reduceTDiv,Int.reduceTMod,Int.reduceFDiv,Int.reduceSub,Int.reduceNeg,Int.reduceGT,Int.reduceGE,BitVec.reduceOfInt,BitVec.reduceAnd,BitVec.reduceOr,BitVec.reduceXOr,BitVec.reduceToNat,Int.cast_ofNat_Int,Int.reduceToNat,Int.reducePow,Nat.min_eq_left,Int.reduceMul,List.mapM_cons,List.mapM_nil,hT.all,ofInt_bv,wrap_bv,w3,lr2,w4,sl2]
    exact hJ rv2 r2 _ _ rfl (by omega) (by rw [hk, hk2]) hrv2
  have w4 : ((r2.length : Int) > 16) := by omega
  obtain ⟨rv3, sl3', hrv3⟩ := hrv2.tail hT (k := 8) (by omega)
  have sl3 : ∀ H, sliceA T H 24 rv2 (some (.int .i64 8)) none none = some rv3 := sl3'
  obtain ⟨rv4, sl4', hrv4⟩ := hrv2.tail hT (k := 16) (by omega)
  have sl4 : ∀ H, sliceA T H 24 rv2 (some (.int .i64 16)) none none = some rv4 := sl4'
  simp only [gX,gM,gL,gB,List.map_cons,List.map_nil,wantedA,evOp,opv,absC,absC0,isAggT,resA,resultA,binA,eqA,eqGuardA,isConstA,isFlatScalar,shiftOp,strOp,ordB,readN,sliceCells,lenA,storeA,newA,buildA,fillA,buildSliceA,boundsA,bndA,ptrOK,fieldAddrA,fieldA,indexA,extractA,convA,isIntT,biA,bytesOf,setAll,List.replicate,List.cons.injEq,exists_eq_left',exists_eq_left,exists_eq_right',eq_self,Option.map_some,Option.map_none,Option.bind_some,Option.bind_none,Option.some.injEq,Prod.mk.injEq,Nat.reduceAdd,Nat.reduceSub,Nat.reduceMul,Nat.reduceLT,Nat.reduceLeDiff,Nat.reduceEqDiff,Int.reduceEq,Int.reduceLT,Int.reduceLE,Int.reduceNe,Int.reduceAdd,beq_self_eq_true,Option.bind_eq_bind,Option.pure_def,bind_pure_comp,Option.map_eq_map,decide_eq_true_eq,ne_eq,not_false_eq_true,not_true_eq_false,Nat.lt_irrefl,Nat.reduceBEq,if_true,if_false,ite_true,ite_false,reduceCtorEq,Bool.false_eq_true,lenB_nil,lenB_slice,lenB_oslice,lenB_str,lenB_agg,indexAddrA_slice,indexAddrA_oslice,indexAddrA_ptr,indexAddrA_optr,loadA_ptr,loadA_optr,lenK,indexK,loadK,Option.toList_some,Option.toList_none,Int.reduceBEq,Int.reduceBNe,Int.reduceMod,Int.reduceDiv,Int.reduceTDiv,Int.reduceTMod,Int.reduceFDiv,Int.reduceSub,Int.reduceNeg,Int.reduceGT,Int.reduceGE,BitVec.reduceOfInt,BitVec.reduceAnd,BitVec.reduceOr,BitVec.reduceXOr,BitVec.reduceToNat,Int.cast_ofNat_Int,Int.reduceToNat,Int.reducePow,Nat.min_eq_left,Int.reduceMul,List.mapM_cons,List.mapM_nil,hT.all,ofInt_bv,wrap_bv,w3,lr2,w4,sl2]
  refine hS.ex (wordBytes M _ hrv2 (by omega)) ?_
  simp only [gX,gM,gL,gB,List.map_cons,List.map_nil,wantedA,evOp,opv,absC,absC0,isAggT,resA,resultA,binA,eqA,eqGuardA,isConstA,isFlatScalar,shiftOp,strOp,ordB,readN,sliceCells,lenA,storeA,newA,buildA,fillA,buildSliceA,boundsA,bndA,ptrOK,fieldAddrA,fieldA,indexA,extractA,convA,isIntT,biA,bytesOf,setAll,List.replicate,List.cons.injEq,exists_eq_left',exists_eq_left,exists_eq_right',eq_self,Option.map_some,Option.map_none,Option.bind_some,Option.bind_none,Option.some.injEq,Prod.mk.injEq,Nat.reduceAdd,Nat.reduceSub,Nat.reduceMul,Nat.reduceLT,Nat.reduceLeDiff,Nat.reduceEqDiff,Int.reduceEq,Int.reduceLT,Int.reduceLE,Int.reduceNe,Int.reduceAdd,beq_self_eq_true,Option.bind_eq_bind,Option.pure_def,bind_pure_comp,Option.map_eq_map,decide_eq_true_eq,ne_eq,not_false_eq_true,not_true_eq_false,Nat.lt_irrefl,Nat.reduceBEq,if_true,if_false,ite_true,ite_false,reduceCtorEq,Bool.false_eq_true,lenB_nil,lenB_slice,lenB_oslice,lenB_str,lenB_agg,indexAddrA_slice,indexAddrA_oslice,indexAddrA_ptr,indexAddrA_optr,loadA_ptr,loadA_optr,lenK,indexK,loadK,Option.toList_some,Option.toList_none,Int.reduceBEq,Int.reduceBNe,Int.reduceMod,Int.reduceDiv,Int.reduceTDiv,Int.reduceTMod,Int.reduceFDiv,Int.reduceSub,Int.reduceNeg,Int.reduceGT,Int.reduceGE,BitVec.reduceOfInt,BitVec.reduceAnd,BitVec.reduceOr,BitVec.reduceXOr,BitVec.reduceToNat,Int.cast_ofNat_Int,Int.reduceToNat,Int.reducePow,Nat.min_eq_left,Int.reduceMul,List.mapM_cons,List.mapM_nil,hT.all,sl3]
  refine hS.ex (wordBytes M _ hrv3 (by simp; omega)) ?_
  by_cases hD : ((wordS r2 ||| wordS (r2.drop 8)) &&& 9259542123273814144#64) = 0#64
  rotate_left
  · have w5 := mask_zero (wordS r2 ||| wordS (r2.drop 8))
    rw [decide_eq_false hD] at w5
    simp only [gX,gM,gL,gB,List.map_cons,List.map_nil,wantedA,evOp,opv,absC,absC0,isAggT,resA,resultA,binA,eqA,eqGuardA,isConstA,isFlatScalar,shiftOp,strOp,ordB,readN,sliceCells,lenA,storeA,newA,buildA,fillA,buildSliceA,boundsA,bndA,ptrOK,fieldAddrA,fieldA,indexA,extractA,convA,isIntT,biA,bytesOf,setAll,List.replicate,List.cons.injEq,exists_eq_left',exists_eq_left,exists_eq_right',eq_self,Option.map_some,Option.map_none,Option.bind_some,Option.bind_none,Option.some.injEq,Prod.mk.injEq,Nat.reduceAdd,Nat.reduceSub,Nat.reduceMul,Nat.reduceLT,Nat.reduceLeDiff,Nat.reduceEqDiff,Int.reduceEq,Int.reduceLT,Int.reduceLE,Int.reduceNe,Int.reduceAdd,beq_self_eq_true,Option.bind_eq_bind,Option.pure_def,bind_pure_comp,Option.map_eq_map,decide_eq_true_eq,ne_eq,not_false_eq_true,not_true_eq_false,Nat.lt_irrefl,Nat.reduceBEq,if_true,if_false,ite_true,ite_false,reduceCtorEq,Bool.false_eq_true,lenB_nil,lenB_slice,lenB_oslice,lenB_str,lenB_agg,indexAddrA_slice,indexAddrA_oslice,indexAddrA_ptr,indexAddrA_optr,loadA_ptr,loadA_optr,lenK,indexK,loadK,Option.toList_some,Option.toList_none,Int.reduceBEq,Int.reduceBNe,Int.reduceMod,Int.reduceDiv,Int.reduceTDiv,Int.reduceTMod,Int.reduceFDiv,Int.reduceSub,Int.reduceNeg,Int.reduceGT,Int.reduceGE,BitVec.reduceOfInt,BitVec.reduceAnd,BitVec.reduceOr,BitVec.reduceXOr,BitVec.reduceToNat,Int.cast_ofNat_Int,Int.reduceToNat,Int.reducePow,Nat.min_eq_left,Int.reduceMul,List.mapM_cons,List.mapM_nil,hT.all,ofInt_bv,wrap_bv,w5]
    exact hJ rv2 r2 _ _ rfl (by omega) (by rw [hk, hk2]) hrv2
  have w5 := mask_zero (wordS r2 ||| wordS (r2.drop 8))
  rw [decide_eq_true hD] at w5
  have hk3 : validU r2 = validU (r2.drop 16) := ascii16 (by omega) (low8_mask hD)
  obtain ⟨r3, hr3⟩ : ∃ r3, r3 = r2.drop 16 := ⟨_, rfl⟩
  have hrl3 : r3.length + 16 = r2.length := by rw [hr3, List.length_drop]; omega
  rw [← hr3] at hrv4 hk3
  simp only [gX,gM,gL,gB,List.map_cons,List.map_nil,wantedA,evOp,opv,absC,absC0,isAggT,resA,resultA,binA,eqA,eqGuardA,isConstA,isFlatScalar,shiftOp,strOp,ordB,readN,sliceCells,lenA,storeA,newA,buildA,fillA,buildSliceA,boundsA,bndA,ptrOK,fieldAddrA,fieldA,indexA,extractA,convA,isIntT,biA,bytesOf,setAll,List.replicate,List.cons.injEq,exists_eq_left',exists_eq_left,exists_eq_right',eq_self,Option.map_some,Option.map_none,Option.bind_some,Option.bind_none,Option.some.injEq,Prod.mk.injEq,Nat.reduceAdd,Nat.reduceSub,Nat.reduceMul,Nat.reduceLT,Nat.reduceLeDiff,Nat.reduceEqDiff,Int.reduceEq,Int.reduceLT,Int.reduceLE,Int.reduceNe,Int.reduceAdd,beq_self_eq_true,Option.bind_eq_bind,Option.pure_def,bind_pure_comp,Option.map_eq_map,decide_eq_true_eq,ne_eq,not_false_eq_true,not_true_eq_false,Nat.lt_irrefl,Nat.reduceBEq,if_true,if_false,ite_true,ite_false,reduceCtorEq,Bool.false_eq_true,lenB_nil,lenB_slice,lenB_oslice,lenB_str,lenB_agg,indexAddrA_slice,indexAddrA_oslice,indexAddrA_ptr,indexAddrA_optr,loadA_ptr,loadA_optr,lenK,indexK,loadK,Option.toList_some,Option.toList_none,Int.reduceBEq,Int.reduceBNe,Int.reduceMod,Int.reduceDiv,Int.reduceTDiv,Int.reduceTMod,Int.reduceFDiv,Int.reduceSub,Int.reduceNeg,Int.reduceGT,Int.reduceGE,BitVec.reduceOfInt,BitVec.reduceAnd,BitVec.reduceOr,BitVec.reduceXOr,BitVec.reduceToNat,Int.cast_ofNat_Int,Int.reduceToNat,Int.reducePow,Nat.min_eq_left,Int.reduceMul,List.mapM_cons,List.mapM_nil,hT.all,ofInt_bv,wrap_bv,w5,sl4]
  refine hS.loop (fun m' e h => ∃ (uv : AV) (u : List UInt8) (j : List AV), e = uv :: .tup [] :: .bool false :: j ∧ j.length = 185 ∧ u.length = m' ∧ m' ≤ r3.length ∧ validU u = validU s ∧ OBy M uv u) r3.length ⟨rv4, r3, _, rfl, rfl, rfl, by omega, by rw [hk, hk2, hk3], hrv4⟩ ?_
  rintro m' e h ⟨uv, u, j, rfl, hj, hm', hms', hv', hu⟩ J' hJ'
  obtain ⟨g, rfl⟩ : ∃ g : Nat → AV, j = [g 0, g 1, g 2, g 3, g 4, g 5, g 6, g 7, g 8, g 9, g 10, g 11, g 12, g 13, g 14, g 15, g 16, g 17, g 18, g 19, g 20, g 21, g 22, g 23, g 24, g 25, g 26, g 27, g 28, g 29, g 30, g 31, g 32, g 33, g 34, g 35, g 36, g 37, g 38, g 39, g 40, g 41, g 42, g 43, g 44, g 45, g 46, g 47, g 48, g 49, g 50, g 51, g 52, g 53, g 54, g 55, g 56, g 57, g 58, g 59, g 60, g 61, g 62, g 63, g 64, g 65, g 66, g 67, g 68, g 69, g 70, g 71, g 72, g 73, g 74, g 75, g 76, g 77, g 78, g 79, g 80, g 81, g 82, g 83, g 84, g 85, g 86, g 87, g 88, g 89, g 90, g 91, g 92, g 93, g 94, g 95, g 96, g 97, g 98, g 99, g 100, g 101, g 102, g 103, g 104, g 105, g 106, g 107, g 108, g 109, g 110, g 111, g 112, g 113, g 114, g 115, g 116, g 117, g 118, g 119, g 120, g 121, g 122, g 123, g 124, g 125, g 126, g 127, g 128, g 129, g 130, g 131, g 132, g 133, g 134, g 135, g 136, g 137, g 138, g 139, g 140, g 141, g 142, g 143, g 144, g 145, g 146, g 147, g 148, g 149, g 150, g 151, g 152, g 153, g 154, g 155, g 156, g 157, g 158, g 159, g 160, g 161, g 162, g 163, g 164, g 165, g 166, g 167, g 168, g 169, g 170, g 171, g 172, g 173, g 174, g 175, g 176, g 177, g 178, g 179, g 180, g 181, g 182, g 183, g 184] := junk 185 j hj
  have lu := hu.len hT
  by_cases hE : 32 < u.length
  rotate_left
  · have w6 : ¬ ((u.length : Int) > 32) := by omega
    simp only [gX,gM,gL,gB,List.map_cons,List.map_nil,wantedA,evOp,opv,absC,absC0,isAggT,resA,resultA,binA,eqA,eqGuardA,isConstA,isFlatScalar,shiftOp,strOp,ordB,readN,sliceCells,lenA,storeA,newA,buildA,fillA,buildSliceA,boundsA,bndA,ptrOK,fieldAddrA,fieldA,indexA,extractA,convA,isIntT,biA,bytesOf,setAll,List.replicate,List.cons.injEq,exists_eq_left',exists_eq_left,exists_eq_right',eq_self,Option.map_some,Option.map_none,Option.bind_some,Option.bind_none,Option.some.injEq,Prod.mk.injEq,Nat.reduceAdd,Nat.reduceSub,Nat.reduceMul,Nat.reduceLT,Nat.reduceLeDiff,Nat.reduceEqDiff,Int.reduceEq,Int.reduceLT,Int.reduceLE,Int.reduceNe,Int.reduceAdd,beq_self_eq_true,Option.bind_eq_bind,Option.pure_def,bind_pure_comp,Option.map_eq_map,decide_eq_true_eq,ne_eq,not_false_eq_true,not_true_eq_false,Nat.lt_irrefl,Nat.reduceBEq,if_true,if_false,ite_true,ite_false,reduceCtorEq,Bool.false_eq_true,lenB_nil,lenB_slice,lenB_oslice,lenB_str,lenB_agg,indexAddrA_slice,indexAddrA_oslice,indexAddrA_ptr,indexAddrA_optr,loadA_ptr,loadA_optr,lenK,indexK,loadK,Option.toList_some,Option.toList_none,Int.reduceBEq,Int.reduceBNe,Int.reduceMod,Int.reduceDiv,Int.reduceTDiv,Int.reduceTMod,Int.reduceFDiv,Int.reduceSub,Int.reduceNeg,Int.reduceGT,Int.reduceGE,BitVec.reduceOfInt,BitVec.reduceAnd,BitVec.reduceOr,BitVec.reduceXOr,BitVec.reduceToNat,Int.cast_ofNat_Int,Int.reduceToNat,Int.reducePow,Nat.min_eq_left,Int.reduceMul,List.mapM_cons,List.mapM_nil,hT.all,lu,w6]
    exact hJ uv u _ _ rfl (by omega) (hv') hu
  have w6 : ((u.length : Int) > 32) := by omega
  obtain ⟨u8v, sl5', hu5⟩ := hu.tail hT (k := 8) (by omega)
  have sl5 : ∀ H, sliceA T H 24 uv (some (.int .i64 8)) none none = some u8v := sl5'
  obtain ⟨u16v, sl6', hu6⟩ := hu.tail hT (k := 16) (by omega)
  have sl6 : ∀ H, sliceA T H 24 uv (some (.int .i64 16)) none none = some u16v := sl6'
  obtain ⟨u24v, sl7', hu7⟩ := hu.tail hT (k := 24) (by omega)
  have sl7 : ∀ H, sliceA T H 24 uv (some (.int .i64 24)) none none = some u24v := sl7'
  obtain ⟨u32v, sl8', hu8⟩ := hu.tail hT (k := 32) (by omega)
  have sl8 : ∀ H, sliceA T H 24 uv (some (.int .i64 32)) none none = some u32v := sl8'
  simp only [gX,gM,gL,gB,List.map_cons,List.map_nil,wantedA,evOp,opv,absC,absC0,isAggT,resA,resultA,binA,eqA,eqGuardA,isConstA,isFlatScalar,shiftOp,strOp,ordB,readN,sliceCells,lenA,storeA,newA,buildA,fillA,buildSliceA,boundsA,bndA,ptrOK,fieldAddrA,fieldA,indexA,extractA,convA,isIntT,biA,bytesOf,setAll,List.replicate,List.cons.injEq,exists_eq_left',exists_eq_left,exists_eq_right',eq_self,Option.map_some,Option.map_none,Option.bind_some,Option.bind_none,Option.some.injEq,Prod.mk.injEq,Nat.reduceAdd,Nat.reduceSub,Nat.reduceMul,Nat.reduceLT,Nat.reduceLeDiff,Nat.reduceEqDiff,Int.reduceEq,Int.reduceLT,Int.reduceLE,Int.reduceNe,Int.reduceAdd,beq_self_eq_true,Option.bind_eq_bind,Option.pure_def,bind_pure_comp,Option.map_eq_map,decide_eq_true_eq,ne_eq,not_false_eq_true,not_true_eq_false,Nat.lt_irrefl,Nat.reduceBEq,if_true,if_false,ite_true,ite_false,reduceCtorEq,Bool.false_eq_true,lenB_nil,lenB_slice,lenB_oslice,lenB_str,lenB_agg,indexAddrA_slice,indexAddrA_oslice,indexAddrA_ptr,indexAddrA_optr,loadA_ptr,loadA_optr,lenK,indexK,loadK,Option.toList_some,Option.toList_none,Int.reduceBEq,Int.reduceBNe,Int.reduceMod,Int.reduceDiv,Int.reduceTDiv,Int.reduceTMod,Int.reduceFDiv,Int.reduceSub,Int.reduceNeg,Int.reduceGT,Int.reduceGE,BitVec.reduceOfInt,BitVec.reduceAnd,BitVec.reduceOr,BitVec.reduceXOr,BitVec.reduceToNat,Int.cast_ofNat_Int,Int.reduceToNat,Int.reducePow,Nat.min_eq_left,Int.reduceMul,List.mapM_cons,List.mapM_nil,hT.all,lu,w6]
  refine hS.ex (wordBytes M _ hu (by omega)) ?_
  simp only [gX,gM,gL,gB,List.map_cons,List.map_nil,wantedA,evOp,opv,absC,absC0,isAggT,resA,resultA,binA,eqA,eqGuardA,isConstA,isFlatScalar,shiftOp,strOp,ordB,readN,sliceCells,lenA,storeA,newA,buildA,fillA,buildSliceA,boundsA,bndA,ptrOK,fieldAddrA,fieldA,indexA,extractA,convA,isIntT,biA,bytesOf,setAll,List.replicate,List.cons.injEq,exists_eq_left',exists_eq_left,exists_eq_right',eq_self,Option.map_some,Option.map_none,Option.bind_some,Option.bind_none,Option.some.injEq,Prod.mk.injEq,Nat.reduceAdd,Nat.reduceSub,Nat.reduceMul,Nat.reduceLT,Nat.reduceLeDiff,Nat.reduceEqDiff,Int.reduceEq,Int.reduceLT,Int.reduceLE,Int.reduceNe,Int.reduceAdd,beq_self_eq_true,Option.bind_eq_bind,Option.pure_def,bind_pure_comp,Option.map_eq_map,decide_eq_true_eq,ne_eq,not_false_eq_true,not_true_eq_false,Nat.lt_irrefl,Nat.reduceBEq,if_true,if_false,ite_true,ite_false,reduceCtorEq,Bool.false_eq_true,lenB_nil,lenB_slice,lenB_oslice,lenB_str,lenB_agg,indexAddrA_slice,indexAddrA_oslice,indexAddrA_ptr,indexAddrA_optr,loadA_ptr,loadA_optr,lenK,indexK,loadK,Option.toList_some,Option.toList_none,Int.reduceBEq,Int.reduceBNe,Int.reduceMod,Int.reduceDiv,Int.reduceTDiv,Int.reduceTMod,Int.reduceFDiv,Int.reduceSub,Int.reduceNeg,Int.reduceGT,Int.reduceGE,BitVec.reduceOfInt,BitVec.reduceAnd,BitVec.reduceOr,BitVec.reduceXOr,BitVec.reduceToNat,Int.cast_ofNat_Int,Int.reduceToNat,Int.reducePow,Nat.min_eq_left,Int.reduceMul,List.mapM_cons,List.mapM_nil,hT.all,sl5]
  refine hS.ex (wordBytes M _ hu5 (by simp; omega)) ?_
  simp only [gX,gM,gL,gB,List.map_cons,List.map_nil,wantedA,evOp,opv,absC,absC0,isAggT,resA,resultA,binA,eqA,eqGuardA,isConstA,isFlatScalar,shiftOp,strOp,ordB,readN,sliceCells,lenA,storeA,newA,buildA,fillA,buildSliceA,boundsA,bndA,ptrOK,fieldAddrA,fieldA,indexA,extractA,convA,isIntT,biA,bytesOf,setAll,List.replicate,List.cons.injEq,exists_eq_left',exists_eq_left,exists_eq_right',eq_self,Option.map_some,Option.map_none,Option.bind_some,Option.bind_none,Option.some.injEq,Prod.mk.injEq,Nat.reduceAdd,Nat.reduceSub,Nat.reduceMul,Nat.reduceLT,Nat.reduceLeDiff,Nat.reduceEqDiff,Int.reduceEq,Int.reduceLT,Int.reduceLE,Int.reduceNe,Int.reduceAdd,beq_self_eq_true,Option.bind_eq_bind,Option.pure_def,bind_pure_comp,Option.map_eq_map,decide_eq_true_eq,ne_eq,not_false_eq_true,not_true_eq_false,Nat.lt_irrefl,Nat.reduceBEq,if_true,if_false,ite_true,ite_false,reduceCtorEq,Bool.false_eq_true,lenB_nil,lenB_slice,lenB_oslice,lenB_str,lenB_agg,indexAddrA_slice,indexAddrA_oslice,indexAddrA_ptr,indexAddrA_optr,loadA_ptr,loadA_optr,lenK,indexK,loadK,Option.toList_some,Option.toList_none,Int.reduceBEq,Int.reduceBNe,Int.reduceMod,Int.reduceDiv,Int.reduceTDiv,Int.reduceTMod,Int.reduceFDiv,Int.reduceSub,Int.reduceNeg,Int.reduceGT,Int.reduceGE,BitVec.reduceOfInt,BitVec.reduceAnd,BitVec.reduceOr,BitVec.reduceXOr,BitVec.reduceToNat,Int.cast_ofNat_Int,Int.reduceToNat,Int.reducePow,Nat.min_eq_left,Int.reduceMul,List.mapM_cons,List.mapM_nil,hT.all,ofInt_bv,wrap_bv,sl6]
  refine hS.ex (wordBytes M _ hu6 (by simp; omega)) ?_
  simp only [gX,gM,gL,gB,List.map_cons,List.map_nil,wantedA,evOp,opv,absC,absC0,isAggT,resA,resultA,binA,eqA,eqGuardA,isConstA,isFlatScalar,shiftOp,strOp,ordB,readN,sliceCells,lenA,storeA,newA,buildA,fillA,buildSliceA,boundsA,bndA,ptrOK,fieldAddrA,fieldA,indexA,extractA,convA,isIntT,biA,bytesOf,setAll,List.replicate,List.cons.injEq,exists_eq_left',exists_eq_left,exists_eq_right',eq_self,Option.map_some,Option.map_none,Option.bind_some,Option.bind_none,Option.some.injEq,Prod.mk.injEq,Nat.reduceAdd,Nat.reduceSub,Nat.reduceMul,Nat.reduceLT,Nat.reduceLeDiff,Nat.reduceEqDiff,Int.reduceEq,Int.reduceLT,Int.reduceLE,Int.reduceNe,Int.reduceAdd,beq_self_eq_true,Option.bind_eq_bind,Option.pure_def,bind_pure_comp,Option.map_eq_map,decide_eq_true_eq,ne_eq,not_false_eq_true,not_true_eq_false,Nat.lt_irrefl,Nat.reduceBEq,if_true,if_false,ite_true,ite_false,reduceCtorEq,Bool.false_eq_true,lenB_nil,lenB_slice,lenB_oslice,lenB_str,lenB_agg,indexAddrA_slice,indexAddrA_oslice,indexAddrA_ptr,indexAddrA_optr,loadA_ptr,loadA_optr,lenK,indexK,loadK,Option.toList_some,Option.toList_none,Int.reduceBEq,Int.reduceBNe,Int.reduceMod,Int.reduceDiv,Int.reduceTDiv,Int.reduceTMod,Int.reduceFDiv,Int.reduceSub,Int.reduceNeg,Int.reduceGT,Int.reduceGE,BitVec.reduceOfInt,BitVec.reduceAnd,BitVec.reduceOr,BitVec.reduceXOr,BitVec.reduceToNat,Int.cast_ofNat_Int,Int.reduceToNat,Int.reducePow,Nat.min_eq_left,Int.reduceMul,List.mapM_cons,List.mapM_nil,hT.all,sl7]
  refine hS.ex (wordBytes M _ hu7 (by simp; omega)) ?_
  by_cases hF : (((wordS u ||| wordS (u.drop 8)) ||| (wordS (u.drop 16) ||| wordS (u.drop 24))) &&& 9259542123273814144#64) = 0#64
  · have w7 := mask_zero ((wordS u ||| wordS (u.drop 8)) ||| (wordS (u.drop 16) ||| wordS (u.drop 24)))
    rw [decide_eq_true hF] at w7
    simp only [gX,gM,gL,gB,List.map_cons,List.map_nil,wantedA,evOp,opv,absC,absC0,isAggT,resA,resultA,binA,eqA,eqGuardA,isConstA,isFlatScalar,shiftOp,strOp,ordB,readN,sliceCells,lenA,storeA,newA,buildA,fillA,buildSliceA,boundsA,bndA,ptrOK,fieldAddrA,fieldA,indexA,extractA,convA,isIntT,biA,bytesOf,setAll,List.replicate,List.cons.injEq,exists_eq_left',exists_eq_left,exists_eq_right',eq_self,Option.map_some,Option.map_none,Option.bind_some,Option.bind_none,Option.some.injEq,Prod.mk.injEq,Nat.reduceAdd,Nat.reduceSub,Nat.reduceMul,Nat.reduceLT,Nat.reduceLeDiff,Nat.reduceEqDiff,Int.reduceEq,Int.reduceLT,Int.reduceLE,Int.reduceNe,Int.reduceAdd,beq_self_eq_true,Option.bind_eq_bind,Option.pure_def,bind_pure_comp,Option.map_eq_map,decide_eq_true_eq,ne_eq,not_false_eq_true,not_true_eq_false,Nat.lt_irrefl,Nat.reduceBEq,if_true,if_false,ite_true,ite_false,reduceCtorEq,Bool.false_eq_true,lenB_nil,lenB_slice,lenB_oslice,lenB_str,lenB_agg,indexAddrA_slice,indexAddrA_oslice,indexAddrA_ptr,indexAddrA_optr,loadA_ptr,loadA_optr,lenK,indexK,loadK,Option.toList_some,Option.toList_none,Int.reduceBEq,Int.reduceBNe,Int.reduceMod,Int.reduceDiv,Int.reduceTDiv,Int.reduceTMod,Int.reduceFDiv,Int.reduceSub,Int.reduceNeg,Int.reduceGT,Int.reduceGE,BitVec.reduceOfInt,BitVec.reduceAnd,BitVec.reduceOr,BitVec.reduceXOr,BitVec.reduceToNat,Int.cast_ofNat_Int,Int.reduceToNat,Int.reducePow,Nat.min_eq_left,Int.reduceMul,List.mapM_cons,List.mapM_nil,hT.all,ofInt_bv,wrap_bv,w7,sl8]
    exact hJ' (u.drop 32).length _ _ _ (by simp; omega) (Weak.refl _) ⟨u32v, u.drop 32, _, rfl, rfl, rfl, by simp; omega, by rw [← ascii32 (by omega) (low8_mask hF)]; exact hv', hu8⟩
  · have w7 := mask_zero ((wordS u ||| wordS (u.drop 8)) ||| (wordS (u.drop 16) ||| wordS (u.drop 24)))
    rw [decide_eq_false hF] at w7
    simp only [gX,gM,gL,gB,List.map_cons,List.map_nil,wantedA,evOp,opv,absC,absC0,isAggT,resA,resultA,binA,eqA,eqGuardA,isConstA,isFlatScalar,shiftOp,strOp,ordB,readN,sliceCells,lenA,storeA,newA,buildA,fillA,buildSliceA,boundsA,bndA,ptrOK,fieldAddrA,fieldA,indexA,extractA,convA,isIntT,biA,bytesOf,setAll,List.replicate,List.cons.injEq,exists_eq_left',exists_eq_left,exists_eq_right',eq_self,Option.map_some,Option.map_none,Option.bind_some,Option.bind_none,Option.some.injEq,Prod.mk.injEq,Nat.reduceAdd,Nat.reduceSub,Nat.reduceMul,Nat.reduceLT,Nat.reduceLeDiff,Nat.reduceEqDiff,Int.reduceEq,Int.reduceLT,Int.reduceLE,Int.reduceNe,Int.reduceAdd,beq_self_eq_true,Option.bind_eq_bind,Option.pure_def,bind_pure_comp,Option.map_eq_map,decide_eq_true_eq,ne_eq,not_false_eq_true,not_true_eq_false,Nat.lt_irrefl,Nat.reduceBEq,if_true,if_false,ite_true,ite_false,reduceCtorEq,Bool.false_eq_true,lenB_nil,lenB_slice,lenB_oslice,lenB_str,lenB_agg,indexAddrA_slice,indexAddrA_oslice,indexAddrA_ptr,indexAddrA_optr,loadA_ptr,loadA_optr,lenK,indexK,loadK,Option.toList_some,Option.toList_none,Int.reduceBEq,Int.reduceBNe,Int.reduceMod,Int.reduceDiv,Int.reduceTDiv,Int.reduceTMod,Int.reduceFDiv,Int.reduceSub,Int.reduceNeg,Int.reduceGT,Int.reduceGE,BitVec.reduceOfInt,BitVec.reduceAnd,BitVec.reduceOr,BitVec.reduceXOr,BitVec.reduceToNat,Int.cast_ofNat_Int,Int.reduceToNat,Int.reducePow,Nat.min_eq_left,Int.reduceMul,List.mapM_cons,List.mapM_nil,hT.all,ofInt_bv,wrap_bv,w7]
    exact hJ uv u _ _ rfl (by omega) (hv') hu


theorem round_bad1 (M : Addr → Option AV) (hM : ∀ a v, tabM a = some v → M a = some v) {C : CallX} {L : LoopX} {T : Tab} (hT : Ty T) (hS : Wk Tryd.prog T M C L) (s t : List UInt8) (w : AV) (hw : OBy M w t) (g : Nat → AV) (h : Heap) (K : Out → List AV → Heap → Prop) (J : List AV → Heap → Prop) (hv : validU t = validU s) (hlt : 0 < t.length) (hts : t.length < 1000000000000000000) (c : Nat) (hc : c = t[0].toNat) (hcc : 128 ≤ c ∧ c < 194)
    (hJ : ∀ (w' : AV) (t' : List UInt8) (j : List AV) (h' : Heap), j.length = 185 → t'.length < t.length → validU t' = validU s → OBy M w' t' → J (w' :: .tup [] :: .bool false :: j) h')
    (hK : ∀ (e : List AV) (h : Heap), e.getD 2 (.tup []) = .bool (validU s) → K .ret e h) :
    xC C L T M body71 (w :: .tup [] :: .bool false :: [g 0, g 1, g 2, g 3, g 4, g 5, g 6, g 7, g 8, g 9, g 10, g 11, g 12, g 13, g 14, g 15, g 16, g 17, g 18, g 19, g 20, g 21, g 22, g 23, g 24, g 25, g 26, g 27, g 28, g 29, g 30, g 31, g 32, g 33, g 34, g 35, g 36, g 37, g 38, g 39, g 40, g 41, g 42, g 43, g 44, g 45, g 46, g 47, g 48, g 49, g 50, g 51, g 52, g 53, g 54, g 55, g 56, g 57, g 58, g 59, g 60, g 61, g 62, g 63, g 64, g 65, g 66, g 67, g 68, g 69, g 70, g 71, g 72, g 73, g 74, g 75, g 76, g 77, g 78, g 79, g 80, g 81, g 82, g 83, g 84, g 85, g 86, g 87, g 88, g 89, g 90, g 91, g 92, g 93, g 94, g 95, g 96, g 97, g 98, g 99, g 100, g 101, g 102, g 103, g 104, g 105, g 106, g 107, g 108, g 109, g 110, g 111, g 112, g 113, g 114, g 115, g 116, g 117, g 118, g 119, g 120, g 121, g 122, g 123, g 124, g 125, g 126, g 127, g 128, g 129, g 130, g 131, g 132, g 133, g 134, g 135, g 136, g 137, g 138, g 139, g 140, g 141, g 142, g 143, g 144, g 145, g 146, g 147, g 148, g 149, g 150, g 151, g 152, g 153, g 154, g 155, g 156, g 157, g 158, g 159, g 160, g 161, g 162, g 163, g 164, g 165, g 166, g 167, g 168, g 169, g 170, g 171, g 172, g 173, g 174, g 175, g 176, g 177, g 178, g 179, g 180, g 181, g 182, g 183, g 184]) h (fun o e' h' => match o with | .normal => J e' h' | .exit i => K (.exit i) e' h' | .ret => K .ret e' h') .mk := by
  have ln := hw.len hT
  have g1 : (t.length : Int) > 0 := by omega
  have g3 : t[0]? = some t[0] := List.getElem?_eq_getElem hlt
  have ix0 : ∀ H, indexAddrA T H 24 w (.int .i64 0) = some (placeA w 0 1) := hw.idx hT g3
  have ld0 := hw.ld hT g3
  have hd : t = t[0] :: t.drop 1 := (List.drop_eq_getElem_cons hlt)
  have hne : t ≠ [] := by intro h0; rw [h0] at hlt; simp at hlt
  have hc256 : c < 256 := by have := t[0].toNat_lt; omega
  have g4 : (t[0].toNat : Int) = (c : Int) := by rw [hc]
  have key : ∀ n lo hi : Nat, ((c < 128 ∧ n = 0) ∨ (128 ≤ c ∧ classU c = (n + 1, lo, hi) ∧ 1 ≤ n ∧ n ≤ 3)) → validU s = if allOk t n lo hi then validU (t.drop (n + 1)) else false := fun n lo hi h => by
    rw [← hv, validU_cons hne, seqLen_class hd (by rw [← hc]; exact h)]
    cases allOk t n lo hi with
    | true => simp
    | false => simp
  have w1 : ¬ ((c : Int) < 128) := by omega
  have hi0 : (0 : Int) ≤ c := by omega
  have hi1 : (c : Int) < 256 := by omega
  have hX := fun H => first_load hT hM H c 241 (first_bad1 c hc256 hcc)
  have hA := fun H => accept_load hT hM H 30 0 0 rfl rfl
  have hz : IntKind.u8.wrap 1 = 1 := by decide
  have hz2 : IntKind.i64.wrap 1 = 1 := by decide
  have hsh : (241 : Int).fdiv 16 = 15 := by decide
  simp only [gX,gM,gL,gB,List.map_cons,List.map_nil,wantedA,evOp,opv,absC,absC0,isAggT,resA,resultA,binA,eqA,eqGuardA,isConstA,isFlatScalar,shiftOp,strOp,ordB,readN,sliceCells,lenA,storeA,newA,buildA,fillA,buildSliceA,boundsA,bndA,sliceA,ptrOK,fieldAddrA,fieldA,indexA,extractA,convA,isIntT,biA,bytesOf,setAll,List.replicate,List.cons.injEq,exists_eq_left',exists_eq_left,exists_eq_right',eq_self,Option.map_some,Option.map_none,Option.bind_some,Option.bind_none,Option.some.injEq,Prod.mk.injEq,Nat.reduceAdd,Nat.reduceSub,Nat.reduceMul,Nat.reduceLT,Nat.reduceLeDiff,Nat.reduceEqDiff,Int.reduceEq,Int.reduceLT,Int.reduceLE,Int.reduceNe,Int.reduceAdd,beq_self_eq_true,Option.bind_eq_bind,Option.pure_def,bind_pure_comp,Option.map_eq_map,decide_eq_true_eq,ne_eq,not_false_eq_true,not_true_eq_false,Nat.lt_irrefl,Nat.reduceBEq,if_true,if_false,ite_true,ite_false,reduceCtorEq,Bool.false_eq_true,lenB_nil,lenB_slice,lenB_oslice,lenB_str,lenB_agg,indexAddrA_slice,indexAddrA_oslice,indexAddrA_ptr,indexAddrA_optr,loadA_ptr,lenK,indexK,loadK,Option.toList_some,Option.toList_none,Int.reduceBEq,Int.reduceBNe,Int.reduceMod,Int.reduceDiv,Int.reduceTDiv,Int.reduceTMod,Int.reduceFDiv,Int.reduceSub,Int.reduceNeg,Int.reduceGT,Int.reduceGE,BitVec.reduceOfInt,BitVec.reduceAnd,BitVec.reduceOr,BitVec.reduceXOr,BitVec.reduceToNat,Int.cast_ofNat_Int,Int.reduceToNat,Int.reducePow,Nat.min_eq_left,Int.reduceMul,List.mapM_cons,List.mapM_nil,hT.all,body71,loopB,Tryd.f71,ln,g1,ix0,ld0,g4,w1,hi0,hi1,Int.toNat_natCast,hX,hA,hz,hz2,hsh]
  have h0 : seqLen t = 0 := by
    rw [hd]
    unfold seqLen
    have h5 : ¬ c < 128 := by omega
    simp only [← hc, h5, if_false, class_bad1 c hcc]
  have hvf : validU s = false := by rw [← hv, validU_cons hne, if_pos h0]
  exact hK _ _ (by rw [hvf]; rfl)

theorem round_b (M : Addr → Option AV) (hM : ∀ a v, tabM a = some v → M a = some v) {C : CallX} {L : LoopX} {T : Tab} (hT : Ty T) (hS : Wk Tryd.prog T M C L) (s t : List UInt8) (w : AV) (hw : OBy M w t) (g : Nat → AV) (h : Heap) (K : Out → List AV → Heap → Prop) (J : List AV → Heap → Prop) (hv : validU t = validU s) (hlt : 0 < t.length) (hts : t.length < 1000000000000000000) (c : Nat) (hc : c = t[0].toNat) (hcc : 194 ≤ c ∧ c ≤ 223)
    (hJ : ∀ (w' : AV) (t' : List UInt8) (j : List AV) (h' : Heap), j.length = 185 → t'.length < t.length → validU t' = validU s → OBy M w' t' → J (w' :: .tup [] :: .bool false :: j) h')
    (hK : ∀ (e : List AV) (h : Heap), e.getD 2 (.tup []) = .bool (validU s) → K .ret e h) :
    xC C L T M body71 (w :: .tup [] :: .bool false :: [g 0, g 1, g 2, g 3, g 4, g 5, g 6, g 7, g 8, g 9, g 10, g 11, g 12, g 13, g 14, g 15, g 16, g 17, g 18, g 19, g 20, g 21, g 22, g 23, g 24, g 25, g 26, g 27, g 28, g 29, g 30, g 31, g 32, g 33, g 34, g 35, g 36, g 37, g 38, g 39, g 40, g 41, g 42, g 43, g 44, g 45, g 46, g 47, g 48, g 49, g 50, g 51, g 52, g 53, g 54, g 55, g 56, g 57, g 58, g 59, g 60, g 61, g 62, g 63, g 64, g 65, g 66, g 67, g 68, g 69, g 70, g 71, g 72, g 73, g 74, g 75, g 76, g 77, g 78, g 79, g 80, g 81, g 82, g 83, g 84, g 85, g 86, g 87, g 88, g 89, g 90, g 91, g 92, g 93, g 94, g 95, g 96, g 97, g 98, g 99, g 100, g 101, g 102, g 103, g 104, g 105, g 106, g 107, g 108, g 109, g 110, g 111, g 112, g 113, g 114, g 115, g 116, g 117, g 118, g 119, g 120, g 121, g 122, g 123, g 124, g 125, g 126, g 127, g 128, g 129, g 130, g 131, g 132, g 133, g 134, g 135, g 136, g 137, g 138, g 139, g 140, g 141, g 142, g 143, g 144, g 145, g 146, g 147, g 148, g 149, g 150, g 151, g 152, g 153, g 154, g 155, g 156, g 157, g 158, g 159, g 160, g 161, g 162, g 163, g 164, g 165, g 166, g 167, g 168, g 169, g 170, g 171, g 172, g 173, g 174, g 175, g 176, g 177, g 178, g 179, g 180, g 181, g 182, g 183, g 184]) h (fun o e' h' => match o with | .normal => J e' h' | .exit i => K (.exit i) e' h' | .ret => K .ret e' h') .mk := by
  have ln := hw.len hT
  have g1 : (t.length : Int) > 0 := by omega
  have g3 : t[0]? = some t[0] := List.getElem?_eq_getElem hlt
  have ix0 : ∀ H, indexAddrA T H 24 w (.int .i64 0) = some (placeA w 0 1) := hw.idx hT g3
  have ld0 := hw.ld hT g3
  have hd : t = t[0] :: t.drop 1 := (List.drop_eq_getElem_cons hlt)
  have hne : t ≠ [] := by intro h0; rw [h0] at hlt; simp at hlt
  have hc256 : c < 256 := by have := t[0].toNat_lt; omega
  have g4 : (t[0].toNat : Int) = (c : Int) := by rw [hc]
  have key : ∀ n lo hi : Nat, ((c < 128 ∧ n = 0) ∨ (128 ≤ c ∧ classU c = (n + 1, lo, hi) ∧ 1 ≤ n ∧ n ≤ 3)) → validU s = if allOk t n lo hi then validU (t.drop (n + 1)) else false := fun n lo hi h => by
    rw [← hv, validU_cons hne, seqLen_class hd (by rw [← hc]; exact h)]
    cases allOk t n lo hi with
    | true => simp
    | false => simp
  have w1 : ¬ ((c : Int) < 128) := by omega
  have hi0 : (0 : Int) ≤ c := by omega
  have hi1 : (c : Int) < 256 := by omega
  have hX := fun H => first_load hT hM H c 2 (first_b c hc256 hcc)
  have hA := fun H => accept_load hT hM H 0 128 191 rfl rfl
  have hz : IntKind.u8.wrap 2 = 2 := by decide
  have hz2 : IntKind.i64.wrap 2 = 2 := by decide
  have hsh : (2 : Int).fdiv 16 = 0 := by decide
  have hk := key 1 128 191 (.inr ⟨by omega, class_b c hcc, by omega, by omega⟩)
  by_cases hl : t.length < 2
  · have v0 : (t.length : Int) < 2 := by omega
    have hvf : validU s = false := by
      rw [hk, if_neg]
      intro ha
      have := allOk_get ha (k := 0) (by omega)
      unfold okB at this
      rw [List.getElem?_eq_none (by omega)] at this
      cases this
    simp only [gX,gM,gL,gB,List.map_cons,List.map_nil,wantedA,evOp,opv,absC,absC0,isAggT,resA,resultA,binA,eqA,eqGuardA,isConstA,isFlatScalar,shiftOp,strOp,ordB,readN,sliceCells,lenA,storeA,newA,buildA,fillA,buildSliceA,boundsA,bndA,sliceA,ptrOK,fieldAddrA,fieldA,indexA,extractA,convA,isIntT,biA,bytesOf,setAll,List.replicate,List.cons.injEq,exists_eq_left',exists_eq_left,exists_eq_right',eq_self,Option.map_some,Option.map_none,Option.bind_some,Option.bind_none,Option.some.injEq,Prod.mk.injEq,Nat.reduceAdd,Nat.reduceSub,Nat.reduceMul,Nat.reduceLT,Nat.reduceLeDiff,Nat.reduceEqDiff,Int.reduceEq,Int.reduceLT,Int.reduceLE,Int.reduceNe,Int.reduceAdd,beq_self_eq_true,Option.bind_eq_bind,Option.pure_def,bind_pure_comp,Option.map_eq_map,decide_eq_true_eq,ne_eq,not_false_eq_true,not_true_eq_false,Nat.lt_irrefl,Nat.reduceBEq,if_true,if_false,ite_true,ite_false,reduceCtorEq,Bool.false_eq_true,lenB_nil,lenB_slice,lenB_oslice,lenB_str,lenB_agg,indexAddrA_slice,indexAddrA_oslice,indexAddrA_ptr,indexAddrA_optr,loadA_ptr,lenK,indexK,loadK,Option.toList_some,Option.toList_none,Int.reduceBEq,Int.reduceBNe,Int.reduceMod,Int.reduceDiv,Int.reduceTDiv,Int.reduceTMod,Int.reduceFDiv,Int.reduceSub,Int.reduceNeg,Int.reduceGT,Int.reduceGE,BitVec.reduceOfInt,BitVec.reduceAnd,BitVec.reduceOr,BitVec.reduceXOr,BitVec.reduceToNat,Int.cast_ofNat_Int,Int.reduceToNat,Int.reducePow,Nat.min_eq_left,Int.reduceMul,List.mapM_cons,List.mapM_nil,hT.all,body71,loopB,Tryd.f71,ln,g1,ix0,ld0,g4,w1,hi0,hi1,Int.toNat_natCast,hX,hA,hz,hz2,hsh,v0]
    exact hK _ _ (by rw [hvf]; rfl)
  have v0 : ¬ ((t.length : Int) < 2) := by omega
  obtain ⟨d1, k1⟩ := drop_get (s := t) (n := 1) (by omega)
  have ix1 : ∀ H, indexAddrA T H 24 w (.int .i64 1) = some (placeA w 1 1) := hw.idx hT k1
  have ld1 := hw.ld hT k1
  by_cases hv1a : 128 ≤ d1.toNat
  rotate_left
  · have v1a : (d1.toNat : Int) < 128 := by omega
    have hvf : validU s = false := by
      rw [hk, if_neg]
      intro ha
      have := allOk_get ha (k := 0) (by omega)
      rw [okB_get k1] at this
      simp at this
      omega
    simp only [gX,gM,gL,gB,List.map_cons,List.map_nil,wantedA,evOp,opv,absC,absC0,isAggT,resA,resultA,binA,eqA,eqGuardA,isConstA,isFlatScalar,shiftOp,strOp,ordB,readN,sliceCells,lenA,storeA,newA,buildA,fillA,buildSliceA,boundsA,bndA,sliceA,ptrOK,fieldAddrA,fieldA,indexA,extractA,convA,isIntT,biA,bytesOf,setAll,List.replicate,List.cons.injEq,exists_eq_left',exists_eq_left,exists_eq_right',eq_self,Option.map_some,Option.map_none,Option.bind_some,Option.bind_none,Option.some.injEq,Prod.mk.injEq,Nat.reduceAdd,Nat.reduceSub,Nat.reduceMul,Nat.reduceLT,Nat.reduceLeDiff,Nat.reduceEqDiff,Int.reduceEq,Int.reduceLT,Int.reduceLE,Int.reduceNe,Int.reduceAdd,beq_self_eq_true,Option.bind_eq_bind,Option.pure_def,bind_pure_comp,Option.map_eq_map,decide_eq_true_eq,ne_eq,not_false_eq_true,not_true_eq_false,Nat.lt_irrefl,Nat.reduceBEq,if_true,if_false,ite_true,ite_false,reduceCtorEq,Bool.false_eq_true,lenB_nil,lenB_slice,lenB_oslice,lenB_str,lenB_agg,indexAddrA_slice,indexAddrA_oslice,indexAddrA_ptr,indexAddrA_optr,loadA_ptr,lenK,indexK,loadK,Option.toList_some,Option.toList_none,Int.reduceBEq,Int.reduceBNe,Int.reduceMod,Int.reduceDiv,Int.reduceTDiv,Int.reduceTMod,Int.reduceFDiv,Int.reduceSub,Int.reduceNeg,Int.reduceGT,Int.reduceGE,BitVec.reduceOfInt,BitVec.reduceAnd,BitVec.reduceOr,BitVec.reduceXOr,BitVec.reduceToNat,Int.cast_ofNat_Int,Int.reduceToNat,Int.reducePow,Nat.min_eq_left,Int.reduceMul,List.mapM_cons,List.mapM_nil,hT.all,body71,loopB,Tryd.f71,ln,g1,ix0,ld0,g4,w1,hi0,hi1,Int.toNat_natCast,hX,hA,hz,hz2,hsh,v0,ix1,ld1,v1a]
    exact hK _ _ (by rw [hvf]; rfl)
  have v1a : ¬ ((d1.toNat : Int) < 128) := by omega
  by_cases hv1b : d1.toNat ≤ 191
  rotate_left
  · have v1b : (191 : Int) < d1.toNat := by omega
    have hvf : validU s = false := by
      rw [hk, if_neg]
      intro ha
      have := allOk_get ha (k := 0) (by omega)
      rw [okB_get k1] at this
      simp at this
      omega
    simp only [gX,gM,gL,gB,List.map_cons,List.map_nil,wantedA,evOp,opv,absC,absC0,isAggT,resA,resultA,binA,eqA,eqGuardA,isConstA,isFlatScalar,shiftOp,strOp,ordB,readN,sliceCells,lenA,storeA,newA,buildA,fillA,buildSliceA,boundsA,bndA,sliceA,ptrOK,fieldAddrA,fieldA,indexA,extractA,convA,isIntT,biA,bytesOf,setAll,List.replicate,List.cons.injEq,exists_eq_left',exists_eq_left,exists_eq_right',eq_self,Option.map_some,Option.map_none,Option.bind_some,Option.bind_none,Option.some.injEq,Prod.mk.injEq,Nat.reduceAdd,Nat.reduceSub,Nat.reduceMul,Nat.reduceLT,Nat.reduceLeDiff,Nat.reduceEqDiff,Int.reduceEq,Int.reduceLT,Int.reduceLE,Int.reduceNe,Int.reduceAdd,beq_self_eq_true,Option.bind_eq_bind,Option.pure_def,bind_pure_comp,Option.map_eq_map,decide_eq_true_eq,ne_eq,not_false_eq_true,not_true_eq_false,Nat.lt_irrefl,Nat.reduceBEq,if_true,if_false,ite_true,ite_false,reduceCtorEq,Bool.false_eq_true,lenB_nil,lenB_slice,lenB_oslice,lenB_str,lenB_agg,indexAddrA_slice,indexAddrA_oslice,indexAddrA_ptr,indexAddrA_optr,loadA_ptr,lenK,indexK,loadK,Option.toList_some,Option.toList_none,Int.reduceBEq,Int.reduceBNe,Int.reduceMod,Int.reduceDiv,Int.reduceTDiv,Int.reduceTMod,Int.reduceFDiv,Int.reduceSub,Int.reduceNeg,Int.reduceGT,Int.reduceGE,BitVec.reduceOfInt,BitVec.reduceAnd,BitVec.reduceOr,BitVec.reduceXOr,BitVec.reduceToNat,Int.cast_ofNat_Int,Int.reduceToNat,Int.reducePow,Nat.min_eq_left,Int.reduceMul,List.mapM_cons,List.mapM_nil,hT.all,body71,loopB,Tryd.f71,ln,g1,ix0,ld0,g4,w1,hi0,hi1,Int.toNat_natCast,hX,hA,hz,hz2,hsh,v0,ix1,ld1,v1a,v1b]
    exact hK _ _ (by rw [hvf]; rfl)
  have v1b : ¬ ((191 : Int) < d1.toNat) := by omega
  obtain ⟨tv, sl', htv⟩ := hw.tail hT (k := 2) (by omega)
  have sl : ∀ H, sliceA T H 24 w (some (.int .i64 2)) none none = some tv := sl'
  have ha : allOk t 1 128 191 = true := allOk_mk fun k' hk' => by
    have : k' = 0 := by omega
    rcases this with rfl
    · rw [okB_get k1]; simp; omega
  rw [ha, if_pos rfl] at hk
  simp only [gX,gM,gL,gB,List.map_cons,List.map_nil,wantedA,evOp,opv,absC,absC0,isAggT,resA,resultA,binA,eqA,eqGuardA,isConstA,isFlatScalar,shiftOp,strOp,ordB,readN,sliceCells,lenA,storeA,newA,buildA,fillA,buildSliceA,boundsA,bndA,ptrOK,fieldAddrA,fieldA,indexA,extractA,convA,isIntT,biA,bytesOf,setAll,List.replicate,List.cons.injEq,exists_eq_left',exists_eq_left,exists_eq_right',eq_self,Option.map_some,Option.map_none,Option.bind_some,Option.bind_none,Option.some.injEq,Prod.mk.injEq,Nat.reduceAdd,Nat.reduceSub,Nat.reduceMul,Nat.reduceLT,Nat.reduceLeDiff,Nat.reduceEqDiff,Int.reduceEq,Int.reduceLT,Int.reduceLE,Int.reduceNe,Int.reduceAdd,beq_self_eq_true,Option.bind_eq_bind,Option.pure_def,bind_pure_comp,Option.map_eq_map,decide_eq_true_eq,ne_eq,not_false_eq_true,not_true_eq_false,Nat.lt_irrefl,Nat.reduceBEq,if_true,if_false,ite_true,ite_false,reduceCtorEq,Bool.false_eq_true,lenB_nil,lenB_slice,lenB_oslice,lenB_str,lenB_agg,indexAddrA_slice,indexAddrA_oslice,indexAddrA_ptr,indexAddrA_optr,loadA_ptr,lenK,indexK,loadK,Option.toList_some,Option.toList_none,Int.reduceBEq,Int.reduceBNe,Int.reduceMod,Int.reduceDiv,Int.reduceTDiv,Int.reduceTMod,Int.reduceFDiv,Int.reduceSub,Int.reduceNeg,Int.reduceGT,Int.reduceGE,BitVec.reduceOfInt,BitVec.reduceAnd,BitVec.reduceOr,BitVec.reduceXOr,BitVec.reduceToNat,Int.cast_ofNat_Int,Int.reduceToNat,Int.reducePow,Nat.min_eq_left,Int.reduceMul,List.mapM_cons,List.mapM_nil,hT.all,body71,loopB,Tryd.f71,ln,g1,ix0,ld0,g4,w1,hi0,hi1,Int.toNat_natCast,hX,hA,hz,hz2,hsh,v0,ix1,ld1,v1a,v1b,sl]
  exact hJ tv (t.drop 2) _ _ rfl (by simp; omega) hk.symm htv

theorem round_c (M : Addr → Option AV) (hM : ∀ a v, tabM a = some v → M a = some v) {C : CallX} {L : LoopX} {T : Tab} (hT : Ty T) (hS : Wk Tryd.prog T M C L) (s t : List UInt8) (w : AV) (hw : OBy M w t) (g : Nat → AV) (h : Heap) (K : Out → List AV → Heap → Prop) (J : List AV → Heap → Prop) (hv : validU t = validU s) (hlt : 0 < t.length) (hts : t.length < 1000000000000000000) (c : Nat) (hc : c = t[0].toNat) (hcc : c = 224)
    (hJ : ∀ (w' : AV) (t' : List UInt8) (j : List AV) (h' : Heap), j.length = 185 → t'.length < t.length → validU t' = validU s → OBy M w' t' → J (w' :: .tup [] :: .bool false :: j) h')
    (hK : ∀ (e : List AV) (h : Heap), e.getD 2 (.tup []) = .bool (validU s) → K .ret e h) :
    xC C L T M body71 (w :: .tup [] :: .bool false :: [g 0, g 1, g 2, g 3, g 4, g 5, g 6, g 7, g 8, g 9, g 10, g 11, g 12, g 13, g 14, g 15, g 16, g 17, g 18, g 19, g 20, g 21, g 22, g 23, g 24, g 25, g 26, g 27, g 28, g 29, g 30, g 31, g 32, g 33, g 34, g 35, g 36, g 37, g 38, g 39, g 40, g 41, g 42, g 43, g 44, g 45, g 46, g 47, g 48, g 49, g 50, g 51, g 52, g 53, g 54, g 55, g 56, g 57, g 58, g 59, g 60, g 61, g 62, g 63, g 64, g 65, g 66, g 67, g 68, g 69, g 70, g 71, g 72, g 73, g 74, g 75, g 76, g 77, g 78, g 79, g 80, g 81, g 82, g 83, g 84, g 85, g 86, g 87, g 88, g 89, g 90, g 91, g 92, g 93, g 94, g 95, g 96, g 97, g 98, g 99, g 100, g 101, g 102, g 103, g 104, g 105, g 106, g 107, g 108, g 109, g 110, g 111, g 112, g 113, g 114, g 115, g 116, g 117, g 118, g 119, g 120, g 121, g 122, g 123, g 124, g 125, g 126, g 127, g 128, g 129, g 130, g 131, g 132, g 133, g 134, g 135, g 136, g 137, g 138, g 139, g 140, g 141, g 142, g 143, g 144, g 145, g 146, g 147, g 148, g 149, g 150, g 151, g 152, g 153, g 154, g 155, g 156, g 157, g 158, g 159, g 160, g 161, g 162, g 163, g 164, g 165, g 166, g 167, g 168, g 169, g 170, g 171, g 172, g 173, g 174, g 175, g 176, g 177, g 178, g 179, g 180, g 181, g 182, g 183, g 184]) h (fun o e' h' => match o with | .normal => J e' h' | .exit i => K (.exit i) e' h' | .ret => K .ret e' h') .mk := by
  have ln := hw.len hT
  have g1 : (t.length : Int) > 0 := by omega
  have g3 : t[0]? = some t[0] := List.getElem?_eq_getElem hlt
  have ix0 : ∀ H, indexAddrA T H 24 w (.int .i64 0) = some (placeA w 0 1) := hw.idx hT g3
  have ld0 := hw.ld hT g3
  have hd : t = t[0] :: t.drop 1 := (List.drop_eq_getElem_cons hlt)
  have hne : t ≠ [] := by intro h0; rw [h0] at hlt; simp at hlt
  have hc256 : c < 256 := by have := t[0].toNat_lt; omega
  have g4 : (t[0].toNat : Int) = (c : Int) := by rw [hc]
  have key : ∀ n lo hi : Nat, ((c < 128 ∧ n = 0) ∨ (128 ≤ c ∧ classU c = (n + 1, lo, hi) ∧ 1 ≤ n ∧ n ≤ 3)) → validU s = if allOk t n lo hi then validU (t.drop (n + 1)) else false := fun n lo hi h => by
    rw [← hv, validU_cons hne, seqLen_class hd (by rw [← hc]; exact h)]
    cases allOk t n lo hi with
    | true => simp
    | false => simp
  have w1 : ¬ ((c : Int) < 128) := by omega
  have hi0 : (0 : Int) ≤ c := by omega
  have hi1 : (c : Int) < 256 := by omega
  have hX := fun H => first_load hT hM H c 19 (first_c c hc256 hcc)
  have hA := fun H => accept_load hT hM H 2 160 191 rfl rfl
  have hz : IntKind.u8.wrap 3 = 3 := by decide
  have hz2 : IntKind.i64.wrap 3 = 3 := by decide
  have hsh : (19 : Int).fdiv 16 = 1 := by decide
  have hk := key 2 160 191 (.inr ⟨by omega, class_c c hcc, by omega, by omega⟩)
  by_cases hl : t.length < 3
  · have v0 : (t.length : Int) < 3 := by omega
    have hvf : validU s = false := by
      rw [hk, if_neg]
      intro ha
      have := allOk_get ha (k := 1) (by omega)
      unfold okB at this
      rw [List.getElem?_eq_none (by omega)] at this
      cases this
    simp only [gX,gM,gL,gB,List.map_cons,List.map_nil,wantedA,evOp,opv,absC,absC0,isAggT,resA,resultA,binA,eqA,eqGuardA,isConstA,isFlatScalar,shiftOp,strOp,ordB,readN,sliceCells,lenA,storeA,newA,buildA,fillA,buildSliceA,boundsA,bndA,sliceA,ptrOK,fieldAddrA,fieldA,indexA,extractA,convA,isIntT,biA,bytesOf,setAll,List.replicate,List.cons.injEq,exists_eq_left',exists_eq_left,exists_eq_right',eq_self,Option.map_some,Option.map_none,Option.bind_some,Option.bind_none,Option.some.injEq,Prod.mk.injEq,Nat.reduceAdd,Nat.reduceSub,Nat.reduceMul,Nat.reduceLT,Nat.reduceLeDiff,Nat.reduceEqDiff,Int.reduceEq,Int.reduceLT,Int.reduceLE,Int.reduceNe,Int.reduceAdd,beq_self_eq_true,Option.bind_eq_bind,Option.pure_def,bind_pure_comp,Option.map_eq_map,decide_eq_true_eq,ne_eq,not_false_eq_true,not_true_eq_false,Nat.lt_irrefl,Nat.reduceBEq,if_true,if_false,ite_true,ite_false,reduceCtorEq,Bool.false_eq_true,lenB_nil,lenB_slice,lenB_oslice,lenB_str,lenB_agg,indexAddrA_slice,indexAddrA_oslice,indexAddrA_ptr,indexAddrA_optr,loadA_ptr,lenK,indexK,loadK,Option.toList_some,Option.toList_none,Int.reduceBEq,Int.reduceBNe,Int.reduceMod,Int.reduceDiv,Int.reduceTDiv,Int.reduceTMod,Int.reduceFDiv,Int.reduceSub,Int.reduceNeg,Int.reduceGT,Int.reduceGE,BitVec.reduceOfInt,BitVec.reduceAnd,BitVec.reduceOr,BitVec.reduceXOr,BitVec.reduceToNat,Int.cast_ofNat_Int,Int.reduceToNat,Int.reducePow,Nat.min_eq_left,Int.reduceMul,List.mapM_cons,List.mapM_nil,hT.all,body71,loopB,Tryd.f71,ln,g1,ix0,ld0,g4,w1,hi0,hi1,Int.toNat_natCast,hX,hA,hz,hz2,hsh,v0]
    exact hK _ _ (by rw [hvf]; rfl)
  have v0 : ¬ ((t.length : Int) < 3) := by omega
  obtain ⟨d1, k1⟩ := drop_get (s := t) (n := 1) (by omega)
  have ix1 : ∀ H, indexAddrA T H 24 w (.int .i64 1) = some (placeA w 1 1) := hw.idx hT k1
  have ld1 := hw.ld hT k1
  obtain ⟨d2, k2⟩ := drop_get (s := t) (n := 2) (by omega)
  have ix2 : ∀ H, indexAddrA T H 24 w (.int .i64 2) = some (placeA w 2 1) := hw.idx hT k2
  have ld2 := hw.ld hT k2
  by_cases hv1a : 160 ≤ d1.toNat
  rotate_left
  · have v1a : (d1.toNat : Int) < 160 := by omega
    have hvf : validU s = false := by
      rw [hk, if_neg]
      intro ha
      have := allOk_get ha (k := 0) (by omega)
      rw [okB_get k1] at this
      simp at this
      omega
    simp only [gX,gM,gL,gB,List.map_cons,List.map_nil,wantedA,evOp,opv,absC,absC0,isAggT,resA,resultA,binA,eqA,eqGuardA,isConstA,isFlatScalar,shiftOp,strOp,ordB,readN,sliceCells,lenA,storeA,newA,buildA,fillA,buildSliceA,boundsA,bndA,sliceA,ptrOK,fieldAddrA,fieldA,indexA,extractA,convA,isIntT,biA,bytesOf,setAll,List.replicate,List.cons.injEq,exists_eq_left',exists_eq_left,exists_eq_right',eq_self,Option.map_some,Option.map_none,Option.bind_some,Option.bind_none,Option.some.injEq,Prod.mk.injEq,Nat.reduceAdd,Nat.reduceSub,Nat.reduceMul,Nat.reduceLT,Nat.reduceLeDiff,Nat.reduceEqDiff,Int.reduceEq,Int.reduceLT,Int.reduceLE,Int.reduceNe,Int.reduceAdd,beq_self_eq_true,Option.bind_eq_bind,Option.pure_def,bind_pure_comp,Option.map_eq_map,decide_eq_true_eq,ne_eq,not_false_eq_true,not_true_eq_false,Nat.lt_irrefl,Nat.reduceBEq,if_true,if_false,ite_true,ite_false,reduceCtorEq,Bool.false_eq_true,lenB_nil,lenB_slice,lenB_oslice,lenB_str,lenB_agg,indexAddrA_slice,indexAddrA_oslice,indexAddrA_ptr,indexAddrA_optr,loadA_ptr,lenK,indexK,loadK,Option.toList_some,Option.toList_none,Int.reduceBEq,Int.reduceBNe,Int.reduceMod,Int.reduceDiv,Int.reduceTDiv,Int.reduceTMod,Int.reduceFDiv,Int.reduceSub,Int.reduceNeg,Int.reduceGT,Int.reduceGE,BitVec.reduceOfInt,BitVec.reduceAnd,BitVec.reduceOr,BitVec.reduceXOr,BitVec.reduceToNat,Int.cast_ofNat_Int,Int.reduceToNat,Int.reducePow,Nat.min_eq_left,Int.reduceMul,List.mapM_cons,List.mapM_nil,hT.all,body71,loopB,Tryd.f71,ln,g1,ix0,ld0,g4,w1,hi0,hi1,Int.toNat_natCast,hX,hA,hz,hz2,hsh,v0,ix1,ld1,ix2,ld2,v1a]
    exact hK _ _ (by rw [hvf]; rfl)
  have v1a : ¬ ((d1.toNat : Int) < 160) := by omega
  by_cases hv1b : d1.toNat ≤ 191
  rotate_left
  · have v1b : (191 : Int) < d1.toNat := by omega
    have hvf : validU s = false := by
      rw [hk, if_neg]
      intro ha
      have := allOk_get ha (k := 0) (by omega)
      rw [okB_get k1] at this
      simp at this
      omega
    simp only [gX,gM,gL,gB,List.map_cons,List.map_nil,wantedA,evOp,opv,absC,absC0,isAggT,resA,resultA,binA,eqA,eqGuardA,isConstA,isFlatScalar,shiftOp,strOp,ordB,readN,sliceCells,lenA,storeA,newA,buildA,fillA,buildSliceA,boundsA,bndA,sliceA,ptrOK,fieldAddrA,fieldA,indexA,extractA,convA,isIntT,biA,bytesOf,setAll,List.replicate,List.cons.injEq,exists_eq_left',exists_eq_left,exists_eq_right',eq_self,Option.map_some,Option.map_none,Option.bind_some,Option.bind_none,Option.some.injEq,Prod.mk.injEq,Nat.reduceAdd,Nat.reduceSub,Nat.reduceMul,Nat.reduceLT,Nat.reduceLeDiff,Nat.reduceEqDiff,Int.reduceEq,Int.reduceLT,Int.reduceLE,Int.reduceNe,Int.reduceAdd,beq_self_eq_true,Option.bind_eq_bind,Option.pure_def,bind_pure_comp,Option.map_eq_map,decide_eq_true_eq,ne_eq,not_false_eq_true,not_true_eq_false,Nat.lt_irrefl,Nat.reduceBEq,if_true,if_false,ite_true,ite_false,reduceCtorEq,Bool.false_eq_true,lenB_nil,lenB_slice,lenB_oslice,lenB_str,lenB_agg,indexAddrA_slice,indexAddrA_oslice,indexAddrA_ptr,indexAddrA_optr,loadA_ptr,lenK,indexK,loadK,Option.toList_some,Option.toList_none,Int.reduceBEq,Int.reduceBNe,Int.reduceMod,Int.reduceDiv,Int.reduceTDiv,Int.reduceTMod,Int.reduceFDiv,Int.reduceSub,Int.reduceNeg,Int.reduceGT,Int.reduceGE,BitVec.reduceOfInt,BitVec.reduceAnd,BitVec.reduceOr,BitVec.reduceXOr,BitVec.reduceToNat,Int.cast_ofNat_Int,Int.reduceToNat,Int.reducePow,Nat.min_eq_left,Int.reduceMul,List.mapM_cons,List.mapM_nil,hT.all,body71,loopB,Tryd.f71,ln,g1,ix0,ld0,g4,w1,hi0,hi1,Int.toNat_natCast,hX,hA,hz,hz2,hsh,v0,ix1,ld1,ix2,ld2,v1a,v1b]
    exact hK _ _ (by rw [hvf]; rfl)
  have v1b : ¬ ((191 : Int) < d1.toNat) := by omega
  by_cases hv2a : 128 ≤ d2.toNat
  rotate_left
  · have v2a : (d2.toNat : Int) < 128 := by omega
    have hvf : validU s = false := by
      rw [hk, if_neg]
      intro ha
      have := allOk_get ha (k := 1) (by omega)
      rw [okB_get k2] at this
      simp at this
      omega
    simp only [gX,gM,gL,gB,List.map_cons,List.map_nil,wantedA,evOp,opv,absC,absC0,isAggT,resA,resultA,binA,eqA,eqGuardA,isConstA,isFlatScalar,shiftOp,strOp,ordB,readN,sliceCells,lenA,storeA,newA,buildA,fillA,buildSliceA,boundsA,bndA,sliceA,ptrOK,fieldAddrA,fieldA,indexA,extractA,convA,isIntT,biA,bytesOf,setAll,List.replicate,List.cons.injEq,exists_eq_left',exists_eq_left,exists_eq_right',eq_self,Option.map_some,Option.map_none,Option.bind_some,Option.bind_none,Option.some.injEq,Prod.mk.injEq,Nat.reduceAdd,Nat.reduceSub,Nat.reduceMul,Nat.reduceLT,Nat.reduceLeDiff,Nat.reduceEqDiff,Int.reduceEq,Int.reduceLT,Int.reduceLE,Int.reduceNe,Int.reduceAdd,beq_self_eq_true,Option.bind_eq_bind,Option.pure_def,bind_pure_comp,Option.map_eq_map,decide_eq_true_eq,ne_eq,not_false_eq_true,not_true_eq_false,Nat.lt_irrefl,Nat.reduceBEq,if_true,if_false,ite_true,ite_false,reduceCtorEq,Bool.false_eq_true,lenB_nil,lenB_slice,lenB_oslice,lenB_str,lenB_agg,indexAddrA_slice,indexAddrA_oslice,indexAddrA_ptr,indexAddrA_optr,loadA_ptr,lenK,indexK,loadK,Option.toList_some,Option.toList_none,Int.reduceBEq,Int.reduceBNe,Int.reduceMod,Int.reduceDiv,Int.reduceTDiv,Int.reduceTMod,Int.reduceFDiv,Int.reduceSub,Int.reduceNeg,Int.reduceGT,Int.reduceGE,BitVec.reduceOfInt,BitVec.reduceAnd,BitVec.reduceOr,BitVec.reduceXOr,BitVec.reduceToNat,Int.cast_ofNat_Int,Int.reduceToNat,Int.reducePow,Nat.min_eq_left,Int.reduceMul,List.mapM_cons,List.mapM_nil,hT.all,body71,loopB,Tryd.f71,ln,g1,ix0,ld0,g4,w1,hi0,hi1,Int.toNat_natCast,hX,hA,hz,hz2,hsh,v0,ix1,ld1,ix2,ld2,v1a,v1b,v2a]
    exact hK _ _ (by rw [hvf]; rfl)
  have v2a : ¬ ((d2.toNat : Int) < 128) := by omega
  by_cases hv2b : d2.toNat ≤ 191
  rotate_left
  · have v2b : (191 : Int) < d2.toNat := by omega
    have hvf : validU s = false := by
      rw [hk, if_neg]
      intro ha
      have := allOk_get ha (k := 1) (by omega)
      rw [okB_get k2] at this
      simp at this
      omega
    simp only [gX,gM,gL,gB,List.map_cons,List.map_nil,wantedA,evOp,opv,absC,absC0,isAggT,resA,resultA,binA,eqA,eqGuardA,isConstA,isFlatScalar,shiftOp,strOp,ordB,readN,sliceCells,lenA,storeA,newA,buildA,fillA,buildSliceA,boundsA,bndA,sliceA,ptrOK,fieldAddrA,fieldA,indexA,extractA,convA,isIntT,biA,bytesOf,setAll,List.replicate,List.cons.injEq,exists_eq_left',exists_eq_left,exists_eq_right',eq_self,Option.map_some,Option.map_none,Option.bind_some,Option.bind_none,Option.some.injEq,Prod.mk.injEq,Nat.reduceAdd,Nat.reduceSub,Nat.reduceMul,Nat.reduceLT,Nat.reduceLeDiff,Nat.reduceEqDiff,Int.reduceEq,Int.reduceLT,Int.reduceLE,Int.reduceNe,Int.reduceAdd,beq_self_eq_true,Option.bind_eq_bind,Option.pure_def,bind_pure_comp,Option.map_eq_map,decide_eq_true_eq,ne_eq,not_false_eq_true,not_true_eq_false,Nat.lt_irrefl,Nat.reduceBEq,if_true,if_false,ite_true,ite_false,reduceCtorEq,Bool.false_eq_true,lenB_nil,lenB_slice,lenB_oslice,lenB_str,lenB_agg,indexAddrA_slice,indexAddrA_oslice,indexAddrA_ptr,indexAddrA_optr,loadA_ptr,lenK,indexK,loadK,Option.toList_some,Option.toList_none,Int.reduceBEq,Int.reduceBNe,Int.reduceMod,Int.reduceDiv,Int.reduceTDiv,Int.reduceTMod,Int.reduceFDiv,Int.reduceSub,Int.reduceNeg,Int.reduceGT,Int.reduceGE,BitVec.reduceOfInt,BitVec.reduceAnd,BitVec.reduceOr,BitVec.reduceXOr,BitVec.reduceToNat,Int.cast_ofNat_Int,Int.reduceToNat,Int.reducePow,Nat.min_eq_left,Int.reduceMul,List.mapM_cons,List.mapM_nil,hT.all,body71,loopB,Tryd.f71,ln,g1,ix0,ld0,g4,w1,hi0,hi1,Int.toNat_natCast,hX,hA,hz,hz2,hsh,v0,ix1,ld1,ix2,ld2,v1a,v1b,v2a,v2b]
    exact hK _ _ (by rw [hvf]; rfl)
  have v2b : ¬ ((191 : Int) < d2.toNat) := by omega
  obtain ⟨tv, sl', htv⟩ := hw.tail hT (k := 3) (by omega)
  have sl : ∀ H, sliceA T H 24 w (some (.int .i64 3)) none none = some tv := sl'
  have ha : allOk t 2 160 191 = true := allOk_mk fun k' hk' => by
    have : k' = 0 ∨ k' = 1 := by omega
    rcases this with rfl | rfl
    · rw [okB_get k1]; simp; omega
    · rw [okB_get k2]; simp; omega
  rw [ha, if_pos rfl] at hk
  simp only [gX,gM,gL,gB,List.map_cons,List.map_nil,wantedA,evOp,opv,absC,absC0,isAggT,resA,resultA,binA,eqA,eqGuardA,isConstA,isFlatScalar,shiftOp,strOp,ordB,readN,sliceCells,lenA,storeA,newA,buildA,fillA,buildSliceA,boundsA,bndA,ptrOK,fieldAddrA,fieldA,indexA,extractA,convA,isIntT,biA,bytesOf,setAll,List.replicate,List.cons.injEq,exists_eq_left',exists_eq_left,exists_eq_right',eq_self,Option.map_some,Option.map_none,Option.bind_some,Option.bind_none,Option.some.injEq,Prod.mk.injEq,Nat.reduceAdd,Nat.reduceSub,Nat.reduceMul,Nat.reduceLT,Nat.reduceLeDiff,Nat.reduceEqDiff,Int.reduceEq,Int.reduceLT,Int.reduceLE,Int.reduceNe,Int.reduceAdd,beq_self_eq_true,Option.bind_eq_bind,Option.pure_def,bind_pure_comp,Option.map_eq_map,decide_eq_true_eq,ne_eq,not_false_eq_true,not_true_eq_false,Nat.lt_irrefl,Nat.reduceBEq,if_true,if_false,ite_true,ite_false,reduceCtorEq,Bool.false_eq_true,lenB_nil,lenB_slice,lenB_oslice,lenB_str,lenB_agg,indexAddrA_slice,indexAddrA_oslice,indexAddrA_ptr,indexAddrA_optr,loadA_ptr,lenK,indexK,loadK,Option.toList_some,Option.toList_none,Int.reduceBEq,Int.reduceBNe,Int.reduceMod,Int.reduceDiv,Int.reduceTDiv,Int.reduceTMod,Int.reduceFDiv,Int.reduceSub,Int.reduceNeg,Int.reduceGT,Int.reduceGE,BitVec.reduceOfInt,BitVec.reduceAnd,BitVec.reduceOr,BitVec.reduceXOr,BitVec.reduceToNat,Int.cast_ofNat_Int,Int.reduceToNat,Int.reducePow,Nat.min_eq_left,Int.reduceMul,List.mapM_cons,List.mapM_nil,hT.all,body71,loopB,Tryd.f71,ln,g1,ix0,ld0,g4,w1,hi0,hi1,Int.toNat_natCast,hX,hA,hz,hz2,hsh,v0,ix1,ld1,ix2,ld2,v1a,v1b,v2a,v2b,sl]
  exact hJ tv (t.drop 3) _ _ rfl (by simp; omega) hk.symm htv

theorem round_d (M : Addr → Option AV) (hM : ∀ a v, tabM a = some v → M a = some v) {C : CallX} {L : LoopX} {T : Tab} (hT : Ty T) (hS : Wk Tryd.prog T M C L) (s t : List UInt8) (w : AV) (hw : OBy M w t) (g : Nat → AV) (h : Heap) (K : Out → List AV → Heap → Prop) (J : List AV → Heap → Prop) (hv : validU t = validU s) (hlt : 0 < t.length) (hts : t.length < 1000000000000000000) (c : Nat) (hc : c = t[0].toNat) (hcc : 225 ≤ c ∧ c ≤ 239 ∧ c ≠ 237)
    (hJ : ∀ (w' : AV) (t' : List UInt8) (j : List AV) (h' : Heap), j.length = 185 → t'.length < t.length → validU t' = validU s → OBy M w' t' → J (w' :: .tup [] :: .bool false :: j) h')
    (hK : ∀ (e : List AV) (h : Heap), e.getD 2 (.tup []) = .bool (validU s) → K .ret e h) :
    xC C L T M body71 (w :: .tup [] :: .bool false :: [g 0, g 1, g 2, g 3, g 4, g 5, g 6, g 7, g 8, g 9, g 10, g 11, g 12, g 13, g 14, g 15, g 16, g 17, g 18, g 19, g 20, g 21, g 22, g 23, g 24, g 25, g 26, g 27, g 28, g 29, g 30, g 31, g 32, g 33, g 34, g 35, g 36, g 37, g 38, g 39, g 40, g 41, g 42, g 43, g 44, g 45, g 46, g 47, g 48, g 49, g 50, g 51, g 52, g 53, g 54, g 55, g 56, g 57, g 58, g 59, g 60, g 61, g 62, g 63, g 64, g 65, g 66, g 67, g 68, g 69, g 70, g 71, g 72, g 73, g 74, g 75, g 76, g 77, g 78, g 79, g 80, g 81, g 82, g 83, g 84, g 85, g 86, g 87, g 88, g 89, g 90, g 91, g 92, g 93, g 94, g 95, g 96, g 97, g 98, g 99, g 100, g 101, g 102, g 103, g 104, g 105, g 106, g 107, g 108, g 109, g 110, g 111, g 112, g 113, g 114, g 115, g 116, g 117, g 118, g 119, g 120, g 121, g 122, g 123, g 124, g 125, g 126, g 127, g 128, g 129, g 130, g 131, g 132, g 133, g 134, g 135, g 136, g 137, g 138, g 139, g 140, g 141, g 142, g 143, g 144, g 145, g 146, g 147, g 148, g 149, g 150, g 151, g 152, g 153, g 154, g 155, g 156, g 157, g 158, g 159, g 160, g 161, g 162, g 163, g 164, g 165, g 166, g 167, g 168, g 169, g 170, g 171, g 172, g 173, g 174, g 175, g 176, g 177, g 178, g 179, g 180, g 181, g 182, g 183, g 184]) h (fun o e' h' => match o with | .normal => J e' h' | .exit i => K (.exit i) e' h' | .ret => K .ret e' h') .mk := by
  have ln := hw.len hT
  have g1 : (t.length : Int) > 0 := by omega
  have g3 : t[0]? = some t[0] := List.getElem?_eq_getElem hlt
  have ix0 : ∀ H, indexAddrA T H 24 w (.int .i64 0) = some (placeA w 0 1) := hw.idx hT g3
  have ld0 := hw.ld hT g3
  have hd : t = t[0] :: t.drop 1 := (List.drop_eq_getElem_cons hlt)
  have hne : t ≠ [] := by intro h0; rw [h0] at hlt; simp at hlt
  have hc256 : c < 256 := by have := t[0].toNat_lt; omega
  have g4 : (t[0].toNat : Int) = (c : Int) := by rw [hc]
  have key : ∀ n lo hi : Nat, ((c < 128 ∧ n = 0) ∨ (128 ≤ c ∧ classU c = (n + 1, lo, hi) ∧ 1 ≤ n ∧ n ≤ 3)) → validU s = if allOk t n lo hi then validU (t.drop (n + 1)) else false := fun n lo hi h => by
    rw [← hv, validU_cons hne, seqLen_class hd (by rw [← hc]; exact h)]
    cases allOk t n lo hi with
    | true => simp
    | false => simp
  have w1 : ¬ ((c : Int) < 128) := by omega
  have hi0 : (0 : Int) ≤ c := by omega
  have hi1 : (c : Int) < 256 := by omega
  have hX := fun H => first_load hT hM H c 3 (first_d c hc256 hcc)
  have hA := fun H => accept_load hT hM H 0 128 191 rfl rfl
  have hz : IntKind.u8.wrap 3 = 3 := by decide
  have hz2 : IntKind.i64.wrap 3 = 3 := by decide
  have hsh : (3 : Int).fdiv 16 = 0 := by decide
  have hk := key 2 128 191 (.inr ⟨by omega, class_d c hcc, by omega, by omega⟩)
  by_cases hl : t.length < 3
  · have v0 : (t.length : Int) < 3 := by omega
    have hvf : validU s = false := by
      rw [hk, if_neg]
      intro ha
      have := allOk_get ha (k := 1) (by omega)
      unfold okB at this
      rw [List.getElem?_eq_none (by omega)] at this
      cases this
    simp only [gX,gM,gL,gB,List.map_cons,List.map_nil,wantedA,evOp,opv,absC,absC0,isAggT,resA,resultA,binA,eqA,eqGuardA,isConstA,isFlatScalar,shiftOp,strOp,ordB,readN,sliceCells,lenA,storeA,newA,buildA,fillA,buildSliceA,boundsA,bndA,sliceA,ptrOK,fieldAddrA,fieldA,indexA,extractA,convA,isIntT,biA,bytesOf,setAll,List.replicate,List.cons.injEq,exists_eq_left',exists_eq_left,exists_eq_right',eq_self,Option.map_some,Option.map_none,Option.bind_some,Option.bind_none,Option.some.injEq,Prod.mk.injEq,Nat.reduceAdd,Nat.reduceSub,Nat.reduceMul,Nat.reduceLT,Nat.reduceLeDiff,Nat.reduceEqDiff,Int.reduceEq,Int.reduceLT,Int.reduceLE,Int.reduceNe,Int.reduceAdd,beq_self_eq_true,Option.bind_eq_bind,Option.pure_def,bind_pure_comp,Option.map_eq_map,decide_eq_true_eq,ne_eq,not_false_eq_true,not_true_eq_false,Nat.lt_irrefl,Nat.reduceBEq,if_true,if_false,ite_true,ite_false,reduceCtorEq,Bool.false_eq_true,lenB_nil,lenB_slice,lenB_oslice,lenB_str,lenB_agg,indexAddrA_slice,indexAddrA_oslice,indexAddrA_ptr,indexAddrA_optr,loadA_ptr,lenK,indexK,loadK,Option.toList_some,Option.toList_none,Int.reduceBEq,Int.reduceBNe,Int.reduceMod,Int.reduceDiv,Int.reduceTDiv,Int.reduceTMod,Int.reduceFDiv,Int.reduceSub,Int.reduceNeg,Int.reduceGT,Int.reduceGE,BitVec.reduceOfInt,BitVec.reduceAnd,BitVec.reduceOr,BitVec.reduceXOr,BitVec.reduceToNat,Int.cast_ofNat_Int,Int.reduceToNat,Int.reducePow,Nat.min_eq_left,Int.reduceMul,List.mapM_cons,List.mapM_nil,hT.all,body71,loopB,Tryd.f71,ln,g1,ix0,ld0,g4,w1,hi0,hi1,Int.toNat_natCast,hX,hA,hz,hz2,hsh,v0]
    exact hK _ _ (by rw [hvf]; rfl)
  have v0 : ¬ ((t.length : Int) < 3) := by omega
  obtain ⟨d1, k1⟩ := drop_get (s := t) (n := 1) (by omega)
  have ix1 : ∀ H, indexAddrA T H 24 w (.int .i64 1) = some (placeA w 1 1) := hw.idx hT k1
  have ld1 := hw.ld hT k1
  obtain ⟨d2, k2⟩ := drop_get (s := t) (n := 2) (by omega)
  have ix2 : ∀ H, indexAddrA T H 24 w (.int .i64 2) = some (placeA w 2 1) := hw.idx hT k2
  have ld2 := hw.ld hT k2
  by_cases hv1a : 128 ≤ d1.toNat
  rotate_left
  · have v1a : (d1.toNat : Int) < 128 := by omega
    have hvf : validU s = false := by
      rw [hk, if_neg]
      intro ha
      have := allOk_get ha (k := 0) (by omega)
      rw [okB_get k1] at this
      simp at this
      omega
    simp only [gX,gM,gL,gB,List.map_cons,List.map_nil,wantedA,evOp,opv,absC,absC0,isAggT,resA,resultA,binA,eqA,eqGuardA,isConstA,isFlatScalar,shiftOp,strOp,ordB,readN,sliceCells,lenA,storeA,newA,buildA,fillA,buildSliceA,boundsA,bndA,sliceA,ptrOK,fieldAddrA,fieldA,indexA,extractA,convA,isIntT,biA,bytesOf,setAll,List.replicate,List.cons.injEq,exists_eq_left',exists_eq_left,exists_eq_right',eq_self,Option.map_some,Option.map_none,Option.bind_some,Option.bind_none,Option.some.injEq,Prod.mk.injEq,Nat.reduceAdd,Nat.reduceSub,Nat.reduceMul,Nat.reduceLT,Nat.reduceLeDiff,Nat.reduceEqDiff,Int.reduceEq,Int.reduceLT,Int.reduceLE,Int.reduceNe,Int.reduceAdd,beq_self_eq_true,Option.bind_eq_bind,Option.pure_def,bind_pure_comp,Option.map_eq_map,decide_eq_true_eq,ne_eq,not_false_eq_true,not_true_eq_false,Nat.lt_irrefl,Nat.reduceBEq,if_true,if_false,ite_true,ite_false,reduceCtorEq,Bool.false_eq_true,lenB_nil,lenB_slice,lenB_oslice,lenB_str,lenB_agg,indexAddrA_slice,indexAddrA_oslice,indexAddrA_ptr,indexAddrA_optr,loadA_ptr,lenK,indexK,loadK,Option.toList_some,Option.toList_none,Int.reduceBEq,Int.reduceBNe,Int.reduceMod,Int.reduceDiv,Int.reduceTDiv,Int.reduceTMod,Int.reduceFDiv,Int.reduceSub,Int.reduceNeg,Int.reduceGT,Int.reduceGE,BitVec.reduceOfInt,BitVec.reduceAnd,BitVec.reduceOr,BitVec.reduceXOr,BitVec.reduceToNat,Int.cast_ofNat_Int,Int.reduceToNat,Int.reducePow,Nat.min_eq_left,Int.reduceMul,List.mapM_cons,List.mapM_nil,hT.all,body71,loopB,Tryd.f71,ln,g1,ix0,ld0,g4,w1,hi0,hi1,Int.toNat_natCast,hX,hA,hz,hz2,hsh,v0,ix1,ld1,ix2,ld2,v1a]
    exact hK _ _ (by rw [hvf]; rfl)
  have v1a : ¬ ((d1.toNat : Int) < 128) := by omega
  by_cases hv1b : d1.toNat ≤ 191
  rotate_left
  · have v1b : (191 : Int) < d1.toNat := by omega
    have hvf : validU s = false := by
      rw [hk, if_neg]
      intro ha
      have := allOk_get ha (k := 0) (by omega)
      rw [okB_get k1] at this
      simp at this
      omega
    simp only [gX,gM,gL,gB,List.map_cons,List.map_nil,wantedA,evOp,opv,absC,absC0,isAggT,resA,resultA,binA,eqA,eqGuardA,isConstA,isFlatScalar,shiftOp,strOp,ordB,readN,sliceCells,lenA,storeA,newA,buildA,fillA,buildSliceA,boundsA,bndA,sliceA,ptrOK,fieldAddrA,fieldA,indexA,extractA,convA,isIntT,biA,bytesOf,setAll,List.replicate,List.cons.injEq,exists_eq_left',exists_eq_left,exists_eq_right',eq_self,Option.map_some,Option.map_none,Option.bind_some,Option.bind_none,Option.some.injEq,Prod.mk.injEq,Nat.reduceAdd,Nat.reduceSub,Nat.reduceMul,Nat.reduceLT,Nat.reduceLeDiff,Nat.reduceEqDiff,Int.reduceEq,Int.reduceLT,Int.reduceLE,Int.reduceNe,Int.reduceAdd,beq_self_eq_true,Option.bind_eq_bind,Option.pure_def,bind_pure_comp,Option.map_eq_map,decide_eq_true_eq,ne_eq,not_false_eq_true,not_true_eq_false,Nat.lt_irrefl,Nat.reduceBEq,if_true,if_false,ite_true,ite_false,reduceCtorEq,Bool.false_eq_true,lenB_nil,lenB_slice,lenB_oslice,lenB_str,lenB_agg,indexAddrA_slice,indexAddrA_oslice,indexAddrA_ptr,indexAddrA_optr,loadA_ptr,lenK,indexK,loadK,Option.toList_some,Option.toList_none,Int.reduceBEq,Int.reduceBNe,Int.reduceMod,Int.reduceDiv,Int.reduceTDiv,Int.reduceTMod,Int.reduceFDiv,Int.reduceSub,Int.reduceNeg,Int.reduceGT,Int.reduceGE,BitVec.reduceOfInt,BitVec.reduceAnd,BitVec.reduceOr,BitVec.reduceXOr,BitVec.reduceToNat,Int.cast_ofNat_Int,Int.reduceToNat,Int.reducePow,Nat.min_eq_left,Int.reduceMul,List.mapM_cons,List.mapM_nil,hT.all,body71,loopB,Tryd.f71,ln,g1,ix0,ld0,g4,w1,hi0,hi1,Int.toNat_natCast,hX,hA,hz,hz2,hsh,v0,ix1,ld1,ix2,ld2,v1a,v1b]
    exact hK _ _ (by rw [hvf]; rfl)
  have v1b : ¬ ((191 : Int) < d1.toNat) := by omega
  by_cases hv2a : 128 ≤ d2.toNat
  rotate_left
  · have v2a : (d2.toNat : Int) < 128 := by omega
    have hvf : validU s = false := by
      rw [hk, if_neg]
      intro ha
      have := allOk_get ha (k := 1) (by omega)
      rw [okB_get k2] at this
      simp at this
      omega
    simp only [gX,gM,gL,gB,List.map_cons,List.map_nil,wantedA,evOp,opv,absC,absC0,isAggT,resA,resultA,binA,eqA,eqGuardA,isConstA,isFlatScalar,shiftOp,strOp,ordB,readN,sliceCells,lenA,storeA,newA,buildA,fillA,buildSliceA,boundsA,bndA,sliceA,ptrOK,fieldAddrA,fieldA,indexA,extractA,convA,isIntT,biA,bytesOf,setAll,List.replicate,List.cons.injEq,exists_eq_left',exists_eq_left,exists_eq_right',eq_self,Option.map_some,Option.map_none,Option.bind_some,Option.bind_none,Option.some.injEq,Prod.mk.injEq,Nat.reduceAdd,Nat.reduceSub,Nat.reduceMul,Nat.reduceLT,Nat.reduceLeDiff,Nat.reduceEqDiff,Int.reduceEq,Int.reduceLT,Int.reduceLE,Int.reduceNe,Int.reduceAdd,beq_self_eq_true,Option.bind_eq_bind,Option.pure_def,bind_pure_comp,Option.map_eq_map,decide_eq_true_eq,ne_eq,not_false_eq_true,not_true_eq_false,Nat.lt_irrefl,Nat.reduceBEq,if_true,if_false,ite_true,ite_false,reduceCtorEq,Bool.false_eq_true,lenB_nil,lenB_slice,lenB_oslice,lenB_str,lenB_agg,indexAddrA_slice,indexAddrA_oslice,indexAddrA_ptr,indexAddrA_optr,loadA_ptr,lenK,indexK,loadK,Option.toList_some,Option.toList_none,Int.reduceBEq,Int.reduceBNe,Int.reduceMod,Int.reduceDiv,Int.reduceTDiv,Int.reduceTMod,Int.reduceFDiv,Int.reduceSub,Int.reduceNeg,Int.reduceGT,Int.reduceGE,BitVec.reduceOfInt,BitVec.reduceAnd,BitVec.reduceOr,BitVec.reduceXOr,BitVec.reduceToNat,Int.cast_ofNat_Int,Int.reduceToNat,Int.reducePow,Nat.min_eq_left,Int.reduceMul,List.mapM_cons,List.mapM_nil,hT.all,body71,loopB,Tryd.f71,ln,g1,ix0,ld0,g4,w1,hi0,hi1,Int.toNat_natCast,hX,hA,hz,hz2,hsh,v0,ix1,ld1,ix2,ld2,v1a,v1b,v2a]
    exact hK _ _ (by rw [hvf]; rfl)
  have v2a : ¬ ((d2.toNat : Int) < 128) := by omega
  by_cases hv2b : d2.toNat ≤ 191
  rotate_left
  · have v2b : (191 : Int) < d2.toNat := by omega
    have hvf : validU s = false := by
      rw [hk, if_neg]
      intro ha
      have := allOk_get ha (k := 1) (by omega)
      rw [okB_get k2] at this
      simp at this
      omega
    simp only [gX,gM,gL,gB,List.map_cons,List.map_nil,wantedA,evOp,opv,absC,absC0,isAggT,resA,resultA,binA,eqA,eqGuardA,isConstA,isFlatScalar,shiftOp,strOp,ordB,readN,sliceCells,lenA,storeA,newA,buildA,fillA,buildSliceA,boundsA,bndA,sliceA,ptrOK,fieldAddrA,fieldA,indexA,extractA,convA,isIntT,biA,bytesOf,setAll,List.replicate,List.cons.injEq,exists_eq_left',exists_eq_left,exists_eq_right',eq_self,Option.map_some,Option.map_none,Option.bind_some,Option.bind_none,Option.some.injEq,Prod.mk.injEq,Nat.reduceAdd,Nat.reduceSub,Nat.reduceMul,Nat.reduceLT,Nat.reduceLeDiff,Nat.reduceEqDiff,Int.reduceEq,Int.reduceLT,Int.reduceLE,Int.reduceNe,Int.reduceAdd,beq_self_eq_true,Option.bind_eq_bind,Option.pure_def,bind_pure_comp,Option.map_eq_map,decide_eq_true_eq,ne_eq,not_false_eq_true,not_true_eq_false,Nat.lt_irrefl,Nat.reduceBEq,if_true,if_false,ite_true,ite_false,reduceCtorEq,Bool.false_eq_true,lenB_nil,lenB_slice,lenB_oslice,lenB_str,lenB_agg,indexAddrA_slice,indexAddrA_oslice,indexAddrA_ptr,indexAddrA_optr,loadA_ptr,lenK,indexK,loadK,Option.toList_some,Option.toList_none,Int.reduceBEq,Int.reduceBNe,Int.reduceMod,Int.reduceDiv,Int.reduceTDiv,Int.reduceTMod,Int.reduceFDiv,Int.reduceSub,Int.reduceNeg,Int.reduceGT,Int.reduceGE,BitVec.reduceOfInt,BitVec.reduceAnd,BitVec.reduceOr,BitVec.reduceXOr,BitVec.reduceToNat,Int.cast_ofNat_Int,Int.reduceToNat,Int.reducePow,Nat.min_eq_left,Int.reduceMul,List.mapM_cons,List.mapM_nil,hT.all,body71,loopB,Tryd.f71,ln,g1,ix0,ld0,g4,w1,hi0,hi1,Int.toNat_natCast,hX,hA,hz,hz2,hsh,v0,ix1,ld1,ix2,ld2,v1a,v1b,v2a,v2b]
    exact hK _ _ (by rw [hvf]; rfl)
  have v2b : ¬ ((191 : Int) < d2.toNat) := by omega
  obtain ⟨tv, sl', htv⟩ := hw.tail hT (k := 3) (by omega)
  have sl : ∀ H, sliceA T H 24 w (some (.int .i64 3)) none none = some tv := sl'
  have ha : allOk t 2 128 191 = true := allOk_mk fun k' hk' => by
    have : k' = 0 ∨ k' = 1 := by omega
    rcases this with rfl | rfl
    · rw [okB_get k1]; simp; omega
    · rw [okB_get k2]; simp; omega
  rw [ha, if_pos rfl] at hk
  simp only [gX,gM,gL,gB,List.map_cons,List.map_nil,wantedA,evOp,opv,absC,absC0,isAggT,resA,resultA,binA,eqA,eqGuardA,isConstA,isFlatScalar,shiftOp,strOp,ordB,readN,sliceCells,lenA,storeA,newA,buildA,fillA,buildSliceA,boundsA,bndA,ptrOK,fieldAddrA,fieldA,indexA,extractA,convA,isIntT,biA,bytesOf,setAll,List.replicate,List.cons.injEq,exists_eq_left',exists_eq_left,exists_eq_right',eq_self,Option.map_some,Option.map_none,Option.bind_some,Option.bind_none,Option.some.injEq,Prod.mk.injEq,Nat.reduceAdd,Nat.reduceSub,Nat.reduceMul,Nat.reduceLT,Nat.reduceLeDiff,Nat.reduceEqDiff,Int.reduceEq,Int.reduceLT,Int.reduceLE,Int.reduceNe,Int.reduceAdd,beq_self_eq_true,Option.bind_eq_bind,Option.pure_def,bind_pure_comp,Option.map_eq_map,decide_eq_true_eq,ne_eq,not_false_eq_true,not_true_eq_false,Nat.lt_irrefl,Nat.reduceBEq,if_true,if_false,ite_true,ite_false,reduceCtorEq,Bool.false_eq_true,lenB_nil,lenB_slice,lenB_oslice,lenB_str,lenB_agg,indexAddrA_slice,indexAddrA_oslice,indexAddrA_ptr,indexAddrA_optr,loadA_ptr,lenK,indexK,loadK,Option.toList_some,Option.toList_none,Int.reduceBEq,Int.reduceBNe,Int.reduceMod,Int.reduceDiv,Int.reduceTDiv,Int.reduceTMod,Int.reduceFDiv,Int.reduceSub,Int.reduceNeg,Int.reduceGT,Int.reduceGE,BitVec.reduceOfInt,BitVec.reduceAnd,BitVec.reduceOr,BitVec.reduceXOr,BitVec.reduceToNat,Int.cast_ofNat_Int,Int.reduceToNat,Int.reducePow,Nat.min_eq_left,Int.reduceMul,List.mapM_cons,List.mapM_nil,hT.all,body71,loopB,Tryd.f71,ln,g1,ix0,ld0,g4,w1,hi0,hi1,Int.toNat_natCast,hX,hA,hz,hz2,hsh,v0,ix1,ld1,ix2,ld2,v1a,v1b,v2a,v2b,sl]
  exact hJ tv (t.drop 3) _ _ rfl (by simp; omega) hk.symm htv

theorem round_e (M : Addr → Option AV) (hM : ∀ a v, tabM a = some v → M a = some v) {C : CallX} {L : LoopX} {T : Tab} (hT : Ty T) (hS : Wk Tryd.prog T M C L) (s t : List UInt8) (w : AV) (hw : OBy M w t) (g : Nat → AV) (h : Heap) (K : Out → List AV → Heap → Prop) (J : List AV → Heap → Prop) (hv : validU t = validU s) (hlt : 0 < t.length) (hts : t.length < 1000000000000000000) (c : Nat) (hc : c = t[0].toNat) (hcc : c = 237)
    (hJ : ∀ (w' : AV) (t' : List UInt8) (j : List AV) (h' : Heap), j.length = 185 → t'.length < t.length → validU t' = validU s → OBy M w' t' → J (w' :: .tup [] :: .bool false :: j) h')
    (hK : ∀ (e : List AV) (h : Heap), e.getD 2 (.tup []) = .bool (validU s) → K .ret e h) :
    xC C L T M body71 (w :: .tup [] :: .bool false :: [g 0, g 1, g 2, g 3, g 4, g 5, g 6, g 7, g 8, g 9, g 10, g 11, g 12, g 13, g 14, g 15, g 16, g 17, g 18, g 19, g 20, g 21, g 22, g 23, g 24, g 25, g 26, g 27, g 28, g 29, g 30, g 31, g 32, g 33, g 34, g 35, g 36, g 37, g 38, g 39, g 40, g 41, g 42, g 43, g 44, g 45, g 46, g 47, g 48, g 49, g 50, g 51, g 52, g 53, g 54, g 55, g 56, g 57, g 58, g 59, g 60, g 61, g 62, g 63, g 64, g 65, g 66, g 67, g 68, g 69, g 70, g 71, g 72, g 73, g 74, g 75, g 76, g 77, g 78, g 79, g 80, g 81, g 82, g 83, g 84, g 85, g 86, g 87, g 88, g 89, g 90, g 91, g 92, g 93, g 94, g 95, g 96, g 97, g 98, g 99, g 100, g 101, g 102, g 103, g 104, g 105, g 106, g 107, g 108, g 109, g 110, g 111, g 112, g 113, g 114, g 115, g 116, g 117, g 118, g 119, g 120, g 121, g 122, g 123, g 124, g 125, g 126, g 127, g 128, g 129, g 130, g 131, g 132, g 133, g 134, g 135, g 136, g 137, g 138, g 139, g 140, g 141, g 142, g 143, g 144, g 145, g 146, g 147, g 148, g 149, g 150, g 151, g 152, g 153, g 154, g 155, g 156, g 157, g 158, g 159, g 160, g 161, g 162, g 163, g 164, g 165, g 166, g 167, g 168, g 169, g 170, g 171, g 172, g 173, g 174, g 175, g 176, g 177, g 178, g 179, g 180, g 181, g 182, g 183, g 184]) h (fun o e' h' => match o with | .normal => J e' h' | .exit i => K (.exit i) e' h' | .ret => K .ret e' h') .mk := by
  have ln := hw.len hT
  have g1 : (t.length : Int) > 0 := by omega
  have g3 : t[0]? = some t[0] := List.getElem?_eq_getElem hlt
  have ix0 : ∀ H, indexAddrA T H 24 w (.int .i64 0) = some (placeA w 0 1) := hw.idx hT g3
  have ld0 := hw.ld hT g3
  have hd : t = t[0] :: t.drop 1 := (List.drop_eq_getElem_cons hlt)
  have hne : t ≠ [] := by intro h0; rw [h0] at hlt; simp at hlt
  have hc256 : c < 256 := by have := t[0].toNat_lt; omega
  have g4 : (t[0].toNat : Int) = (c : Int) := by rw [hc]
  have key : ∀ n lo hi : Nat, ((c < 128 ∧ n = 0) ∨ (128 ≤ c ∧ classU c = (n + 1, lo, hi) ∧ 1 ≤ n ∧ n ≤ 3)) → validU s = if allOk t n lo hi then validU (t.drop (n + 1)) else false := fun n lo hi h => by
    rw [← hv, validU_cons hne, seqLen_class hd (by rw [← hc]; exact h)]
    cases allOk t n lo hi with
    | true => simp
    | false => simp
  have w1 : ¬ ((c : Int) < 128) := by omega
  have hi0 : (0 : Int) ≤ c := by omega
  have hi1 : (c : Int) < 256 := by omega
  have hX := fun H => first_load hT hM H c 35 (first_e c hc256 hcc)
  have hA := fun H => accept_load hT hM H 4 128 159 rfl rfl
  have hz : IntKind.u8.wrap 3 = 3 := by decide
  have hz2 : IntKind.i64.wrap 3 = 3 := by decide
  have hsh : (35 : Int).fdiv 16 = 2 := by decide
  have hk := key 2 128 159 (.inr ⟨by omega, class_e c hcc, by omega, by omega⟩)
  by_cases hl : t.length < 3
  · have v0 : (t.length : Int) < 3 := by omega
    have hvf : validU s = false := by
      rw [hk, if_neg]
      intro ha
      have := allOk_get ha (k := 1) (by omega)
      unfold okB at this
      rw [List.getElem?_eq_none (by omega)] at this
      cases this
    simp only [gX,gM,gL,gB,List.map_cons,List.map_nil,wantedA,evOp,opv,absC,absC0,isAggT,resA,resultA,binA,eqA,eqGuardA,isConstA,isFlatScalar,shiftOp,strOp,ordB,readN,sliceCells,lenA,storeA,newA,buildA,fillA,buildSliceA,boundsA,bndA,sliceA,ptrOK,fieldAddrA,fieldA,indexA,extractA,convA,isIntT,biA,bytesOf,setAll,List.replicate,List.cons.injEq,exists_eq_left',exists_eq_left,exists_eq_right',eq_self,Option.map_some,Option.map_none,Option.bind_some,Option.bind_none,Option.some.injEq,Prod.mk.injEq,Nat.reduceAdd,Nat.reduceSub,Nat.reduceMul,Nat.reduceLT,Nat.reduceLeDiff,Nat.reduceEqDiff,Int.reduceEq,Int.reduceLT,Int.reduceLE,Int.reduceNe,Int.reduceAdd,beq_self_eq_true,Option.bind_eq_bind,Option.pure_def,bind_pure_comp,Option.map_eq_map,decide_eq_true_eq,ne_eq,not_false_eq_true,not_true_eq_false,Nat.lt_irrefl,Nat.reduceBEq,if_true,if_false,ite_true,ite_false,reduceCtorEq,Bool.false_eq_true,lenB_nil,lenB_slice,lenB_oslice,lenB_str,lenB_agg,indexAddrA_slice,indexAddrA_oslice,indexAddrA_ptr,indexAddrA_optr,loadA_ptr,lenK,indexK,loadK,Option.toList_some,Option.toList_none,Int.reduceBEq,Int.reduceBNe,Int.reduceMod,Int.reduceDiv,Int.reduceTDiv,Int.reduceTMod,Int.reduceFDiv,Int.reduceSub,Int.reduceNeg,Int.reduceGT,Int.reduceGE,BitVec.reduceOfInt,BitVec.reduceAnd,BitVec.reduceOr,BitVec.reduceXOr,BitVec.reduceToNat,Int.cast_ofNat_Int,Int.reduceToNat,Int.reducePow,Nat.min_eq_left,Int.reduceMul,List.mapM_cons,List.mapM_nil,hT.all,body71,loopB,Tryd.f71,ln,g1,ix0,ld0,g4,w1,hi0,hi1,Int.toNat_natCast,hX,hA,hz,hz2,hsh,v0]
    exact hK _ _ (by rw [hvf]; rfl)
  have v0 : ¬ ((t.length : Int) < 3) := by omega
  obtain ⟨d1, k1⟩ := drop_get (s := t) (n := 1) (by omega)
  have ix1 : ∀ H, indexAddrA T H 24 w (.int .i64 1) = some (placeA w 1 1) := hw.idx hT k1
  have ld1 := hw.ld hT k1
  obtain ⟨d2, k2⟩ := drop_get (s := t) (n := 2) (by omega)
  have ix2 : ∀ H, indexAddrA T H 24 w (.int .i64 2) = some (placeA w 2 1) := hw.idx hT k2
  have ld2 := hw.ld hT k2
  by_cases hv1a : 128 ≤ d1.toNat
  rotate_left
  · have v1a : (d1.toNat : Int) < 128 := by omega
    have hvf : validU s = false := by
      rw [hk, if_neg]
      intro ha
      have := allOk_get ha (k := 0) (by omega)
      rw [okB_get k1] at this
      simp at this
      omega
    simp only [gX,gM,gL,gB,List.map_cons,List.map_nil,wantedA,evOp,opv,absC,absC0,isAggT,resA,resultA,binA,eqA,eqGuardA,isConstA,isFlatScalar,shiftOp,strOp,ordB,readN,sliceCells,lenA,storeA,newA,buildA,fillA,buildSliceA,boundsA,bndA,sliceA,ptrOK,fieldAddrA,fieldA,indexA,extractA,convA,isIntT,biA,bytesOf,setAll,List.replicate,List.cons.injEq,exists_eq_left',exists_eq_left,exists_eq_right',eq_self,Option.map_some,Option.map_none,Option.bind_some,Option.bind_none,Option.some.injEq,Prod.mk.injEq,Nat.reduceAdd,Nat.reduceSub,Nat.reduceMul,Nat.reduceLT,Nat.reduceLeDiff,Nat.reduceEqDiff,Int.reduceEq,Int.reduceLT,Int.reduceLE,Int.reduceNe,Int.reduceAdd,beq_self_eq_true,Option.bind_eq_bind,Option.pure_def,bind_pure_comp,Option.map_eq_map,decide_eq_true_eq,ne_eq,not_false_eq_true,not_true_eq_false,Nat.lt_irrefl,Nat.reduceBEq,if_true,if_false,ite_true,ite_false,reduceCtorEq,Bool.false_eq_true,lenB_nil,lenB_slice,lenB_oslice,lenB_str,lenB_agg,indexAddrA_slice,indexAddrA_oslice,indexAddrA_ptr,indexAddrA_optr,loadA_ptr,lenK,indexK,loadK,Option.toList_some,Option.toList_none,Int.reduceBEq,Int.reduceBNe,Int.reduceMod,Int.reduceDiv,Int.reduceTDiv,Int.reduceTMod,Int.reduceFDiv,Int.reduceSub,Int.reduceNeg,Int.reduceGT,Int.reduceGE,BitVec.reduceOfInt,BitVec.reduceAnd,BitVec.reduceOr,BitVec.reduceXOr,BitVec.reduceToNat,Int.cast_ofNat_Int,Int.reduceToNat,Int.reducePow,Nat.min_eq_left,Int.reduceMul,List.mapM_cons,List.mapM_nil,hT.all,body71,loopB,Tryd.f71,ln,g1,ix0,ld0,g4,w1,hi0,hi1,Int.toNat_natCast,hX,hA,hz,hz2,hsh,v0,ix1,ld1,ix2,ld2,v1a]
    exact hK _ _ (by rw [hvf]; rfl)
  have v1a : ¬ ((d1.toNat : Int) < 128) := by omega
  by_cases hv1b : d1.toNat ≤ 159
  rotate_left
  · have v1b : (159 : Int) < d1.toNat := by omega
    have hvf : validU s = false := by
      rw [hk, if_neg]
      intro ha
      have := allOk_get ha (k := 0) (by omega)
      rw [okB_get k1] at this
      simp at this
      omega
    simp only [gX,gM,gL,gB,List.map_cons,List.map_nil,wantedA,evOp,opv,absC,absC0,isAggT,resA,resultA,binA,eqA,eqGuardA,isConstA,isFlatScalar,shiftOp,strOp,ordB,readN,sliceCells,lenA,storeA,newA,buildA,fillA,buildSliceA,boundsA,bndA,sliceA,ptrOK,fieldAddrA,fieldA,indexA,extractA,convA,isIntT,biA,bytesOf,setAll,List.replicate,List.cons.injEq,exists_eq_left',exists_eq_left,exists_eq_right',eq_self,Option.map_some,Option.map_none,Option.bind_some,Option.bind_none,Option.some.injEq,Prod.mk.injEq,Nat.reduceAdd,Nat.reduceSub,Nat.reduceMul,Nat.reduceLT,Nat.reduceLeDiff,Nat.reduceEqDiff,Int.reduceEq,Int.reduceLT,Int.reduceLE,Int.reduceNe,Int.reduceAdd,beq_self_eq_true,Option.bind_eq_bind,Option.pure_def,bind_pure_comp,Option.map_eq_map,decide_eq_true_eq,ne_eq,not_false_eq_true,not_true_eq_false,Nat.lt_irrefl,Nat.reduceBEq,if_true,if_false,ite_true,ite_false,reduceCtorEq,Bool.false_eq_true,lenB_nil,lenB_slice,lenB_oslice,lenB_str,lenB_agg,indexAddrA_slice,indexAddrA_oslice,indexAddrA_ptr,indexAddrA_optr,loadA_ptr,lenK,indexK,loadK,Option.toList_some,Option.toList_none,Int.reduceBEq,Int.reduceBNe,Int.reduceMod,Int.reduceDiv,Int.reduceTDiv,Int.reduceTMod,Int.reduceFDiv,Int.reduceSub,Int.reduceNeg,Int.reduceGT,Int.reduceGE,BitVec.reduceOfInt,BitVec.reduceAnd,BitVec.reduceOr,BitVec.reduceXOr,BitVec.reduceToNat,Int.cast_ofNat_Int,Int.reduceToNat,Int.reducePow,Nat.min_eq_left,Int.reduceMul,List.mapM_cons,List.mapM_nil,hT.all,body71,loopB,Tryd.f71,ln,g1,ix0,ld0,g4,w1,hi0,hi1,Int.toNat_natCast,hX,hA,hz,hz2,hsh,v0,ix1,ld1,ix2,ld2,v1a,v1b]
    exact hK _ _ (by rw [hvf]; rfl)
  have v1b : ¬ ((159 : Int) < d1.toNat) := by omega
  by_cases hv2a : 128 ≤ d2.toNat
  rotate_left
  · have v2a : (d2.toNat : Int) < 128 := by omega
    have hvf : validU s = false := by
      rw [hk, if_neg]
      intro ha
      have := allOk_get ha (k := 1) (by omega)
      rw [okB_get k2] at this
      simp at this
      omega
    simp only [gX,gM,gL,gB,List.map_cons,List.map_nil,wantedA,evOp,opv,absC,absC0,isAggT,resA,resultA,binA,eqA,eqGuardA,isConstA,isFlatScalar,shiftOp,strOp,ordB,readN,sliceCells,lenA,storeA,newA,buildA,fillA,buildSliceA,boundsA,bndA,sliceA,ptrOK,fieldAddrA,fieldA,indexA,extractA,convA,isIntT,biA,bytesOf,setAll,List.replicate,List.cons.injEq,exists_eq_left',exists_eq_left,exists_eq_right',eq_self,Option.map_some,Option.map_none,Option.bind_some,Option.bind_none,Option.some.injEq,Prod.mk.injEq,Nat.reduceAdd,Nat.reduceSub,Nat.reduceMul,Nat.reduceLT,Nat.reduceLeDiff,Nat.reduceEqDiff,Int.reduceEq,Int.reduceLT,Int.reduceLE,Int.reduceNe,Int.reduceAdd,beq_self_eq_true,Option.bind_eq_bind,Option.pure_def,bind_pure_comp,Option.map_eq_map,decide_eq_true_eq,ne_eq,not_false_eq_true,not_true_eq_false,Nat.lt_irrefl,Nat.reduceBEq,if_true,if_false,ite_true,ite_false,reduceCtorEq,Bool.false_eq_true,lenB_nil,lenB_slice,lenB_oslice,lenB_str,lenB_agg,indexAddrA_slice,indexAddrA_oslice,indexAddrA_ptr,indexAddrA_optr,loadA_ptr,lenK,indexK,loadK,Option.toList_some,Option.toList_none,Int.reduceBEq,Int.reduceBNe,Int.reduceMod,Int.reduceDiv,Int.reduceTDiv,Int.reduceTMod,Int.reduceFDiv,Int.reduceSub,Int.reduceNeg,Int.reduceGT,Int.reduceGE,BitVec.reduceOfInt,BitVec.reduceAnd,BitVec.reduceOr,BitVec.reduceXOr,BitVec.reduceToNat,Int.cast_ofNat_Int,Int.reduceToNat,Int.reducePow,Nat.min_eq_left,Int.reduceMul,List.mapM_cons,List.mapM_nil,hT.all,body71,loopB,Tryd.f71,ln,g1,ix0,ld0,g4,w1,hi0,hi1,Int.toNat_natCast,hX,hA,hz,hz2,hsh,v0,ix1,ld1,ix2,ld2,v1a,v1b,v2a]
    exact hK _ _ (by rw [hvf]; rfl)
  have v2a : ¬ ((d2.toNat : Int) < 128) := by omega
  by_cases hv2b : d2.toNat ≤ 191
  rotate_left
  · have v2b : (191 : Int) < d2.toNat := by omega
    have hvf : validU s = false := by
      rw [hk, if_neg]
      intro ha
      have := allOk_get ha (k := 1) (by omega)
      rw [okB_get k2] at this
      simp at this
      omega
    simp only [gX,gM,gL,gB,List.map_cons,List.map_nil,wantedA,evOp,opv,absC,absC0,isAggT,resA,resultA,binA,eqA,eqGuardA,isConstA,isFlatScalar,shiftOp,strOp,ordB,readN,sliceCells,lenA,storeA,newA,buildA,fillA,buildSliceA,boundsA,bndA,sliceA,ptrOK,fieldAddrA,fieldA,indexA,extractA,convA,isIntT,biA,bytesOf,setAll,List.replicate,List.cons.injEq,exists_eq_left',exists_eq_left,exists_eq_right',eq_self,Option.map_some,Option.map_none,Option.bind_some,Option.bind_none,Option.some.injEq,Prod.mk.injEq,Nat.reduceAdd,Nat.reduceSub,Nat.reduceMul,Nat.reduceLT,Nat.reduceLeDiff,Nat.reduceEqDiff,Int.reduceEq,Int.reduceLT,Int.reduceLE,Int.reduceNe,Int.reduceAdd,beq_self_eq_true,Option.bind_eq_bind,Option.pure_def,bind_pure_comp,Option.map_eq_map,decide_eq_true_eq,ne_eq,not_false_eq_true,not_true_eq_false,Nat.lt_irrefl,Nat.reduceBEq,if_true,if_false,ite_true,ite_false,reduceCtorEq,Bool.false_eq_true,lenB_nil,lenB_slice,lenB_oslice,lenB_str,lenB_agg,indexAddrA_slice,indexAddrA_oslice,indexAddrA_ptr,indexAddrA_optr,loadA_ptr,lenK,indexK,loadK,Option.toList_some,Option.toList_none,Int.reduceBEq,Int.reduceBNe,Int.reduceMod,Int.reduceDiv,Int.reduceTDiv,Int.reduceTMod,Int.reduceFDiv,Int.reduceSub,Int.reduceNeg,Int.reduceGT,Int.reduceGE,BitVec.reduceOfInt,BitVec.reduceAnd,BitVec.reduceOr,BitVec.reduceXOr,BitVec.reduceToNat,Int.cast_ofNat_Int,Int.reduceToNat,Int.reducePow,Nat.min_eq_left,Int.reduceMul,List.mapM_cons,List.mapM_nil,hT.all,body71,loopB,Tryd.f71,ln,g1,ix0,ld0,g4,w1,hi0,hi1,Int.toNat_natCast,hX,hA,hz,hz2,hsh,v0,ix1,ld1,ix2,ld2,v1a,v1b,v2a,v2b]
    exact hK _ _ (by rw [hvf]; rfl)
  have v2b : ¬ ((191 : Int) < d2.toNat) := by omega
  obtain ⟨tv, sl', htv⟩ := hw.tail hT (k := 3) (by omega)
  have sl : ∀ H, sliceA T H 24 w (some (.int .i64 3)) none none = some tv := sl'
  have ha : allOk t 2 128 159 = true := allOk_mk fun k' hk' => by
    have : k' = 0 ∨ k' = 1 := by omega
    rcases this with rfl | rfl
    · rw [okB_get k1]; simp; omega
    · rw [okB_get k2]; simp; omega
  rw [ha, if_pos rfl] at hk
  simp only [gX,gM,gL,gB,List.map_cons,List.map_nil,wantedA,evOp,opv,absC,absC0,isAggT,resA,resultA,binA,eqA,eqGuardA,isConstA,isFlatScalar,shiftOp,strOp,ordB,readN,sliceCells,lenA,storeA,newA,buildA,fillA,buildSliceA,boundsA,bndA,ptrOK,fieldAddrA,fieldA,indexA,extractA,convA,isIntT,biA,bytesOf,setAll,List.replicate,List.cons.injEq,exists_eq_left',exists_eq_left,exists_eq_right',eq_self,Option.map_some,Option.map_none,Option.bind_some,Option.bind_none,Option.some.injEq,Prod.mk.injEq,Nat.reduceAdd,Nat.reduceSub,Nat.reduceMul,Nat.reduceLT,Nat.reduceLeDiff,Nat.reduceEqDiff,Int.reduceEq,Int.reduceLT,Int.reduceLE,Int.reduceNe,Int.reduceAdd,beq_self_eq_true,Option.bind_eq_bind,Option.pure_def,bind_pure_comp,Option.map_eq_map,decide_eq_true_eq,ne_eq,not_false_eq_true,not_true_eq_false,Nat.lt_irrefl,Nat.reduceBEq,if_true,if_false,ite_true,ite_false,reduceCtorEq,Bool.false_eq_true,lenB_nil,lenB_slice,lenB_oslice,lenB_str,lenB_agg,indexAddrA_slice,indexAddrA_oslice,indexAddrA_ptr,indexAddrA_optr,loadA_ptr,lenK,indexK,loadK,Option.toList_some,Option.toList_none,Int.reduceBEq,Int.reduceBNe,Int.reduceMod,Int.reduceDiv,Int.reduceTDiv,Int.reduceTMod,Int.reduceFDiv,Int.reduceSub,Int.reduceNeg,Int.reduceGT,Int.reduceGE,BitVec.reduceOfInt,BitVec.reduceAnd,BitVec.reduceOr,BitVec.reduceXOr,BitVec.reduceToNat,Int.cast_ofNat_Int,Int.reduceToNat,Int.reducePow,Nat.min_eq_left,Int.reduceMul,List.mapM_cons,List.mapM_nil,hT.all,body71,loopB,Tryd.f71,ln,g1,ix0,ld0,g4,w1,hi0,hi1,Int.toNat_natCast,hX,hA,hz,hz2,hsh,v0,ix1,ld1,ix2,ld2,v1a,v1b,v2a,v2b,sl]
  exact hJ tv (t.drop 3) _ _ rfl (by simp; omega) hk.symm htv

theorem round_f (M : Addr → Option AV) (hM : ∀ a v, tabM a = some v → M a = some v) {C : CallX} {L : LoopX} {T : Tab} (hT : Ty T) (hS : Wk Tryd.prog T M C L) (s t : List UInt8) (w : AV) (hw : OBy M w t) (g : Nat → AV) (h : Heap) (K : Out → List AV → Heap → Prop) (J : List AV → Heap → Prop) (hv : validU t = validU s) (hlt : 0 < t.length) (hts : t.length < 1000000000000000000) (c : Nat) (hc : c = t[0].toNat) (hcc : c = 240)
    (hJ : ∀ (w' : AV) (t' : List UInt8) (j : List AV) (h' : Heap), j.length = 185 → t'.length < t.length → validU t' = validU s → OBy M w' t' → J (w' :: .tup [] :: .bool false :: j) h')
    (hK : ∀ (e : List AV) (h : Heap), e.getD 2 (.tup []) = .bool (validU s) → K .ret e h) :
    xC C L T M body71 (w :: .tup [] :: .bool false :: [g 0, g 1, g 2, g 3, g 4, g 5, g 6, g 7, g 8, g 9, g 10, g 11, g 12, g 13, g 14, g 15, g 16, g 17, g 18, g 19, g 20, g 21, g 22, g 23, g 24, g 25, g 26, g 27, g 28, g 29, g 30, g 31, g 32, g 33, g 34, g 35, g 36, g 37, g 38, g 39, g 40, g 41, g 42, g 43, g 44, g 45, g 46, g 47, g 48, g 49, g 50, g 51, g 52, g 53, g 54, g 55, g 56, g 57, g 58, g 59, g 60, g 61, g 62, g 63, g 64, g 65, g 66, g 67, g 68, g 69, g 70, g 71, g 72, g 73, g 74, g 75, g 76, g 77, g 78, g 79, g 80, g 81, g 82, g 83, g 84, g 85, g 86, g 87, g 88, g 89, g 90, g 91, g 92, g 93, g 94, g 95, g 96, g 97, g 98, g 99, g 100, g 101, g 102, g 103, g 104, g 105, g 106, g 107, g 108, g 109, g 110, g 111, g 112, g 113, g 114, g 115, g 116, g 117, g 118, g 119, g 120, g 121, g 122, g 123, g 124, g 125, g 126, g 127, g 128, g 129, g 130, g 131, g 132, g 133, g 134, g 135, g 136, g 137, g 138, g 139, g 140, g 141, g 142, g 143, g 144, g 145, g 146, g 147, g 148, g 149, g 150, g 151, g 152, g 153, g 154, g 155, g 156, g 157, g 158, g 159, g 160, g 161, g 162, g 163, g 164, g 165, g 166, g 167, g 168, g 169, g 170, g 171, g 172, g 173, g 174, g 175, g 176, g 177, g 178, g 179, g 180, g 181, g 182, g 183, g 184]) h (fun o e' h' => match o with | .normal => J e' h' | .exit i => K (.exit i) e' h' | .ret => K .ret e' h') .mk := by
  have ln := hw.len hT
  have g1 : (t.length : Int) > 0 := by omega
  have g3 : t[0]? = some t[0] := List.getElem?_eq_getElem hlt
  have ix0 : ∀ H, indexAddrA T H 24 w (.int .i64 0) = some (placeA w 0 1) := hw.idx hT g3
  have ld0 := hw.ld hT g3
  have hd : t = t[0] :: t.drop 1 := (List.drop_eq_getElem_cons hlt)
  have hne : t ≠ [] := by intro h0; rw [h0] at hlt; simp at hlt
  have hc256 : c < 256 := by have := t[0].toNat_lt; omega
  have g4 : (t[0].toNat : Int) = (c : Int) := by rw [hc]
  have key : ∀ n lo hi : Nat, ((c < 128 ∧ n = 0) ∨ (128 ≤ c ∧ classU c = (n + 1, lo, hi) ∧ 1 ≤ n ∧ n ≤ 3)) → validU s = if allOk t n lo hi then validU (t.drop (n + 1)) else false := fun n lo hi h => by
    rw [← hv, validU_cons hne, seqLen_class hd (by rw [← hc]; exact h)]
    cases allOk t n lo hi with
    | true => simp
    | false => simp
  have w1 : ¬ ((c : Int) < 128) := by omega
  have hi0 : (0 : Int) ≤ c := by omega
  have hi1 : (c : Int) < 256 := by omega
  have hX := fun H => first_load hT hM H c 52 (first_f c hc256 hcc)
  have hA := fun H => accept_load hT hM H 6 144 191 rfl rfl
  have hz : IntKind.u8.wrap 4 = 4 := by decide
  have hz2 : IntKind.i64.wrap 4 = 4 := by decide
  have hsh : (52 : Int).fdiv 16 = 3 := by decide
  have hk := key 3 144 191 (.inr ⟨by omega, class_f c hcc, by omega, by omega⟩)
  by_cases hl : t.length < 4
  · have v0 : (t.length : Int) < 4 := by omega
    have hvf : validU s = false := by
      rw [hk, if_neg]
      intro ha
      have := allOk_get ha (k := 2) (by omega)
      unfold okB at this
      rw [List.getElem?_eq_none (by omega)] at this
      cases this
    simp only [gX,gM,gL,gB,List.map_cons,List.map_nil,wantedA,evOp,opv,absC,absC0,isAggT,resA,resultA,binA,eqA,eqGuardA,isConstA,isFlatScalar,shiftOp,strOp,ordB,readN,sliceCells,lenA,storeA,newA,buildA,fillA,buildSliceA,boundsA,bndA,sliceA,ptrOK,fieldAddrA,fieldA,indexA,extractA,convA,isIntT,biA,bytesOf,setAll,List.replicate,List.cons.injEq,exists_eq_left',exists_eq_left,exists_eq_right',eq_self,Option.map_some,Option.map_none,Option.bind_some,Option.bind_none,Option.some.injEq,Prod.mk.injEq,Nat.reduceAdd,Nat.reduceSub,Nat.reduceMul,Nat.reduceLT,Nat.reduceLeDiff,Nat.reduceEqDiff,Int.reduceEq,Int.reduceLT,Int.reduceLE,Int.reduceNe,Int.reduceAdd,beq_self_eq_true,Option.bind_eq_bind,Option.pure_def,bind_pure_comp,Option.map_eq_map,decide_eq_true_eq,ne_eq,not_false_eq_true,not_true_eq_false,Nat.lt_irrefl,Nat.reduceBEq,if_true,if_false,ite_true,ite_false,reduceCtorEq,Bool.false_eq_true,lenB_nil,lenB_slice,lenB_oslice,lenB_str,lenB_agg,indexAddrA_slice,indexAddrA_oslice,indexAddrA_ptr,indexAddrA_optr,loadA_ptr,lenK,indexK,loadK,Option.toList_some,Option.toList_none,Int.reduceBEq,Int.reduceBNe,Int.reduceMod,Int.reduceDiv,Int.reduceTDiv,Int.reduceTMod,Int.reduceFDiv,Int.reduceSub,Int.reduceNeg,Int.reduceGT,Int.reduceGE,BitVec.reduceOfInt,BitVec.reduceAnd,BitVec.reduceOr,BitVec.reduceXOr,BitVec.reduceToNat,Int.cast_ofNat_Int,Int.reduceToNat,Int.reducePow,Nat.min_eq_left,Int.reduceMul,List.mapM_cons,List.mapM_nil,hT.all,body71,loopB,Tryd.f71,ln,g1,ix0,ld0,g4,w1,hi0,hi1,Int.toNat_natCast,hX,hA,hz,hz2,hsh,v0]
    exact hK _ _ (by rw [hvf]; rfl)
  have v0 : ¬ ((t.length : Int) < 4) := by omega
  obtain ⟨d1, k1⟩ := drop_get (s := t) (n := 1) (by omega)
  have ix1 : ∀ H, indexAddrA T H 24 w (.int .i64 1) = some (placeA w 1 1) := hw.idx hT k1
  have ld1 := hw.ld hT k1
  obtain ⟨d2, k2⟩ := drop_get (s := t) (n := 2) (by omega)
  have ix2 : ∀ H, indexAddrA T H 24 w (.int .i64 2) = some (placeA w 2 1) := hw.idx hT k2
  have ld2 := hw.ld hT k2
  obtain ⟨d3, k3⟩ := drop_get (s := t) (n := 3) (by omega)
  have ix3 : ∀ H, indexAddrA T H 24 w (.int .i64 3) = some (placeA w 3 1) := hw.idx hT k3
  have ld3 := hw.ld hT k3
  by_cases hv1a : 144 ≤ d1.toNat
  rotate_left
  · have v1a : (d1.toNat : Int) < 144 := by omega
    have hvf : validU s = false := by
      rw [hk, if_neg]
      intro ha
      have := allOk_get ha (k := 0) (by omega)
      rw [okB_get k1] at this
      simp at this
      omega
    simp only [gX,gM,gL,gB,List.map_cons,List.map_nil,wantedA,evOp,opv,absC,absC0,isAggT,resA,resultA,binA,eqA,eqGuardA,isConstA,isFlatScalar,shiftOp,strOp,ordB,readN,sliceCells,lenA,storeA,newA,buildA,fillA,buildSliceA,boundsA,bndA,sliceA,ptrOK,fieldAddrA,fieldA,indexA,extractA,convA,isIntT,biA,bytesOf,setAll,List.replicate,List.cons.injEq,exists_eq_left',exists_eq_left,exists_eq_right',eq_self,Option.map_some,Option.map_none,Option.bind_some,Option.bind_none,Option.some.injEq,Prod.mk.injEq,Nat.reduceAdd,Nat.reduceSub,Nat.reduceMul,Nat.reduceLT,Nat.reduceLeDiff,Nat.reduceEqDiff,Int.reduceEq,Int.reduceLT,Int.reduceLE,Int.reduceNe,Int.reduceAdd,beq_self_eq_true,Option.bind_eq_bind,Option.pure_def,bind_pure_comp,Option.map_eq_map,decide_eq_true_eq,ne_eq,not_false_eq_true,not_true_eq_false,Nat.lt_irrefl,Nat.reduceBEq,if_true,if_false,ite_true,ite_false,reduceCtorEq,Bool.false_eq_true,lenB_nil,lenB_slice,lenB_oslice,lenB_str,lenB_agg,indexAddrA_slice,indexAddrA_oslice,indexAddrA_ptr,indexAddrA_optr,loadA_ptr,lenK,indexK,loadK,Option.toList_some,Option.toList_none,Int.reduceBEq,Int.reduceBNe,Int.reduceMod,Int.reduceDiv,Int.reduceTDiv,Int.reduceTMod,Int.reduceFDiv,Int.reduceSub,Int.reduceNeg,Int.reduceGT,Int.reduceGE,BitVec.reduceOfInt,BitVec.reduceAnd,BitVec.reduceOr,BitVec.reduceXOr,BitVec.reduceToNat,Int.cast_ofNat_Int,Int.reduceToNat,Int.reducePow,Nat.min_eq_left,Int.reduceMul,List.mapM_cons,List.mapM_nil,hT.all,body71,loopB,Tryd.f71,ln,g1,ix0,ld0,g4,w1,hi0,hi1,Int.toNat_natCast,hX,hA,hz,hz2,hsh,v0,ix1,ld1,ix2,ld2,ix3,ld3,v1a]
    exact hK _ _ (by rw [hvf]; rfl)
  have v1a : ¬ ((d1.toNat : Int) < 144) := by omega
  by_cases hv1b : d1.toNat ≤ 191
  rotate_left
  · have v1b : (191 : Int) < d1.toNat := by omega
    have hvf : validU s = false := by
      rw [hk, if_neg]
      intro ha
      have := allOk_get ha (k := 0) (by omega)
      rw [okB_get k1] at this
      simp at this
      omega
    simp only [gX,gM,gL,gB,List.map_cons,List.map_nil,wantedA,evOp,opv,absC,absC0,isAggT,resA,resultA,binA,eqA,eqGuardA,isConstA,isFlatScalar,shiftOp,strOp,ordB,readN,sliceCells,lenA,storeA,newA,buildA,fillA,buildSliceA,boundsA,bndA,sliceA,ptrOK,fieldAddrA,fieldA,indexA,extractA,convA,isIntT,biA,bytesOf,setAll,List.replicate,List.cons.injEq,exists_eq_left',exists_eq_left,exists_eq_right',eq_self,Option.map_some,Option.map_none,Option.bind_some,Option.bind_none,Option.some.injEq,Prod.mk.injEq,Nat.reduceAdd,Nat.reduceSub,Nat.reduceMul,Nat.reduceLT,Nat.reduceLeDiff,Nat.reduceEqDiff,Int.reduceEq,Int.reduceLT,Int.reduceLE,Int.reduceNe,Int.reduceAdd,beq_self_eq_true,Option.bind_eq_bind,Option.pure_def,bind_pure_comp,Option.map_eq_map,decide_eq_true_eq,ne_eq,not_false_eq_true,not_true_eq_false,Nat.lt_irrefl,Nat.reduceBEq,if_true,if_false,ite_true,ite_false,reduceCtorEq,Bool.false_eq_true,lenB_nil,lenB_slice,lenB_oslice,lenB_str,lenB_agg,indexAddrA_slice,indexAddrA_oslice,indexAddrA_ptr,indexAddrA_optr,loadA_ptr,lenK,indexK,loadK,Option.toList_some,Option.toList_none,Int.reduceBEq,Int.reduceBNe,Int.reduceMod,Int.reduceDiv,Int.reduceTDiv,Int.reduceTMod,Int.reduceFDiv,Int.reduceSub,Int.reduceNeg,Int.reduceGT,Int.reduceGE,BitVec.reduceOfInt,BitVec.reduceAnd,BitVec.reduceOr,BitVec.reduceXOr,BitVec.reduceToNat,Int.cast_ofNat_Int,Int.reduceToNat,Int.reducePow,Nat.min_eq_left,Int.reduceMul,List.mapM_cons,List.mapM_nil,hT.all,body71,loopB,Tryd.f71,ln,g1,ix0,ld0,g4,w1,hi0,hi1,Int.toNat_natCast,hX,hA,hz,hz2,hsh,v0,ix1,ld1,ix2,ld2,ix3,ld3,v1a,v1b]
    exact hK _ _ (by rw [hvf]; rfl)
  have v1b : ¬ ((191 : Int) < d1.toNat) := by omega
  by_cases hv2a : 128 ≤ d2.toNat
  rotate_left
  · have v2a : (d2.toNat : Int) < 128 := by omega
    have hvf : validU s = false := by
      rw [hk, if_neg]
      intro ha
      have := allOk_get ha (k := 1) (by omega)
      rw [okB_get k2] at this
      simp at this
      omega
    simp only [gX,gM,gL,gB,List.map_cons,List.map_nil,wantedA,evOp,opv,absC,absC0,isAggT,resA,resultA,binA,eqA,eqGuardA,isConstA,isFlatScalar,shiftOp,strOp,ordB,readN,sliceCells,lenA,storeA,newA,buildA,fillA,buildSliceA,boundsA,bndA,sliceA,ptrOK,fieldAddrA,fieldA,indexA,extractA,convA,isIntT,biA,bytesOf,setAll,List.replicate,List.cons.injEq,exists_eq_left',exists_eq_left,exists_eq_right',eq_self,Option.map_some,Option.map_none,Option.bind_some,Option.bind_none,Option.some.injEq,Prod.mk.injEq,Nat.reduceAdd,Nat.reduceSub,Nat.reduceMul,Nat.reduceLT,Nat.reduceLeDiff,Nat.reduceEqDiff,Int.reduceEq,Int.reduceLT,Int.reduceLE,Int.reduceNe,Int.reduceAdd,beq_self_eq_true,Option.bind_eq_bind,Option.pure_def,bind_pure_comp,Option.map_eq_map,decide_eq_true_eq,ne_eq,not_false_eq_true,not_true_eq_false,Nat.lt_irrefl,Nat.reduceBEq,if_true,if_false,ite_true,ite_false,reduceCtorEq,Bool.false_eq_true,lenB_nil,lenB_slice,lenB_oslice,lenB_str,lenB_agg,indexAddrA_slice,indexAddrA_oslice,indexAddrA_ptr,indexAddrA_optr,loadA_ptr,lenK,indexK,loadK,Option.toList_some,Option.toList_none,Int.reduceBEq,Int.reduceBNe,Int.reduceMod,Int.reduceDiv,Int.reduceTDiv,Int.reduceTMod,Int.reduceFDiv,Int.reduceSub,Int.reduceNeg,Int.reduceGT,Int.reduceGE,BitVec.reduceOfInt,BitVec.reduceAnd,BitVec.reduceOr,BitVec.reduceXOr,BitVec.reduceToNat,Int.cast_ofNat_Int,Int.reduceToNat,Int.reducePow,Nat.min_eq_left,Int.reduceMul,List.mapM_cons,List.mapM_nil,hT.all,body71,loopB,Tryd.f71,ln,g1,ix0,ld0,g4,w1,hi0,hi1,Int.toNat_natCast,hX,hA,hz,hz2,hsh,v0,ix1,ld1,ix2,ld2,ix3,ld3,v1a,v1b,v2a]
    exact hK _ _ (by rw [hvf]; rfl)
  have v2a : ¬ ((d2.toNat : Int) < 128) := by omega
  by_cases hv2b : d2.toNat ≤ 191
  rotate_left
  · have v2b : (191 : Int) < d2.toNat := by omega
    have hvf : validU s = false := by
      rw [hk, if_neg]
      intro ha
      have := allOk_get ha (k := 1) (by omega)
      rw [okB_get k2] at this
      simp at this
      omega
    simp only [gX,gM,gL,gB,List.map_cons,List.map_nil,wantedA,evOp,opv,absC,absC0,isAggT,resA,resultA,binA,eqA,eqGuardA,isConstA,isFlatScalar,shiftOp,strOp,ordB,readN,sliceCells,lenA,storeA,newA,buildA,fillA,buildSliceA,boundsA,bndA,sliceA,ptrOK,fieldAddrA,fieldA,indexA,extractA,convA,isIntT,biA,bytesOf,setAll,List.replicate,List.cons.injEq,exists_eq_left',exists_eq_left,exists_eq_right',eq_self,Option.map_some,Option.map_none,Option.bind_some,Option.bind_none,Option.some.injEq,Prod.mk.injEq,Nat.reduceAdd,Nat.reduceSub,Nat.reduceMul,Nat.reduceLT,Nat.reduceLeDiff,Nat.reduceEqDiff,Int.reduceEq,Int.reduceLT,Int.reduceLE,Int.reduceNe,Int.reduceAdd,beq_self_eq_true,Option.bind_eq_bind,Option.pure_def,bind_pure_comp,Option.map_eq_map,decide_eq_true_eq,ne_eq,not_false_eq_true,not_true_eq_false,Nat.lt_irrefl,Nat.reduceBEq,if_true,if_false,ite_true,ite_false,reduceCtorEq,Bool.false_eq_true,lenB_nil,lenB_slice,lenB_oslice,lenB_str,lenB_agg,indexAddrA_slice,indexAddrA_oslice,indexAddrA_ptr,indexAddrA_optr,loadA_ptr,lenK,indexK,loadK,Option.toList_some,Option.toList_none,Int.reduceBEq,Int.reduceBNe,Int.reduceMod,Int.reduceDiv,Int.reduceTDiv,Int.reduceTMod,Int.reduceFDiv,Int.reduceSub,Int.reduceNeg,Int.reduceGT,Int.reduceGE,BitVec.reduceOfInt,BitVec.reduceAnd,BitVec.reduceOr,BitVec.reduceXOr,BitVec.reduceToNat,Int.cast_ofNat_Int,Int.reduceToNat,Int.reducePow,Nat.min_eq_left,Int.reduceMul,List.mapM_cons,List.mapM_nil,hT.all,body71,loopB,Tryd.f71,ln,g1,ix0,ld0,g4,w1,hi0,hi1,Int.toNat_natCast,hX,hA,hz,hz2,hsh,v0,ix1,ld1,ix2,ld2,ix3,ld3,v1a,v1b,v2a,v2b]
    exact hK _ _ (by rw [hvf]; rfl)
  have v2b : ¬ ((191 : Int) < d2.toNat) := by omega
  by_cases hv3a : 128 ≤ d3.toNat
  rotate_left
  · have v3a : (d3.toNat : Int) < 128 := by omega
    have hvf : validU s = false := by
      rw [hk, if_neg]
      intro ha
      have := allOk_get ha (k := 2) (by omega)
      rw [okB_get k3] at this
      simp at this
      omega
    simp only [gX,gM,gL,gB,List.map_cons,List.map_nil,wantedA,evOp,opv,absC,absC0,isAggT,resA,resultA,binA,eqA,eqGuardA,isConstA,isFlatScalar,shiftOp,strOp,ordB,readN,sliceCells,lenA,storeA,newA,buildA,fillA,buildSliceA,boundsA,bndA,sliceA,ptrOK,fieldAddrA,fieldA,indexA,extractA,convA,isIntT,biA,bytesOf,setAll,List.replicate,List.cons.injEq,exists_eq_left',exists_eq_left,exists_eq_right',eq_self,Option.map_some,Option.map_none,Option.bind_some,Option.bind_none,Option.some.injEq,Prod.mk.injEq,Nat.reduceAdd,Nat.reduceSub,Nat.reduceMul,Nat.reduceLT,Nat.reduceLeDiff,Nat.reduceEqDiff,Int.reduceEq,Int.reduceLT,Int.reduceLE,Int.reduceNe,Int.reduceAdd,beq_self_eq_true,Option.bind_eq_bind,Option.pure_def,bind_pure_comp,Option.map_eq_map,decide_eq_true_eq,ne_eq,not_false_eq_true,not_true_eq_false,Nat.lt_irrefl,Nat.reduceBEq,if_true,if_false,ite_true,ite_false,reduceCtorEq,Bool.false_eq_true,lenB_nil,lenB_slice,lenB_oslice,lenB_str,lenB_agg,indexAddrA_slice,indexAddrA_oslice,indexAddrA_ptr,indexAddrA_optr,loadA_ptr,lenK,indexK,loadK,Option.toList_some,Option.toList_none,Int.reduceBEq,Int.reduceBNe,Int.reduceMod,Int.reduceDiv,Int.reduceTDiv,Int.reduceTMod,Int.reduceFDiv,Int.reduceSub,Int.reduceNeg,Int.reduceGT,Int.reduceGE,BitVec.reduceOfInt,BitVec.reduceAnd,BitVec.reduceOr,BitVec.reduceXOr,BitVec.reduceToNat,Int.cast_ofNat_Int,Int.reduceToNat,Int.reducePow,Nat.min_eq_left,Int.reduceMul,List.mapM_cons,List.mapM_nil,hT.all,body71,loopB,Tryd.f71,ln,g1,ix0,ld0,g4,w1,hi0,hi1,Int.toNat_natCast,hX,hA,hz,hz2,hsh,v0,ix1,ld1,ix2,ld2,ix3,ld3,v1a,v1b,v2a,v2b,v3a]
    exact hK _ _ (by rw [hvf]; rfl)
  have v3a : ¬ ((d3.toNat : Int) < 128) := by omega
  by_cases hv3b : d3.toNat ≤ 191
  rotate_left
  · have v3b : (191 : Int) < d3.toNat := by omega
    have hvf : validU s = false := by
      rw [hk, if_neg]
      intro ha
      have := allOk_get ha (k := 2) (by omega)
      rw [okB_get k3] at this
      simp at this
      omega
    simp only [gX,gM,gL,gB,List.map_cons,List.map_nil,wantedA,evOp,opv,absC,absC0,isAggT,resA,resultA,binA,eqA,eqGuardA,isConstA,isFlatScalar,shiftOp,strOp,ordB,readN,sliceCells,lenA,storeA,newA,buildA,fillA,buildSliceA,boundsA,bndA,sliceA,ptrOK,fieldAddrA,fieldA,indexA,extractA,convA,isIntT,biA,bytesOf,setAll,List.replicate,List.cons.injEq,exists_eq_left',exists_eq_left,exists_eq_right',eq_self,Option.map_some,Option.map_none,Option.bind_some,Option.bind_none,Option.some.injEq,Prod.mk.injEq,Nat.reduceAdd,Nat.reduceSub,Nat.reduceMul,Nat.reduceLT,Nat.reduceLeDiff,Nat.reduceEqDiff,Int.reduceEq,Int.reduceLT,Int.reduceLE,Int.reduceNe,Int.reduceAdd,beq_self_eq_true,Option.bind_eq_bind,Option.pure_def,bind_pure_comp,Option.map_eq_map,decide_eq_true_eq,ne_eq,not_false_eq_true,not_true_eq_false,Nat.lt_irrefl,Nat.reduceBEq,if_true,if_false,ite_true,ite_false,reduceCtorEq,Bool.false_eq_true,lenB_nil,lenB_slice,lenB_oslice,lenB_str,lenB_agg,indexAddrA_slice,indexAddrA_oslice,indexAddrA_ptr,indexAddrA_optr,loadA_ptr,lenK,indexK,loadK,Option.toList_some,Option.toList_none,Int.reduceBEq,Int.reduceBNe,Int.reduceMod,Int.reduceDiv,Int.reduceTDiv,Int.reduceTMod,Int.reduceFDiv,Int.reduceSub,Int.reduceNeg,Int.reduceGT,Int.reduceGE,BitVec.reduceOfInt,BitVec.reduceAnd,BitVec.reduceOr,BitVec.reduceXOr,BitVec.reduceToNat,Int.cast_ofNat_Int,Int.reduceToNat,Int.reducePow,Nat.min_eq_left,Int.reduceMul,List.mapM_cons,List.mapM_nil,hT.all,body71,loopB,Tryd.f71,ln,g1,ix0,ld0,g4,w1,hi0,hi1,Int.toNat_natCast,hX,hA,hz,hz2,hsh,v0,ix1,ld1,ix2,ld2,ix3,ld3,v1a,v1b,v2a,v2b,v3a,v3b]
    exact hK _ _ (by rw [hvf]; rfl)
  have v3b : ¬ ((191 : Int) < d3.toNat) := by omega
  obtain ⟨tv, sl', htv⟩ := hw.tail hT (k := 4) (by omega)
  have sl : ∀ H, sliceA T H 24 w (some (.int .i64 4)) none none = some tv := sl'
  have ha : allOk t 3 144 191 = true := allOk_mk fun k' hk' => by
    have : k' = 0 ∨ k' = 1 ∨ k' = 2 := by omega
    rcases this with rfl | rfl | rfl
    · rw [okB_get k1]; simp; omega
    · rw [okB_get k2]; simp; omega
    · rw [okB_get k3]; simp; omega
  rw [ha, if_pos rfl] at hk
  simp only [gX,gM,gL,gB,List.map_cons,List.map_nil,wantedA,evOp,opv,absC,absC0,isAggT,resA,resultA,binA,eqA,eqGuardA,isConstA,isFlatScalar,shiftOp,strOp,ordB,readN,sliceCells,lenA,storeA,newA,buildA,fillA,buildSliceA,boundsA,bndA,ptrOK,fieldAddrA,fieldA,indexA,extractA,convA,isIntT,biA,bytesOf,setAll,List.replicate,List.cons.injEq,exists_eq_left',exists_eq_left,exists_eq_right',eq_self,Option.map_some,Option.map_none,Option.bind_some,Option.bind_none,Option.some.injEq,Prod.mk.injEq,Nat.reduceAdd,Nat.reduceSub,Nat.reduceMul,Nat.reduceLT,Nat.reduceLeDiff,Nat.reduceEqDiff,Int.reduceEq,Int.reduceLT,Int.reduceLE,Int.reduceNe,Int.reduceAdd,beq_self_eq_true,Option.bind_eq_bind,Option.pure_def,bind_pure_comp,Option.map_eq_map,decide_eq_true_eq,ne_eq,not_false_eq_true,not_true_eq_false,Nat.lt_irrefl,Nat.reduceBEq,if_true,if_false,ite_true,ite_false,reduceCtorEq,Bool.false_eq_true,lenB_nil,lenB_slice,lenB_oslice,lenB_str,lenB_agg,indexAddrA_slice,indexAddrA_oslice,indexAddrA_ptr,indexAddrA_optr,loadA_ptr,lenK,indexK,loadK,Option.toList_some,Option.toList_none,Int.reduceBEq,Int.reduceBNe,Int.reduceMod,Int.reduceDiv,Int.reduceTDiv,Int.reduceTMod,Int.reduceFDiv,Int.reduceSub,Int.reduceNeg,Int.reduceGT,Int.reduceGE,BitVec.reduceOfInt,BitVec.reduceAnd,BitVec.reduceOr,BitVec.reduceXOr,BitVec.reduceToNat,Int.cast_ofNat_Int,Int.reduceToNat,Int.reducePow,Nat.min_eq_left,Int.reduceMul,List.mapM_cons,List.mapM_nil,hT.all,body71,loopB,Tryd.f71,ln,g1,ix0,ld0,g4,w1,hi0,hi1,Int.toNat_natCast,hX,hA,hz,hz2,hsh,v0,ix1,ld1,ix2,ld2,ix3,ld3,v1a,v1b,v2a,v2b,v3a,v3b,sl]
  exact hJ tv (t.drop 4) _ _ rfl (by simp; omega) hk.symm htv

theorem round_g (M : Addr → Option AV) (hM : ∀ a v, tabM a = some v → M a = some v) {C : CallX} {L : LoopX} {T : Tab} (hT : Ty T) (hS : Wk Tryd.prog T M C L) (s t : List UInt8) (w : AV) (hw : OBy M w t) (g : Nat → AV) (h : Heap) (K : Out → List AV → Heap → Prop) (J : List AV → Heap → Prop) (hv : validU t = validU s) (hlt : 0 < t.length) (hts : t.length < 1000000000000000000) (c : Nat) (hc : c = t[0].toNat) (hcc : 241 ≤ c ∧ c ≤ 243)
    (hJ : ∀ (w' : AV) (t' : List UInt8) (j : List AV) (h' : Heap), j.length = 185 → t'.length < t.length → validU t' = validU s → OBy M w' t' → J (w' :: .tup [] :: .bool false :: j) h')
    (hK : ∀ (e : List AV) (h : Heap), e.getD 2 (.tup []) = .bool (validU s) → K .ret e h) :
    xC C L T M body71 (w :: .tup [] :: .bool false :: [g 0, g 1, g 2, g 3, g 4, g 5, g 6, g 7, g 8, g 9, g 10, g 11, g 12, g 13, g 14, g 15, g 16, g 17, g 18, g 19, g 20, g 21, g 22, g 23, g 24, g 25, g 26, g 27, g 28, g 29, g 30, g 31, g 32, g 33, g 34, g 35, g 36, g 37, g 38, g 39, g 40, g 41, g 42, g 43, g 44, g 45, g 46, g 47, g 48, g 49, g 50, g 51, g 52, g 53, g 54, g 55, g 56, g 57, g 58, g 59, g 60, g 61, g 62, g 63, g 64, g 65, g 66, g 67, g 68, g 69, g 70, g 71, g 72, g 73, g 74, g 75, g 76, g 77, g 78, g 79, g 80, g 81, g 82, g 83, g 84, g 85, g 86, g 87, g 88, g 89, g 90, g 91, g 92, g 93, g 94, g 95, g 96, g 97, g 98, g 99, g 100, g 101, g 102, g 103, g 104, g 105, g 106, g 107, g 108, g 109, g 110, g 111, g 112, g 113, g 114, g 115, g 116, g 117, g 118, g 119, g 120, g 121, g 122, g 123, g 124, g 125, g 126, g 127, g 128, g 129, g 130, g 131, g 132, g 133, g 134, g 135, g 136, g 137, g 138, g 139, g 140, g 141, g 142, g 143, g 144, g 145, g 146, g 147, g 148, g 149, g 150, g 151, g 152, g 153, g 154, g 155, g 156, g 157, g 158, g 159, g 160, g 161, g 162, g 163, g 164, g 165, g 166, g 167, g 168, g 169, g 170, g 171, g 172, g 173, g 174, g 175, g 176, g 177, g 178, g 179, g 180, g 181, g 182, g 183, g 184]) h (fun o e' h' => match o with | .normal => J e' h' | .exit i => K (.exit i) e' h' | .ret => K .ret e' h') .mk := by
  have ln := hw.len hT
  have g1 : (t.length : Int) > 0 := by omega
  have g3 : t[0]? = some t[0] := List.getElem?_eq_getElem hlt
  have ix0 : ∀ H, indexAddrA T H 24 w (.int .i64 0) = some (placeA w 0 1) := hw.idx hT g3
  have ld0 := hw.ld hT g3
  have hd : t = t[0] :: t.drop 1 := (List.drop_eq_getElem_cons hlt)
  have hne : t ≠ [] := by intro h0; rw [h0] at hlt; simp at hlt
  have hc256 : c < 256 := by have := t[0].toNat_lt; omega
  have g4 : (t[0].toNat : Int) = (c : Int) := by rw [hc]
  have key : ∀ n lo hi : Nat, ((c < 128 ∧ n = 0) ∨ (128 ≤ c ∧ classU c = (n + 1, lo, hi) ∧ 1 ≤ n ∧ n ≤ 3)) → validU s = if allOk t n lo hi then validU (t.drop (n + 1)) else false := fun n lo hi h => by
    rw [← hv, validU_cons hne, seqLen_class hd (by rw [← hc]; exact h)]
    cases allOk t n lo hi with
    | true => simp
    | false => simp
  have w1 : ¬ ((c : Int) < 128) := by omega
  have hi0 : (0 : Int) ≤ c := by omega
  have hi1 : (c : Int) < 256 := by omega
  have hX := fun H => first_load hT hM H c 4 (first_g c hc256 hcc)
  have hA := fun H => accept_load hT hM H 0 128 191 rfl rfl
  have hz : IntKind.u8.wrap 4 = 4 := by decide
  have hz2 : IntKind.i64.wrap 4 = 4 := by decide
  have hsh : (4 : Int).fdiv 16 = 0 := by decide
  have hk := key 3 128 191 (.inr ⟨by omega, class_g c hcc, by omega, by omega⟩)
  by_cases hl : t.length < 4
  · have v0 : (t.length : Int) < 4 := by omega
    have hvf : validU s = false := by
      rw [hk, if_neg]
      intro ha
      have := allOk_get ha (k := 2) (by omega)
      unfold okB at this
      rw [List.getElem?_eq_none (by omega)] at this
      cases this
    simp only [gX,gM,gL,gB,List.map_cons,List.map_nil,wantedA,evOp,opv,absC,absC0,isAggT,resA,resultA,binA,eqA,eqGuardA,isConstA,isFlatScalar,shiftOp,strOp,ordB,readN,sliceCells,lenA,storeA,newA,buildA,fillA,buildSliceA,boundsA,bndA,sliceA,ptrOK,fieldAddrA,fieldA,indexA,extractA,convA,isIntT,biA,bytesOf,setAll,List.replicate,List.cons.injEq,exists_eq_left',exists_eq_left,exists_eq_right',eq_self,Option.map_some,Option.map_none,Option.bind_some,Option.bind_none,Option.some.injEq,Prod.mk.injEq,Nat.reduceAdd,Nat.reduceSub,Nat.reduceMul,Nat.reduceLT,Nat.reduceLeDiff,Nat.reduceEqDiff,Int.reduceEq,Int.reduceLT,Int.reduceLE,Int.reduceNe,Int.reduceAdd,beq_self_eq_true,Option.bind_eq_bind,Option.pure_def,bind_pure_comp,Option.map_eq_map,decide_eq_true_eq,ne_eq,not_false_eq_true,not_true_eq_false,Nat.lt_irrefl,Nat.reduceBEq,if_true,if_false,ite_true,ite_false,reduceCtorEq,Bool.false_eq_true,lenB_nil,lenB_slice,lenB_oslice,lenB_str,lenB_agg,indexAddrA_slice,indexAddrA_oslice,indexAddrA_ptr,indexAddrA_optr,loadA_ptr,lenK,indexK,loadK,Option.toList_some,Option.toList_none,Int.reduceBEq,Int.reduceBNe,Int.reduceMod,Int.reduceDiv,Int.reduceTDiv,Int.reduceTMod,Int.reduceFDiv,Int.reduceSub,Int.reduceNeg,Int.reduceGT,Int.reduceGE,BitVec.reduceOfInt,BitVec.reduceAnd,BitVec.reduceOr,BitVec.reduceXOr,BitVec.reduceToNat,Int.cast_ofNat_Int,Int.reduceToNat,Int.reducePow,Nat.min_eq_left,Int.reduceMul,List.mapM_cons,List.mapM_nil,hT.all,body71,loopB,Tryd.f71,ln,g1,ix0,ld0,g4,w1,hi0,hi1,Int.toNat_natCast,hX,hA,hz,hz2,hsh,v0]
    exact hK _ _ (by rw [hvf]; rfl)
  have v0 : ¬ ((t.length : Int) < 4) := by omega
  obtain ⟨d1, k1⟩ := drop_get (s := t) (n := 1) (by omega)
  have ix1 : ∀ H, indexAddrA T H 24 w (.int .i64 1) = some (placeA w 1 1) := hw.idx hT k1
  have ld1 := hw.ld hT k1
  obtain ⟨d2, k2⟩ := drop_get (s := t) (n := 2) (by omega)
  have ix2 : ∀ H, indexAddrA T H 24 w (.int .i64 2) = some (placeA w 2 1) := hw.idx hT k2
  have ld2 := hw.ld hT k2
  obtain ⟨d3, k3⟩ := drop_get (s := t) (n := 3) (by omega)
  have ix3 : ∀ H, indexAddrA T H 24 w (.int .i64 3) = some (placeA w 3 1) := hw.idx hT k3
  have ld3 := hw.ld hT k3
  by_cases hv1a : 128 ≤ d1.toNat
  rotate_left
  · have v1a : (d1.toNat : Int) < 128 := by omega
    have hvf : validU s = false := by
      rw [hk, if_neg]
      intro ha
      have := allOk_get ha (k := 0) (by omega)
      rw [okB_get k1] at this
      simp at this
      omega
    simp only [gX,gM,gL,gB,List.map_cons,List.map_nil,wantedA,evOp,opv,absC,absC0,isAggT,resA,resultA,binA,eqA,eqGuardA,isConstA,isFlatScalar,shiftOp,strOp,ordB,readN,sliceCells,lenA,storeA,newA,buildA,fillA,buildSliceA,boundsA,bndA,sliceA,ptrOK,fieldAddrA,fieldA,indexA,extractA,convA,isIntT,biA,bytesOf,setAll,List.replicate,List.cons.injEq,exists_eq_left',exists_eq_left,exists_eq_right',eq_self,Option.map_some,Option.map_none,Option.bind_some,Option.bind_none,Option.some.injEq,Prod.mk.injEq,Nat.reduceAdd,Nat.reduceSub,Nat.reduceMul,Nat.reduceLT,Nat.reduceLeDiff,Nat.reduceEqDiff,Int.reduceEq,Int.reduceLT,Int.reduceLE,Int.reduceNe,Int.reduceAdd,beq_self_eq_true,Option.bind_eq_bind,Option.pure_def,bind_pure_comp,Option.map_eq_map,decide_eq_true_eq,ne_eq,not_false_eq_true,not_true_eq_false,Nat.lt_irrefl,Nat.reduceBEq,if_true,if_false,ite_true,ite_false,reduceCtorEq,Bool.false_eq_true,lenB_nil,lenB_slice,lenB_oslice,lenB_str,lenB_agg,indexAddrA_slice,indexAddrA_oslice,indexAddrA_ptr,indexAddrA_optr,loadA_ptr,lenK,indexK,loadK,Option.toList_some,Option.toList_none,Int.reduceBEq,Int.reduceBNe,Int.reduceMod,Int.reduceDiv,Int.reduceTDiv,Int.reduceTMod,Int.reduceFDiv,Int.reduceSub,Int.reduceNeg,Int.reduceGT,Int.reduceGE,BitVec.reduceOfInt,BitVec.reduceAnd,BitVec.reduceOr,BitVec.reduceXOr,BitVec.reduceToNat,Int.cast_ofNat_Int,Int.reduceToNat,Int.reducePow,Nat.min_eq_left,Int.reduceMul,List.mapM_cons,List.mapM_nil,hT.all,body71,loopB,Tryd.f71,ln,g1,ix0,ld0,g4,w1,hi0,hi1,Int.toNat_natCast,hX,hA,hz,hz2,hsh,v0,ix1,ld1,ix2,ld2,ix3,ld3,v1a]
    exact hK _ _ (by rw [hvf]; rfl)
  have v1a : ¬ ((d1.toNat : Int) < 128) := by omega
  by_cases hv1b : d1.toNat ≤ 191
  rotate_left
  · have v1b : (191 : Int) < d1.toNat := by omega
    have hvf : validU s = false := by
      rw [hk, if_neg]
      intro ha
      have := allOk_get ha (k := 0) (by omega)
      rw [okB_get k1] at this
      simp at this
      omega
    simp only [gX,gM,gL,gB,List.map_cons,List.map_nil,wantedA,evOp,opv,absC,absC0,isAggT,resA,resultA,binA,eqA,eqGuardA,isConstA,isFlatScalar,shiftOp,strOp,ordB,readN,sliceCells,lenA,storeA,newA,buildA,fillA,buildSliceA,boundsA,bndA,sliceA,ptrOK,fieldAddrA,fieldA,indexA,extractA,convA,isIntT,biA,bytesOf,setAll,List.replicate,List.cons.injEq,exists_eq_left',exists_eq_left,exists_eq_right',eq_self,Option.map_some,Option.map_none,Option.bind_some,Option.bind_none,Option.some.injEq,Prod.mk.injEq,Nat.reduceAdd,Nat.reduceSub,Nat.reduceMul,Nat.reduceLT,Nat.reduceLeDiff,Nat.reduceEqDiff,Int.reduceEq,Int.reduceLT,Int.reduceLE,Int.reduceNe,Int.reduceAdd,beq_self_eq_true,Option.bind_eq_bind,Option.pure_def,bind_pure_comp,Option.map_eq_map,decide_eq_true_eq,ne_eq,not_false_eq_true,not_true_eq_false,Nat.lt_irrefl,Nat.reduceBEq,if_true,if_false,ite_true,ite_false,reduceCtorEq,Bool.false_eq_true,lenB_nil,lenB_slice,lenB_oslice,lenB_str,lenB_agg,indexAddrA_slice,indexAddrA_oslice,indexAddrA_ptr,indexAddrA_optr,loadA_ptr,lenK,indexK,loadK,Option.toList_some,Option.toList_none,Int.reduceBEq,Int.reduceBNe,Int.reduceMod,Int.reduceDiv,Int.reduceTDiv,Int.reduceTMod,Int.reduceFDiv,Int.reduceSub,Int.reduceNeg,Int.reduceGT,Int.reduceGE,BitVec.reduceOfInt,BitVec.reduceAnd,BitVec.reduceOr,BitVec.reduceXOr,BitVec.reduceToNat,Int.cast_ofNat_Int,Int.reduceToNat,Int.reducePow,Nat.min_eq_left,Int.reduceMul,List.mapM_cons,List.mapM_nil,hT.all,body71,loopB,Tryd.f71,ln,g1,ix0,ld0,g4,w1,hi0,hi1,Int.toNat_natCast,hX,hA,hz,hz2,hsh,v0,ix1,ld1,ix2,ld2,ix3,ld3,v1a,v1b]
    exact hK _ _ (by rw [hvf]; rfl)
  have v1b : ¬ ((191 : Int) < d1.toNat) := by omega
  by_cases hv2a : 128 ≤ d2.toNat
  rotate_left
  · have v2a : (d2.toNat : Int) < 128 := by omega
    have hvf : validU s = false := by
      rw [hk, if_neg]
      intro ha
      have := allOk_get ha (k := 1) (by omega)
      rw [okB_get k2] at this
      simp at this
      omega
    simp only [gX,gM,gL,gB,List.map_cons,List.map_nil,wantedA,evOp,opv,absC,absC0,isAggT,resA,resultA,binA,eqA,eqGuardA,isConstA,isFlatScalar,shiftOp,strOp,ordB,readN,sliceCells,lenA,storeA,newA,buildA,fillA,buildSliceA,boundsA,bndA,sliceA,ptrOK,fieldAddrA,fieldA,indexA,extractA,convA,isIntT,biA,bytesOf,setAll,List.replicate,List.cons.injEq,exists_eq_left',exists_eq_left,exists_eq_right',eq_self,Option.map_some,Option.map_none,Option.bind_some,Option.bind_none,Option.some.injEq,Prod.mk.injEq,Nat.reduceAdd,Nat.reduceSub,Nat.reduceMul,Nat.reduceLT,Nat.reduceLeDiff,Nat.reduceEqDiff,Int.reduceEq,Int.reduceLT,Int.reduceLE,Int.reduceNe,Int.reduceAdd,beq_self_eq_true,Option.bind_eq_bind,Option.pure_def,bind_pure_comp,Option.map_eq_map,decide_eq_true_eq,ne_eq,not_false_eq_true,not_true_eq_false,Nat.lt_irrefl,Nat.reduceBEq,if_true,if_false,ite_true,ite_false,reduceCtorEq,Bool.false_eq_true,lenB_nil,lenB_slice,lenB_oslice,lenB_str,lenB_agg,indexAddrA_slice,indexAddrA_oslice,indexAddrA_ptr,indexAddrA_optr,loadA_ptr,lenK,indexK,loadK,Option.toList_some,Option.toList_none,Int.reduceBEq,Int.reduceBNe,Int.reduceMod,Int.reduceDiv,Int.reduceTDiv,Int.reduceTMod,Int.reduceFDiv,Int.reduceSub,Int.reduceNeg,Int.reduceGT,Int.reduceGE,BitVec.reduceOfInt,BitVec.reduceAnd,BitVec.reduceOr,BitVec.reduceXOr,BitVec.reduceToNat,Int.cast_ofNat_Int,Int.reduceToNat,Int.reducePow,Nat.min_eq_left,Int.reduceMul,List.mapM_cons,List.mapM_nil,hT.all,body71,loopB,Tryd.f71,ln,g1,ix0,ld0,g4,w1,hi0,hi1,Int.toNat_natCast,hX,hA,hz,hz2,hsh,v0,ix1,ld1,ix2,ld2,ix3,ld3,v1a,v1b,v2a]
    exact hK _ _ (by rw [hvf]; rfl)
  have v2a : ¬ ((d2.toNat : Int) < 128) := by omega
  by_cases hv2b : d2.toNat ≤ 191
  rotate_left
  · have v2b : (191 : Int) < d2.toNat := by omega
    have hvf : validU s = false := by
      rw [hk, if_neg]
      intro ha
      have := allOk_get ha (k := 1) (by omega)
      rw [okB_get k2] at this
      simp at this
      omega
    simp only [gX,gM,gL,gB,List.map_cons,List.map_nil,wantedA,evOp,opv,absC,absC0,isAggT,resA,resultA,binA,eqA,eqGuardA,isConstA,isFlatScalar,shiftOp,strOp,ordB,readN,sliceCells,lenA,storeA,newA,buildA,fillA,buildSliceA,boundsA,bndA,sliceA,ptrOK,fieldAddrA,fieldA,indexA,extractA,convA,isIntT,biA,bytesOf,setAll,List.replicate,List.cons.injEq,exists_eq_left',exists_eq_left,exists_eq_right',eq_self,Option.map_some,Option.map_none,Option.bind_some,Option.bind_none,Option.some.injEq,Prod.mk.injEq,Nat.reduceAdd,Nat.reduceSub,Nat.reduceMul,Nat.reduceLT,Nat.reduceLeDiff,Nat.reduceEqDiff,Int.reduceEq,Int.reduceLT,Int.reduceLE,Int.reduceNe,Int.reduceAdd,beq_self_eq_true,Option.bind_eq_bind,Option.pure_def,bind_pure_comp,Option.map_eq_map,decide_eq_true_eq,ne_eq,not_false_eq_true,not_true_eq_false,Nat.lt_irrefl,Nat.reduceBEq,if_true,if_false,ite_true,ite_false,reduceCtorEq,Bool.false_eq_true,lenB_nil,lenB_slice,lenB_oslice,lenB_str,lenB_agg,indexAddrA_slice,indexAddrA_oslice,indexAddrA_ptr,indexAddrA_optr,loadA_ptr,lenK,indexK,loadK,Option.toList_some,Option.toList_none,Int.reduceBEq,Int.reduceBNe,Int.reduceMod,Int.reduceDiv,Int.reduceTDiv,Int.reduceTMod,Int.reduceFDiv,Int.reduceSub,Int.reduceNeg,Int.reduceGT,Int.reduceGE,BitVec.reduceOfInt,BitVec.reduceAnd,BitVec.reduceOr,BitVec.reduceXOr,BitVec.reduceToNat,Int.cast_ofNat_Int,Int.reduceToNat,Int.reducePow,Nat.min_eq_left,Int.reduceMul,List.mapM_cons,List.mapM_nil,hT.all,body71,loopB,Tryd.f71,ln,g1,ix0,ld0,g4,w1,hi0,hi1,Int.toNat_natCast,hX,hA,hz,hz2,hsh,v0,ix1,ld1,ix2,ld2,ix3,ld3,v1a,v1b,v2a,v2b]
    exact hK _ _ (by rw [hvf]; rfl)
  have v2b : ¬ ((191 : Int) < d2.toNat) := by omega
  by_cases hv3a : 128 ≤ d3.toNat
  rotate_left
  · have v3a : (d3.toNat : Int) < 128 := by omega
    have hvf : validU s = false := by
      rw [hk, if_neg]
      intro ha
      have := allOk_get ha (k := 2) (by omega)
      rw [okB_get k3] at this
      simp at this
      omega
    simp only [gX,gM,gL,gB,List.map_cons,List.map_nil,wantedA,evOp,opv,absC,absC0,isAggT,resA,resultA,binA,eqA,eqGuardA,isConstA,isFlatScalar,shiftOp,strOp,ordB,readN,sliceCells,lenA,storeA,newA,buildA,fillA,buildSliceA,boundsA,bndA,sliceA,ptrOK,fieldAddrA,fieldA,indexA,extractA,convA,isIntT,biA,bytesOf,setAll,List.replicate,List.cons.injEq,exists_eq_left',exists_eq_left,exists_eq_right',eq_self,Option.map_some,Option.map_none,Option.bind_some,Option.bind_none,Option.some.injEq,Prod.mk.injEq,Nat.reduceAdd,Nat.reduceSub,Nat.reduceMul,Nat.reduceLT,Nat.reduceLeDiff,Nat.reduceEqDiff,Int.reduceEq,Int.reduceLT,Int.reduceLE,Int.reduceNe,Int.reduceAdd,beq_self_eq_true,Option.bind_eq_bind,Option.pure_def,bind_pure_comp,Option.map_eq_map,decide_eq_true_eq,ne_eq,not_false_eq_true,not_true_eq_false,Nat.lt_irrefl,Nat.reduceBEq,if_true,if_false,ite_true,ite_false,reduceCtorEq,Bool.false_eq_true,lenB_nil,lenB_slice,lenB_oslice,lenB_str,lenB_agg,indexAddrA_slice,indexAddrA_oslice,indexAddrA_ptr,indexAddrA_optr,loadA_ptr,lenK,indexK,loadK,Option.toList_some,Option.toList_none,Int.reduceBEq,Int.reduceBNe,Int.reduceMod,Int.reduceDiv,Int.reduceTDiv,Int.reduceTMod,Int.reduceFDiv,Int.reduceSub,Int.reduceNeg,Int.reduceGT,Int.reduceGE,BitVec.reduceOfInt,BitVec.reduceAnd,BitVec.reduceOr,BitVec.reduceXOr,BitVec.reduceToNat,Int.cast_ofNat_Int,Int.reduceToNat,Int.reducePow,Nat.min_eq_left,Int.reduceMul,List.mapM_cons,List.mapM_nil,hT.all,body71,loopB,Tryd.f71,ln,g1,ix0,ld0,g4,w1,hi0,hi1,Int.toNat_natCast,hX,hA,hz,hz2,hsh,v0,ix1,ld1,ix2,ld2,ix3,ld3,v1a,v1b,v2a,v2b,v3a]
    exact hK _ _ (by rw [hvf]; rfl)
  have v3a : ¬ ((d3.toNat : Int) < 128) := by omega
  by_cases hv3b : d3.toNat ≤ 191
  rotate_left
  · have v3b : (191 : Int) < d3.toNat := by omega
    have hvf : validU s = false := by
      rw [hk, if_neg]
      intro ha
      have := allOk_get ha (k := 2) (by omega)
      rw [okB_get k3] at this
      simp at this
      omega
    simp only [gX,gM,gL,gB,List.map_cons,List.map_nil,wantedA,evOp,opv,absC,absC0,isAggT,resA,resultA,binA,eqA,eqGuardA,isConstA,isFlatScalar,shiftOp,strOp,ordB,readN,sliceCells,lenA,storeA,newA,buildA,fillA,buildSliceA,boundsA,bndA,sliceA,ptrOK,fieldAddrA,fieldA,indexA,extractA,convA,isIntT,biA,bytesOf,setAll,List.replicate,List.cons.injEq,exists_eq_left',exists_eq_left,exists_eq_right',eq_self,Option.map_some,Option.map_none,Option.bind_some,Option.bind_none,Option.some.injEq,Prod.mk.injEq,Nat.reduceAdd,Nat.reduceSub,Nat.reduceMul,Nat.reduceLT,Nat.reduceLeDiff,Nat.reduceEqDiff,Int.reduceEq,Int.reduceLT,Int.reduceLE,Int.reduceNe,Int.reduceAdd,beq_self_eq_true,Option.bind_eq_bind,Option.pure_def,bind_pure_comp,Option.map_eq_map,decide_eq_true_eq,ne_eq,not_false_eq_true,not_true_eq_false,Nat.lt_irrefl,Nat.reduceBEq,if_true,if_false,ite_true,ite_false,reduceCtorEq,Bool.false_eq_true,lenB_nil,lenB_slice,lenB_oslice,lenB_str,lenB_agg,indexAddrA_slice,indexAddrA_oslice,indexAddrA_ptr,indexAddrA_optr,loadA_ptr,lenK,indexK,loadK,Option.toList_some,Option.toList_none,Int.reduceBEq,Int.reduceBNe,Int.reduceMod,Int.reduceDiv,Int.reduceTDiv,Int.reduceTMod,Int.reduceFDiv,Int.reduceSub,Int.reduceNeg,Int.reduceGT,Int.reduceGE,BitVec.reduceOfInt,BitVec.reduceAnd,BitVec.reduceOr,BitVec.reduceXOr,BitVec.reduceToNat,Int.cast_ofNat_Int,Int.reduceToNat,Int.reducePow,Nat.min_eq_left,Int.reduceMul,List.mapM_cons,List.mapM_nil,hT.all,body71,loopB,Tryd.f71,ln,g1,ix0,ld0,g4,w1,hi0,hi1,Int.toNat_natCast,hX,hA,hz,hz2,hsh,v0,ix1,ld1,ix2,ld2,ix3,ld3,v1a,v1b,v2a,v2b,v3a,v3b]
    exact hK _ _ (by rw [hvf]; rfl)
  have v3b : ¬ ((191 : Int) < d3.toNat) := by omega
  obtain ⟨tv, sl', htv⟩ := hw.tail hT (k := 4) (by omega)
  have sl : ∀ H, sliceA T H 24 w (some (.int .i64 4)) none none = some tv := sl'
  have ha : allOk t 3 128 191 = true := allOk_mk fun k' hk' => by
    have : k' = 0 ∨ k' = 1 ∨ k' = 2 := by omega
    rcases this with rfl | rfl | rfl
    · rw [okB_get k1]; simp; omega
    · rw [okB_get k2]; simp; omega
    · rw [okB_get k3]; simp; omega
  rw [ha, if_pos rfl] at hk
  simp only [gX,gM,gL,gB,List.map_cons,List.map_nil,wantedA,evOp,opv,absC,absC0,isAggT,resA,resultA,binA,eqA,eqGuardA,isConstA,isFlatScalar,shiftOp,strOp,ordB,readN,sliceCells,lenA,storeA,newA,buildA,fillA,buildSliceA,boundsA,bndA,ptrOK,fieldAddrA,fieldA,indexA,extractA,convA,isIntT,biA,bytesOf,setAll,List.replicate,List.cons.injEq,exists_eq_left',exists_eq_left,exists_eq_right',eq_self,Option.map_some,Option.map_none,Option.bind_some,Option.bind_none,Option.some.injEq,Prod.mk.injEq,Nat.reduceAdd,Nat.reduceSub,Nat.reduceMul,Nat.reduceLT,Nat.reduceLeDiff,Nat.reduceEqDiff,Int.reduceEq,Int.reduceLT,Int.reduceLE,Int.reduceNe,Int.reduceAdd,beq_self_eq_true,Option.bind_eq_bind,Option.pure_def,bind_pure_comp,Option.map_eq_map,decide_eq_true_eq,ne_eq,not_false_eq_true,not_true_eq_false,Nat.lt_irrefl,Nat.reduceBEq,if_true,if_false,ite_true,ite_false,reduceCtorEq,Bool.false_eq_true,lenB_nil,lenB_slice,lenB_oslice,lenB_str,lenB_agg,indexAddrA_slice,indexAddrA_oslice,indexAddrA_ptr,indexAddrA_optr,loadA_ptr,lenK,indexK,loadK,Option.toList_some,Option.toList_none,Int.reduceBEq,Int.reduceBNe,Int.reduceMod,Int.reduceDiv,Int.reduceTDiv,Int.reduceTMod,Int.reduceFDiv,Int.reduceSub,Int.reduceNeg,Int.reduceGT,Int.reduceGE,BitVec.reduceOfInt,BitVec.reduceAnd,BitVec.reduceOr,BitVec.reduceXOr,BitVec.reduceToNat,Int.cast_ofNat_Int,Int.reduceToNat,Int.reducePow,Nat.min_eq_left,Int.reduceMul,List.mapM_cons,List.mapM_nil,hT.all,body71,loopB,Tryd.f71,ln,g1,ix0,ld0,g4,w1,hi0,hi1,Int.toNat_natCast,hX,hA,hz,hz2,hsh,v0,ix1,ld1,ix2,ld2,ix3,ld3,v1a,v1b,v2a,v2b,v3a,v3b,sl]
  exact hJ tv (t.drop 4) _ _ rfl (by simp; omega) hk.symm htv

theorem round_h (M : Addr → Option AV) (hM : ∀ a v, tabM a = some v → M a = some v) {C : CallX} {L : LoopX} {T : Tab} (hT : Ty T) (hS : Wk Tryd.prog T M C L) (s t : List UInt8) (w : AV) (hw : OBy M w t) (g : Nat → AV) (h : Heap) (K : Out → List AV → Heap → Prop) (J : List AV → Heap → Prop) (hv : validU t = validU s) (hlt : 0 < t.length) (hts : t.length < 1000000000000000000) (c : Nat) (hc : c = t[0].toNat) (hcc : c = 244)
    (hJ : ∀ (w' : AV) (t' : List UInt8) (j : List AV) (h' : Heap), j.length = 185 → t'.length < t.length → validU t' = validU s → OBy M w' t' → J (w' :: .tup [] :: .bool false :: j) h')
    (hK : ∀ (e : List AV) (h : Heap), e.getD 2 (.tup []) = .bool (validU s) → K .ret e h) :
    xC C L T M body71 (w :: .tup [] :: .bool false :: [g 0, g 1, g 2, g 3, g 4, g 5, g 6, g 7, g 8, g 9, g 10, g 11, g 12, g 13, g 14, g 15, g 16, g 17, g 18, g 19, g 20, g 21, g 22, g 23, g 24, g 25, g 26, g 27, g 28, g 29, g 30, g 31, g 32, g 33, g 34, g 35, g 36, g 37, g 38, g 39, g 40, g 41, g 42, g 43, g 44, g 45, g 46, g 47, g 48, g 49, g 50, g 51, g 52, g 53, g 54, g 55, g 56, g 57, g 58, g 59, g 60, g 61, g 62, g 63, g 64, g 65, g 66, g 67, g 68, g 69, g 70, g 71, g 72, g 73, g 74, g 75, g 76, g 77, g 78, g 79, g 80, g 81, g 82, g 83, g 84, g 85, g 86, g 87, g 88, g 89, g 90, g 91, g 92, g 93, g 94, g 95, g 96, g 97, g 98, g 99, g 100, g 101, g 102, g 103, g 104, g 105, g 106, g 107, g 108, g 109, g 110, g 111, g 112, g 113, g 114, g 115, g 116, g 117, g 118, g 119, g 120, g 121, g 122, g 123, g 124, g 125, g 126, g 127, g 128, g 129, g 130, g 131, g 132, g 133, g 134, g 135, g 136, g 137, g 138, g 139, g 140, g 141, g 142, g 143, g 144, g 145, g 146, g 147, g 148, g 149, g 150, g 151, g 152, g 153, g 154, g 155, g 156, g 157, g 158, g 159, g 160, g 161, g 162, g 163, g 164, g 165, g 166, g 167, g 168, g 169, g 170, g 171, g 172, g 173, g 174, g 175, g 176, g 177, g 178, g 179, g 180, g 181, g 182, g 183, g 184]) h (fun o e' h' => match o with | .normal => J e' h' | .exit i => K (.exit i) e' h' | .ret => K .ret e' h') .mk := by
  have ln := hw.len hT
  have g1 : (t.length : Int) > 0 := by omega
  have g3 : t[0]? = some t[0] := List.getElem?_eq_getElem hlt
  have ix0 : ∀ H, indexAddrA T H 24 w (.int .i64 0) = some (placeA w 0 1) := hw.idx hT g3
  have ld0 := hw.ld hT g3
  have hd : t = t[0] :: t.drop 1 := (List.drop_eq_getElem_cons hlt)
  have hne : t ≠ [] := by intro h0; rw [h0] at hlt; simp at hlt
  have hc256 : c < 256 := by have := t[0].toNat_lt; omega
  have g4 : (t[0].toNat : Int) = (c : Int) := by rw [hc]
  have key : ∀ n lo hi : Nat, ((c < 128 ∧ n = 0) ∨ (128 ≤ c ∧ classU c = (n + 1, lo, hi) ∧ 1 ≤ n ∧ n ≤ 3)) → validU s = if allOk t n lo hi then validU (t.drop (n + 1)) else false := fun n lo hi h => by
    rw [← hv, validU_cons hne, seqLen_class hd (by rw [← hc]; exact h)]
    cases allOk t n lo hi with
    | true => simp
    | false => simp
  have w1 : ¬ ((c : Int) < 128) := by omega
  have hi0 : (0 : Int) ≤ c := by omega
  have hi1 : (c : Int) < 256 := by omega
  have hX := fun H => first_load hT hM H c 68 (first_h c hc256 hcc)
  have hA := fun H => accept_load hT hM H 8 128 143 rfl rfl
  have hz : IntKind.u8.wrap 4 = 4 := by decide
  have hz2 : IntKind.i64.wrap 4 = 4 := by decide
  have hsh : (68 : Int).fdiv 16 = 4 := by decide
  have hk := key 3 128 143 (.inr ⟨by omega, class_h c hcc, by omega, by omega⟩)
  by_cases hl : t.length < 4
  · have v0 : (t.length : Int) < 4 := by omega
    have hvf : validU s = false := by
      rw [hk, if_neg]
      intro ha
      have := allOk_get ha (k := 2) (by omega)
      unfold okB at this
      rw [List.getElem?_eq_none (by omega)] at this
      cases this
    simp only [gX,gM,gL,gB,List.map_cons,List.map_nil,wantedA,evOp,opv,absC,absC0,isAggT,resA,resultA,binA,eqA,eqGuardA,isConstA,isFlatScalar,shiftOp,strOp,ordB,readN,sliceCells,lenA,storeA,newA,buildA,fillA,buildSliceA,boundsA,bndA,sliceA,ptrOK,fieldAddrA,fieldA,indexA,extractA,convA,isIntT,biA,bytesOf,setAll,List.replicate,List.cons.injEq,exists_eq_left',exists_eq_left,exists_eq_right',eq_self,Option.map_some,Option.map_none,Option.bind_some,Option.bind_none,Option.some.injEq,Prod.mk.injEq,Nat.reduceAdd,Nat.reduceSub,Nat.reduceMul,Nat.reduceLT,Nat.reduceLeDiff,Nat.reduceEqDiff,Int.reduceEq,Int.reduceLT,Int.reduceLE,Int.reduceNe,Int.reduceAdd,beq_self_eq_true,Option.bind_eq_bind,Option.pure_def,bind_pure_comp,Option.map_eq_map,decide_eq_true_eq,ne_eq,not_false_eq_true,not_true_eq_false,Nat.lt_irrefl,Nat.reduceBEq,if_true,if_false,ite_true,ite_false,reduceCtorEq,Bool.false_eq_true,lenB_nil,lenB_slice,lenB_oslice,lenB_str,lenB_agg,indexAddrA_slice,indexAddrA_oslice,indexAddrA_ptr,indexAddrA_optr,loadA_ptr,lenK,indexK,loadK,Option.toList_some,Option.toList_none,Int.reduceBEq,Int.reduceBNe,Int.reduceMod,Int.reduceDiv,Int.reduceTDiv,Int.reduceTMod,Int.reduceFDiv,Int.reduceSub,Int.reduceNeg,Int.reduceGT,Int.reduceGE,BitVec.reduceOfInt,BitVec.reduceAnd,BitVec.reduceOr,BitVec.reduceXOr,BitVec.reduceToNat,Int.cast_ofNat_Int,Int.reduceToNat,Int.reducePow,Nat.min_eq_left,Int.reduceMul,List.mapM_cons,List.mapM_nil,hT.all,body71,loopB,Tryd.f71,ln,g1,ix0,ld0,g4,w1,hi0,hi1,Int.toNat_natCast,hX,hA,hz,hz2,hsh,v0]
    exact hK _ _ (by rw [hvf]; rfl)
  have v0 : ¬ ((t.length : Int) < 4) := by omega
  obtain ⟨d1, k1⟩ := drop_get (s := t) (n := 1) (by omega)
  have ix1 : ∀ H, indexAddrA T H 24 w (.int .i64 1) = some (placeA w 1 1) := hw.idx hT k1
  have ld1 := hw.ld hT k1
  obtain ⟨d2, k2⟩ := drop_get (s := t) (n := 2) (by omega)
  have ix2 : ∀ H, indexAddrA T H 24 w (.int .i64 2) = some (placeA w 2 1) := hw.idx hT k2
  have ld2 := hw.ld hT k2
  obtain ⟨d3, k3⟩ := drop_get (s := t) (n := 3) (by omega)
  have ix3 : ∀ H, indexAddrA T H 24 w (.int .i64 3) = some (placeA w 3 1) := hw.idx hT k3
  have ld3 := hw.ld hT k3
  by_cases hv1a : 128 ≤ d1.toNat
  rotate_left
  · have v1a : (d1.toNat : Int) < 128 := by omega
    have hvf : validU s = false := by
      rw [hk, if_neg]
      intro ha
      have := allOk_get ha (k := 0) (by omega)
      rw [okB_get k1] at this
      simp at this
      omega
    simp only [gX,gM,gL,gB,List.map_cons,List.map_nil,wantedA,evOp,opv,absC,absC0,isAggT,resA,resultA,binA,eqA,eqGuardA,isConstA,isFlatScalar,shiftOp,strOp,ordB,readN,sliceCells,lenA,storeA,newA,buildA,fillA,buildSliceA,boundsA,bndA,sliceA,ptrOK,fieldAddrA,fieldA,indexA,extractA,convA,isIntT,biA,bytesOf,setAll,List.replicate,List.cons.injEq,exists_eq_left',exists_eq_left,exists_eq_right',eq_self,Option.map_some,Option.map_none,Option.bind_some,Option.bind_none,Option.some.injEq,Prod.mk.injEq,Nat.reduceAdd,Nat.reduceSub,Nat.reduceMul,Nat.reduceLT,Nat.reduceLeDiff,Nat.reduceEqDiff,Int.reduceEq,Int.reduceLT,Int.reduceLE,Int.reduceNe,Int.reduceAdd,beq_self_eq_true,Option.bind_eq_bind,Option.pure_def,bind_pure_comp,Option.map_eq_map,decide_eq_true_eq,ne_eq,not_false_eq_true,not_true_eq_false,Nat.lt_irrefl,Nat.reduceBEq,if_true,if_false,ite_true,ite_false,reduceCtorEq,Bool.false_eq_true,lenB_nil,lenB_slice,lenB_oslice,lenB_str,lenB_agg,indexAddrA_slice,indexAddrA_oslice,indexAddrA_ptr,indexAddrA_optr,loadA_ptr,lenK,indexK,loadK,Option.toList_some,Option.toList_none,Int.reduceBEq,Int.reduceBNe,Int.reduceMod,Int.reduceDiv,Int.reduceTDiv,Int.reduceTMod,Int.reduceFDiv,Int.reduceSub,Int.reduceNeg,Int.reduceGT,Int.reduceGE,BitVec.reduceOfInt,BitVec.reduceAnd,BitVec.reduceOr,BitVec.reduceXOr,BitVec.reduceToNat,Int.cast_ofNat_Int,Int.reduceToNat,Int.reducePow,Nat.min_eq_left,Int.reduceMul,List.mapM_cons,List.mapM_nil,hT.all,body71,loopB,Tryd.f71,ln,g1,ix0,ld0,g4,w1,hi0,hi1,Int.toNat_natCast,hX,hA,hz,hz2,hsh,v0,ix1,ld1,ix2,ld2,ix3,ld3,v1a]
    exact hK _ _ (by rw [hvf]; rfl)
  have v1a : ¬ ((d1.toNat : Int) < 128) := by omega
  by_cases hv1b : d1.toNat ≤ 143
  rotate_left
  · have v1b : (143 : Int) < d1.toNat := by omega
    have hvf : validU s = false := by
      rw [hk, if_neg]
      intro ha
      have := allOk_get ha (k := 0) (by omega)
      rw [okB_get k1] at this
      simp at this
      omega
    simp only [gX,gM,gL,gB,List.map_cons,List.map_nil,wantedA,evOp,opv,absC,absC0,isAggT,resA,resultA,binA,eqA,eqGuardA,isConstA,isFlatScalar,shiftOp,strOp,ordB,readN,sliceCells,lenA,storeA,newA,buildA,fillA,buildSliceA,boundsA,bndA,sliceA,ptrOK,fieldAddrA,fieldA,indexA,extractA,convA,isIntT,biA,bytesOf,setAll,List.replicate,List.cons.injEq,exists_eq_left',exists_eq_left,exists_eq_right',eq_self,Option.map_some,Option.map_none,Option.bind_some,Option.bind_none,Option.some.injEq,Prod.mk.injEq,Nat.reduceAdd,Nat.reduceSub,Nat.reduceMul,Nat.reduceLT,Nat.reduceLeDiff,Nat.reduceEqDiff,Int.reduceEq,Int.reduceLT,Int.reduceLE,Int.reduceNe,Int.reduceAdd,beq_self_eq_true,Option.bind_eq_bind,Option.pure_def,bind_pure_comp,Option.map_eq_map,decide_eq_true_eq,ne_eq,not_false_eq_true,not_true_eq_false,Nat.lt_irrefl,Nat.reduceBEq,if_true,if_false,ite_true,ite_false,reduceCtorEq,Bool.false_eq_true,lenB_nil,lenB_slice,lenB_oslice,lenB_str,lenB_agg,indexAddrA_slice,indexAddrA_oslice,indexAddrA_ptr,indexAddrA_optr,loadA_ptr,lenK,indexK,loadK,Option.toList_some,Option.toList_none,Int.reduceBEq,Int.reduceBNe,Int.reduceMod,Int.reduceDiv,Int.reduceTDiv,Int.reduceTMod,Int.reduceFDiv,Int.reduceSub,Int.reduceNeg,Int.reduceGT,Int.reduceGE,BitVec.reduceOfInt,BitVec.reduceAnd,BitVec.reduceOr,BitVec.reduceXOr,BitVec.reduceToNat,Int.cast_ofNat_Int,Int.reduceToNat,Int.reducePow,Nat.min_eq_left,Int.reduceMul,List.mapM_cons,List.mapM_nil,hT.all,body71,loopB,Tryd.f71,ln,g1,ix0,ld0,g4,w1,hi0,hi1,Int.toNat_natCast,hX,hA,hz,hz2,hsh,v0,ix1,ld1,ix2,ld2,ix3,ld3,v1a,v1b]
    exact hK _ _ (by rw [hvf]; rfl)
  have v1b : ¬ ((143 : Int) < d1.toNat) := by omega
  by_cases hv2a : 128 ≤ d2.toNat
  rotate_left
  · have v2a : (d2.toNat : Int) < 128 := by omega
    have hvf : validU s = false := by
      rw [hk, if_neg]
      intro ha
      have := allOk_get ha (k := 1) (by omega)
      rw [okB_get k2] at this
      simp at this
      omega
    simp only [gX,gM,gL,gB,List.map_cons,List.map_nil,wantedA,evOp,opv,absC,absC0,isAggT,resA,resultA,binA,eqA,eqGuardA,isConstA,isFlatScalar,shiftOp,strOp,ordB,readN,sliceCells,lenA,storeA,newA,buildA,fillA,buildSliceA,boundsA,bndA,sliceA,ptrOK,fieldAddrA,fieldA,indexA,extractA,convA,isIntT,biA,bytesOf,setAll,List.replicate,List.cons.injEq,exists_eq_left',exists_eq_left,exists_eq_right',eq_self,Option.map_some,Option.map_none,Option.bind_some,Option.bind_none,Option.some.injEq,Prod.mk.injEq,Nat.reduceAdd,Nat.reduceSub,Nat.reduceMul,Nat.reduceLT,Nat.reduceLeDiff,Nat.reduceEqDiff,Int.reduceEq,Int.reduceLT,Int.reduceLE,Int.reduceNe,Int.reduceAdd,beq_self_eq_true,Option.bind_eq_bind,Option.pure_def,bind_pure_comp,Option.map_eq_map,decide_eq_true_eq,ne_eq,not_false_eq_true,not_true_eq_false,Nat.lt_irrefl,Nat.reduceBEq,if_true,if_false,ite_true,ite_false,reduceCtorEq,Bool.false_eq_true,lenB_nil,lenB_slice,lenB_oslice,lenB_str,lenB_agg,indexAddrA_slice,indexAddrA_oslice,indexAddrA_ptr,indexAddrA_optr,loadA_ptr,lenK,indexK,loadK,Option.toList_some,Option.toList_none,Int.reduceBEq,Int.reduceBNe,Int.reduceMod,Int.reduceDiv,Int.reduceTDiv,Int.reduceTMod,Int.reduceFDiv,Int.reduceSub,Int.reduceNeg,Int.reduceGT,Int.reduceGE,BitVec.reduceOfInt,BitVec.reduceAnd,BitVec.reduceOr,BitVec.reduceXOr,BitVec.reduceToNat,Int.cast_ofNat_Int,Int.reduceToNat,Int.reducePow,Nat.min_eq_left,Int.reduceMul,List.mapM_cons,List.mapM_nil,hT.all,body71,loopB,Tryd.f71,ln,g1,ix0,ld0,g4,w1,hi0,hi1,Int.toNat_natCast,hX,hA,hz,hz2,hsh,v0,ix1,ld1,ix2,ld2,ix3,ld3,v1a,v1b,v2a]
    exact hK _ _ (by rw [hvf]; rfl)
  have v2a : ¬ ((d2.toNat : Int) < 128) := by omega
  by_cases hv2b : d2.toNat ≤ 191
  rotate_left
  · have v2b : (191 : Int) < d2.toNat := by omega
    have hvf : validU s = false := by
      rw [hk, if_neg]
      intro ha
      have := allOk_get ha (k := 1) (by omega)
      rw [okB_get k2] at this
      simp at this
      omega
    simp only [gX,gM,gL,gB,List.map_cons,List.map_nil,wantedA,evOp,opv,absC,absC0,isAggT,resA,resultA,binA,eqA,eqGuardA,isConstA,isFlatScalar,shiftOp,strOp,ordB,readN,sliceCells,lenA,storeA,newA,buildA,fillA,buildSliceA,boundsA,bndA,sliceA,ptrOK,fieldAddrA,fieldA,indexA,extractA,convA,isIntT,biA,bytesOf,setAll,List.replicate,List.cons.injEq,exists_eq_left',exists_eq_left,exists_eq_right',eq_self,Option.map_some,Option.map_none,Option.bind_some,Option.bind_none,Option.some.injEq,Prod.mk.injEq,Nat.reduceAdd,Nat.reduceSub,Nat.reduceMul,Nat.reduceLT,Nat.reduceLeDiff,Nat.reduceEqDiff,Int.reduceEq,Int.reduceLT,Int.reduceLE,Int.reduceNe,Int.reduceAdd,beq_self_eq_true,Option.bind_eq_bind,Option.pure_def,bind_pure_comp,Option.map_eq_map,decide_eq_true_eq,ne_eq,not_false_eq_true,not_true_eq_false,Nat.lt_irrefl,Nat.reduceBEq,if_true,if_false,ite_true,ite_false,reduceCtorEq,Bool.false_eq_true,lenB_nil,lenB_slice,lenB_oslice,lenB_str,lenB_agg,indexAddrA_slice,indexAddrA_oslice,indexAddrA_ptr,indexAddrA_optr,loadA_ptr,lenK,indexK,loadK,Option.toList_some,Option.toList_none,Int.reduceBEq,Int.reduceBNe,Int.reduceMod,Int.reduceDiv,Int.reduceTDiv,Int.reduceTMod,Int.reduceFDiv,Int.reduceSub,Int.reduceNeg,Int.reduceGT,Int.reduceGE,BitVec.reduceOfInt,BitVec.reduceAnd,BitVec.reduceOr,BitVec.reduceXOr,BitVec.reduceToNat,Int.cast_ofNat_Int,Int.reduceToNat,Int.reducePow,Nat.min_eq_left,Int.reduceMul,List.mapM_cons,List.mapM_nil,hT.all,body71,loopB,Tryd.f71,ln,g1,ix0,ld0,g4,w1,hi0,hi1,Int.toNat_natCast,hX,hA,hz,hz2,hsh,v0,ix1,ld1,ix2,ld2,ix3,ld3,v1a,v1b,v2a,v2b]
    exact hK _ _ (by rw [hvf]; rfl)
  have v2b : ¬ ((191 : Int) < d2.toNat) := by omega
  by_cases hv3a : 128 ≤ d3.toNat
  rotate_left
  · have v3a : (d3.toNat : Int) < 128 := by omega
    have hvf : validU s = false := by
      rw [hk, if_neg]
      intro ha
      have := allOk_get ha (k := 2) (by omega)
      rw [okB_get k3] at this
      simp at this
      omega
    simp only [gX,gM,gL,gB,List.map_cons,List.map_nil,wantedA,evOp,opv,absC,absC0,isAggT,resA,resultA,binA,eqA,eqGuardA,isConstA,isFlatScalar,shiftOp,strOp,ordB,readN,sliceCells,lenA,storeA,newA,buildA,fillA,buildSliceA,boundsA,bndA,sliceA,ptrOK,fieldAddrA,fieldA,indexA,extractA,convA,isIntT,biA,bytesOf,setAll,List.replicate,List.cons.injEq,exists_eq_left',exists_eq_left,exists_eq_right',eq_self,Option.map_some,Option.map_none,Option.bind_some,Option.bind_none,Option.some.injEq,Prod.mk.injEq,Nat.reduceAdd,Nat.reduceSub,Nat.reduceMul,Nat.reduceLT,Nat.reduceLeDiff,Nat.reduceEqDiff,Int.reduceEq,Int.reduceLT,Int.reduceLE,Int.reduceNe,Int.reduceAdd,beq_self_eq_true,Option.bind_eq_bind,Option.pure_def,bind_pure_comp,Option.map_eq_map,decide_eq_true_eq,ne_eq,not_false_eq_true,not_true_eq_false,Nat.lt_irrefl,Nat.reduceBEq,if_true,if_false,ite_true,ite_false,reduceCtorEq,Bool.false_eq_true,lenB_nil,lenB_slice,lenB_oslice,lenB_str,lenB_agg,indexAddrA_slice,indexAddrA_oslice,indexAddrA_ptr,indexAddrA_optr,loadA_ptr,lenK,indexK,loadK,Option.toList_some,Option.toList_none,Int.reduceBEq,Int.reduceBNe,Int.reduceMod,Int.reduceDiv,Int.reduceTDiv,Int.reduceTMod,Int.reduceFDiv,Int.reduceSub,Int.reduceNeg,Int.reduceGT,Int.reduceGE,BitVec.reduceOfInt,BitVec.reduceAnd,BitVec.reduceOr,BitVec.reduceXOr,BitVec.reduceToNat,Int.cast_ofNat_Int,Int.reduceToNat,Int.reducePow,Nat.min_eq_left,Int.reduceMul,List.mapM_cons,List.mapM_nil,hT.all,body71,loopB,Tryd.f71,ln,g1,ix0,ld0,g4,w1,hi0,hi1,Int.toNat_natCast,hX,hA,hz,hz2,hsh,v0,ix1,ld1,ix2,ld2,ix3,ld3,v1a,v1b,v2a,v2b,v3a]
    exact hK _ _ (by rw [hvf]; rfl)
  have v3a : ¬ ((d3.toNat : Int) < 128) := by omega
  by_cases hv3b : d3.toNat ≤ 191
  rotate_left
  · have v3b : (191 : Int) < d3.toNat := by omega
    have hvf : validU s = false := by
      rw [hk, if_neg]
      intro ha
      have := allOk_get ha (k := 2) (by omega)
      rw [okB_get k3] at this
      simp at this
      omega
    simp only [gX,gM,gL,gB,List.map_cons,List.map_nil,wantedA,evOp,opv,absC,absC0,isAggT,resA,resultA,binA,eqA,eqGuardA,isConstA,isFlatScalar,shiftOp,strOp,ordB,readN,sliceCells,lenA,storeA,newA,buildA,fillA,buildSliceA,boundsA,bndA,sliceA,ptrOK,fieldAddrA,fieldA,indexA,extractA,convA,isIntT,biA,bytesOf,setAll,List.replicate,List.cons.injEq,exists_eq_left',exists_eq_left,exists_eq_right',eq_self,Option.map_some,Option.map_none,Option.bind_some,Option.bind_none,Option.some.injEq,Prod.mk.injEq,Nat.reduceAdd,Nat.reduceSub,Nat.reduceMul,Nat.reduceLT,Nat.reduceLeDiff,Nat.reduceEqDiff,Int.reduceEq,Int.reduceLT,Int.reduceLE,Int.reduceNe,Int.reduceAdd,beq_self_eq_true,Option.bind_eq_bind,Option.pure_def,bind_pure_comp,Option.map_eq_map,decide_eq_true_eq,ne_eq,not_false_eq_true,not_true_eq_false,Nat.lt_irrefl,Nat.reduceBEq,if_true,if_false,ite_true,ite_false,reduceCtorEq,Bool.false_eq_true,lenB_nil,lenB_slice,lenB_oslice,lenB_str,lenB_agg,indexAddrA_slice,indexAddrA_oslice,indexAddrA_ptr,indexAddrA_optr,loadA_ptr,lenK,indexK,loadK,Option.toList_some,Option.toList_none,Int.reduceBEq,Int.reduceBNe,Int.reduceMod,Int.reduceDiv,Int.reduceTDiv,Int.reduceTMod,Int.reduceFDiv,Int.reduceSub,Int.reduceNeg,Int.reduceGT,Int.reduceGE,BitVec.reduceOfInt,BitVec.reduceAnd,BitVec.reduceOr,BitVec.reduceXOr,BitVec.reduceToNat,Int.cast_ofNat_Int,Int.reduceToNat,Int.reducePow,Nat.min_eq_left,Int.reduceMul,List.mapM_cons,List.mapM_nil,hT.all,body71,loopB,Tryd.f71,ln,g1,ix0,ld0,g4,w1,hi0,hi1,Int.toNat_natCast,hX,hA,hz,hz2,hsh,v0,ix1,ld1,ix2,ld2,ix3,ld3,v1a,v1b,v2a,v2b,v3a,v3b]
    exact hK _ _ (by rw [hvf]; rfl)
  have v3b : ¬ ((191 : Int) < d3.toNat) := by omega
  obtain ⟨tv, sl', htv⟩ := hw.tail hT (k := 4) (by omega)
  have sl : ∀ H, sliceA T H 24 w (some (.int .i64 4)) none none = some tv := sl'
  have ha : allOk t 3 128 143 = true := allOk_mk fun k' hk' => by
    have : k' = 0 ∨ k' = 1 ∨ k' = 2 := by omega
    rcases this with rfl | rfl | rfl
    · rw [okB_get k1]; simp; omega
    · rw [okB_get k2]; simp; omega
    · rw [okB_get k3]; simp; omega
  rw [ha, if_pos rfl] at hk
  simp only [gX,gM,gL,gB,List.map_cons,List.map_nil,wantedA,evOp,opv,absC,absC0,isAggT,resA,resultA,binA,eqA,eqGuardA,isConstA,isFlatScalar,shiftOp,strOp,ordB,readN,sliceCells,lenA,storeA,newA,buildA,fillA,buildSliceA,boundsA,bndA,ptrOK,fieldAddrA,fieldA,indexA,extractA,convA,isIntT,biA,bytesOf,setAll,List.replicate,List.cons.injEq,exists_eq_left',exists_eq_left,exists_eq_right',eq_self,Option.map_some,Option.map_none,Option.bind_some,Option.bind_none,Option.some.injEq,Prod.mk.injEq,Nat.reduceAdd,Nat.reduceSub,Nat.reduceMul,Nat.reduceLT,Nat.reduceLeDiff,Nat.reduceEqDiff,Int.reduceEq,Int.reduceLT,Int.reduceLE,Int.reduceNe,Int.reduceAdd,beq_self_eq_true,Option.bind_eq_bind,Option.pure_def,bind_pure_comp,Option.map_eq_map,decide_eq_true_eq,ne_eq,not_false_eq_true,not_true_eq_false,Nat.lt_irrefl,Nat.reduceBEq,if_true,if_false,ite_true,ite_false,reduceCtorEq,Bool.false_eq_true,lenB_nil,lenB_slice,lenB_oslice,lenB_str,lenB_agg,indexAddrA_slice,indexAddrA_oslice,indexAddrA_ptr,indexAddrA_optr,loadA_ptr,lenK,indexK,loadK,Option.toList_some,Option.toList_none,Int.reduceBEq,Int.reduceBNe,Int.reduceMod,Int.reduceDiv,Int.reduceTDiv,Int.reduceTMod,Int.reduceFDiv,Int.reduceSub,Int.reduceNeg,Int.reduceGT,Int.reduceGE,BitVec.reduceOfInt,BitVec.reduceAnd,BitVec.reduceOr,BitVec.reduceXOr,BitVec.reduceToNat,Int.cast_ofNat_Int,Int.reduceToNat,Int.reducePow,Nat.min_eq_left,Int.reduceMul,List.mapM_cons,List.mapM_nil,hT.all,body71,loopB,Tryd.f71,ln,g1,ix0,ld0,g4,w1,hi0,hi1,Int.toNat_natCast,hX,hA,hz,hz2,hsh,v0,ix1,ld1,ix2,ld2,ix3,ld3,v1a,v1b,v2a,v2b,v3a,v3b,sl]
  exact hJ tv (t.drop 4) _ _ rfl (by simp; omega) hk.symm htv

theorem round_bad2 (M : Addr → Option AV) (hM : ∀ a v, tabM a = some v → M a = some v) {C : CallX} {L : LoopX} {T : Tab} (hT : Ty T) (hS : Wk Tryd.prog T M C L) (s t : List UInt8) (w : AV) (hw : OBy M w t) (g : Nat → AV) (h : Heap) (K : Out → List AV → Heap → Prop) (J : List AV → Heap → Prop) (hv : validU t = validU s) (hlt : 0 < t.length) (hts : t.length < 1000000000000000000) (c : Nat) (hc : c = t[0].toNat) (hcc : 245 ≤ c ∧ c < 256)
    (hJ : ∀ (w' : AV) (t' : List UInt8) (j : List AV) (h' : Heap), j.length = 185 → t'.length < t.length → validU t' = validU s → OBy M w' t' → J (w' :: .tup [] :: .bool false :: j) h')
    (hK : ∀ (e : List AV) (h : Heap), e.getD 2 (.tup []) = .bool (validU s) → K .ret e h) :
    xC C L T M body71 (w :: .tup [] :: .bool false :: [g 0, g 1, g 2, g 3, g 4, g 5, g 6, g 7, g 8, g 9, g 10, g 11, g 12, g 13, g 14, g 15, g 16, g 17, g 18, g 19, g 20, g 21, g 22, g 23, g 24, g 25, g 26, g 27, g 28, g 29, g 30, g 31, g 32, g 33, g 34, g 35, g 36, g 37, g 38, g 39, g 40, g 41, g 42, g 43, g 44, g 45, g 46, g 47, g 48, g 49, g 50, g 51, g 52, g 53, g 54, g 55, g 56, g 57, g 58, g 59, g 60, g 61, g 62, g 63, g 64, g 65, g 66, g 67, g 68, g 69, g 70, g 71, g 72, g 73, g 74, g 75, g 76, g 77, g 78, g 79, g 80, g 81, g 82, g 83, g 84, g 85, g 86, g 87, g 88, g 89, g 90, g 91, g 92, g 93, g 94, g 95, g 96, g 97, g 98, g 99, g 100, g 101, g 102, g 103, g 104, g 105, g 106, g 107, g 108, g 109, g 110, g 111, g 112, g 113, g 114, g 115, g 116, g 117, g 118, g 119, g 120, g 121, g 122, g 123, g 124, g 125, g 126, g 127, g 128, g 129, g 130, g 131, g 132, g 133, g 134, g 135, g 136, g 137, g 138, g 139, g 140, g 141, g 142, g 143, g 144, g 145, g 146, g 147, g 148, g 149, g 150, g 151, g 152, g 153, g 154, g 155, g 156, g 157, g 158, g 159, g 160, g 161, g 162, g 163, g 164, g 165, g 166, g 167, g 168, g 169, g 170, g 171, g 172, g 173, g 174, g 175, g 176, g 177, g 178, g 179, g 180, g 181, g 182, g 183, g 184]) h (fun o e' h' => match o with | .normal => J e' h' | .exit i => K (.exit i) e' h' | .ret => K .ret e' h') .mk := by
  have ln := hw.len hT
  have g1 : (t.length : Int) > 0 := by omega
  have g3 : t[0]? = some t[0] := List.getElem?_eq_getElem hlt
  have ix0 : ∀ H, indexAddrA T H 24 w (.int .i64 0) = some (placeA w 0 1) := hw.idx hT g3
  have ld0 := hw.ld hT g3
  have hd : t = t[0] :: t.drop 1 := (List.drop_eq_getElem_cons hlt)
  have hne : t ≠ [] := by intro h0; rw [h0] at hlt; simp at hlt
  have hc256 : c < 256 := by have := t[0].toNat_lt; omega
  have g4 : (t[0].toNat : Int) = (c : Int) := by rw [hc]
  have key : ∀ n lo hi : Nat, ((c < 128 ∧ n = 0) ∨ (128 ≤ c ∧ classU c = (n + 1, lo, hi) ∧ 1 ≤ n ∧ n ≤ 3)) → validU s = if allOk t n lo hi then validU (t.drop (n + 1)) else false := fun n lo hi h => by
    rw [← hv, validU_cons hne, seqLen_class hd (by rw [← hc]; exact h)]
    cases allOk t n lo hi with
    | true => simp
    | false => simp
  have w1 : ¬ ((c : Int) < 128) := by omega
  have hi0 : (0 : Int) ≤ c := by omega
  have hi1 : (c : Int) < 256 := by omega
  have hX := fun H => first_load hT hM H c 241 (first_bad2 c hc256 hcc)
  have hA := fun H => accept_load hT hM H 30 0 0 rfl rfl
  have hz : IntKind.u8.wrap 1 = 1 := by decide
  have hz2 : IntKind.i64.wrap 1 = 1 := by decide
  have hsh : (241 : Int).fdiv 16 = 15 := by decide
  simp only [gX,gM,gL,gB,List.map_cons,List.map_nil,wantedA,evOp,opv,absC,absC0,isAggT,resA,resultA,binA,eqA,eqGuardA,isConstA,isFlatScalar,shiftOp,strOp,ordB,readN,sliceCells,lenA,storeA,newA,buildA,fillA,buildSliceA,boundsA,bndA,sliceA,ptrOK,fieldAddrA,fieldA,indexA,extractA,convA,isIntT,biA,bytesOf,setAll,List.replicate,List.cons.injEq,exists_eq_left',exists_eq_left,exists_eq_right',eq_self,Option.map_some,Option.map_none,Option.bind_some,Option.bind_none,Option.some.injEq,Prod.mk.injEq,Nat.reduceAdd,Nat.reduceSub,Nat.reduceMul,Nat.reduceLT,Nat.reduceLeDiff,Nat.reduceEqDiff,Int.reduceEq,Int.reduceLT,Int.reduceLE,Int.reduceNe,Int.reduceAdd,beq_self_eq_true,Option.bind_eq_bind,Option.pure_def,bind_pure_comp,Option.map_eq_map,decide_eq_true_eq,ne_eq,not_false_eq_true,not_true_eq_false,Nat.lt_irrefl,Nat.reduceBEq,if_true,if_false,ite_true,ite_false,reduceCtorEq,Bool.false_eq_true,lenB_nil,lenB_slice,lenB_oslice,lenB_str,lenB_agg,indexAddrA_slice,indexAddrA_oslice,indexAddrA_ptr,indexAddrA_optr,loadA_ptr,lenK,indexK,loadK,Option.toList_some,Option.toList_none,Int.reduceBEq,Int.reduceBNe,Int.reduceMod,Int.reduceDiv,Int.reduceTDiv,Int.reduceTMod,Int.reduceFDiv,Int.reduceSub,Int.reduceNeg,Int.reduceGT,Int.reduceGE,BitVec.reduceOfInt,BitVec.reduceAnd,BitVec.reduceOr,BitVec.reduceXOr,BitVec.reduceToNat,Int.cast_ofNat_Int,Int.reduceToNat,Int.reducePow,Nat.min_eq_left,Int.reduceMul,List.mapM_cons,List.mapM_nil,hT.all,body71,loopB,Tryd.f71,ln,g1,ix0,ld0,g4,w1,hi0,hi1,Int.toNat_natCast,hX,hA,hz,hz2,hsh]
  have h0 : seqLen t = 0 := by
    rw [hd]
    unfold seqLen
    have h5 : ¬ c < 128 := by omega
    simp only [← hc, h5, if_false, class_bad2 c hcc]
  have hvf : validU s = false := by rw [← hv, validU_cons hne, if_pos h0]
  exact hK _ _ (by rw [hvf]; rfl)

theorem valid0 (M : Addr → Option AV) (hM : ∀ a v, tabM a = some v → M a = some v) (v : AV) (s : List UInt8) (hv0 : OBy M v s) (hs : s.length < 1000000000000000000) : SemF Tryd.prog M 71 [v] [] fun r _ => flat r = true ∧ r = .bool (validU s) := by
  refine fw Tryd.func71 (by kernel_rfl) rfl (by kernel_rfl) fun C L T hT hS => ?_
  obtain ⟨v1, hv1, ho1⟩ := full_slice hT hv0 hs
  have ln0 := hv0.len hT
  have main : ∀ (K : Out → List AV → Heap → Prop) (tg : Tag K) (j0 : List AV), j0.length = 185 → (∀ (e : List AV) (h : Heap), e.getD 2 (.tup []) = .bool (validU s) → K .ret e h) →
      (∀ (w : AV) (j : List AV) (h : Heap), j.length = 185 → validU s = true → K (.exit 0) (w :: .tup [] :: .bool false :: j) h) → L (.loop body71) (v1 :: .tup [] :: .bool false :: j0) [] K tg := by
    intro K tg j0 hj0 hK hX
    refine hS.loop (fun m e h => ∃ (w : AV) (t : List UInt8) (j : List AV), e = w :: .tup [] :: .bool false :: j ∧ j.length = 185 ∧ t.length = m ∧ m ≤ s.length ∧ validU t = validU s ∧ OBy M w t) s.length ⟨v1, s, _, rfl, hj0, rfl, by omega, rfl, ho1⟩ ?_
    rintro m e h ⟨w, t, j, rfl, hj, hm, hms, hv, hw⟩ J hJ
    obtain ⟨g, rfl⟩ : ∃ g : Nat → AV, j = [g 0, g 1, g 2, g 3, g 4, g 5, g 6, g 7, g 8, g 9, g 10, g 11, g 12, g 13, g 14, g 15, g 16, g 17, g 18, g 19, g 20, g 21, g 22, g 23, g 24, g 25, g 26, g 27, g 28, g 29, g 30, g 31, g 32, g 33, g 34, g 35, g 36, g 37, g 38, g 39, g 40, g 41, g 42, g 43, g 44, g 45, g 46, g 47, g 48, g 49, g 50, g 51, g 52, g 53, g 54, g 55, g 56, g 57, g 58, g 59, g 60, g 61, g 62, g 63, g 64, g 65, g 66, g 67, g 68, g 69, g 70, g 71, g 72, g 73, g 74, g 75, g 76, g 77, g 78, g 79, g 80, g 81, g 82, g 83, g 84, g 85, g 86, g 87, g 88, g 89, g 90, g 91, g 92, g 93, g 94, g 95, g 96, g 97, g 98, g 99, g 100, g 101, g 102, g 103, g 104, g 105, g 106, g 107, g 108, g 109, g 110, g 111, g 112, g 113, g 114, g 115, g 116, g 117, g 118, g 119, g 120, g 121, g 122, g 123, g 124, g 125, g 126, g 127, g 128, g 129, g 130, g 131, g 132, g 133, g 134, g 135, g 136, g 137, g 138, g 139, g 140, g 141, g 142, g 143, g 144, g 145, g 146, g 147, g 148, g 149, g 150, g 151, g 152, g 153, g 154, g 155, g 156, g 157, g 158, g 159, g 160, g 161, g 162, g 163, g 164, g 165, g 166, g 167, g 168, g 169, g 170, g 171, g 172, g 173, g 174, g 175, g 176, g 177, g 178, g 179, g 180, g 181, g 182, g 183, g 184] := junk 185 j hj
    have hJ2 : ∀ (w' : AV) (t' : List UInt8) (j : List AV) (h' : Heap), j.length = 185 → t'.length < t.length → validU t' = validU s → OBy M w' t' → J (w' :: .tup [] :: .bool false :: j) h' := fun w' t' j h' h1 h2 h3 h4 =>
      hJ t'.length _ _ _ (by omega) (Weak.refl _) ⟨w', t', j, rfl, h1, rfl, by omega, h3, h4⟩
    by_cases hlt : 0 < t.length
    rotate_left
    · have ln := hw.len hT
      have g1 : ¬ ((t.length : Int) > 0) := by omega
      simp only [gX,gM,gL,gB,List.map_cons,List.map_nil,wantedA,evOp,opv,absC,absC0,isAggT,resA,resultA,binA,eqA,eqGuardA,isConstA,isFlatScalar,shiftOp,strOp,ordB,readN,sliceCells,lenA,storeA,newA,buildA,fillA,buildSliceA,boundsA,bndA,sliceA,ptrOK,fieldAddrA,fieldA,indexA,extractA,convA,isIntT,biA,bytesOf,setAll,List.replicate,List.cons.injEq,exists_eq_left',exists_eq_left,exists_eq_right',eq_self,Option.map_some,Option.map_none,Option.bind_some,Option.bind_none,Option.some.injEq,Prod.mk.injEq,Nat.reduceAdd,Nat.reduceSub,Nat.reduceMul,Nat.reduceLT,Nat.reduceLeDiff,Nat.reduceEqDiff,Int.reduceEq,Int.reduceLT,Int.reduceLE,Int.reduceNe,Int.reduceAdd,beq_self_eq_true,Option.bind_eq_bind,Option.pure_def,bind_pure_comp,Option.map_eq_map,decide_eq_true_eq,ne_eq,not_false_eq_true,not_true_eq_false,Nat.lt_irrefl,Nat.reduceBEq,if_true,if_false,ite_true,ite_false,reduceCtorEq,Bool.false_eq_true,lenB_nil,lenB_slice,lenB_oslice,lenB_str,lenB_agg,indexAddrA_slice,indexAddrA_oslice,indexAddrA_ptr,indexAddrA_optr,loadA_ptr,loadA_optr,lenK,indexK,loadK,Option.toList_some,Option.toList_none,Int.reduceBEq,Int.reduceBNe,Int.reduceMod,Int.reduceDiv,Int.reduceTDiv,Int.reduceTMod,Int.reduceFDiv,Int.reduceSub,Int.reduceNeg,Int.reduceGT,Int.reduceGE,BitVec.reduceOfInt,BitVec.reduceAnd,BitVec.reduceOr,BitVec.reduceXOr,BitVec.reduceToNat,Int.cast_ofNat_Int,Int.reduceToNat,Int.reducePow,Nat.min_eq_left,Int.reduceMul,List.mapM_cons,List.mapM_nil,hT.all,body71,loopB,Tryd.f71,ln,g1]
      have ht : t = [] := List.eq_nil_of_length_eq_zero (by omega)
      exact hX _ _ _ rfl (by rw [← hv, ht, validU_nil])
    have hc256 : t[0].toNat < 256 := t[0].toNat_lt
    have split : t[0].toNat < 128 ∨ (128 ≤ t[0].toNat ∧ t[0].toNat < 194) ∨ (194 ≤ t[0].toNat ∧ t[0].toNat ≤ 223) ∨ t[0].toNat = 224 ∨ (225 ≤ t[0].toNat ∧ t[0].toNat ≤ 239 ∧ t[0].toNat ≠ 237) ∨ t[0].toNat = 237 ∨ t[0].toNat = 240 ∨ (241 ≤ t[0].toNat ∧ t[0].toNat ≤ 243) ∨ t[0].toNat = 244 ∨ (245 ≤ t[0].toNat ∧ t[0].toNat < 256) := by omega
    rcases split with hcc | hcc | hcc | hcc | hcc | hcc | hcc | hcc | hcc | hcc
    · exact round_ascii M hM hT hS s t w hw g h K J hv hlt (by omega) _ rfl hcc hJ2 hK
    · exact round_bad1 M hM hT hS s t w hw g h K J hv hlt (by omega) _ rfl hcc hJ2 hK
    · exact round_b M hM hT hS s t w hw g h K J hv hlt (by omega) _ rfl hcc hJ2 hK
    · exact round_c M hM hT hS s t w hw g h K J hv hlt (by omega) _ rfl hcc hJ2 hK
    · exact round_d M hM hT hS s t w hw g h K J hv hlt (by omega) _ rfl hcc hJ2 hK
    · exact round_e M hM hT hS s t w hw g h K J hv hlt (by omega) _ rfl hcc hJ2 hK
    · exact round_f M hM hT hS s t w hw g h K J hv hlt (by omega) _ rfl hcc hJ2 hK
    · exact round_g M hM hT hS s t w hw g h K J hv hlt (by omega) _ rfl hcc hJ2 hK
    · exact round_h M hM hT hS s t w hw g h K J hv hlt (by omega) _ rfl hcc hJ2 hK
    · exact round_bad2 M hM hT hS s t w hw g h K J hv hlt (by omega) _ rfl hcc hJ2 hK
  simp only [gX,gM,gL,gB,List.map_cons,List.map_nil,wantedA,evOp,opv,absC,absC0,isAggT,resA,resultA,binA,eqA,eqGuardA,isConstA,isFlatScalar,shiftOp,strOp,ordB,readN,sliceCells,lenA,storeA,newA,buildA,fillA,buildSliceA,boundsA,bndA,ptrOK,fieldAddrA,fieldA,indexA,extractA,convA,isIntT,biA,bytesOf,setAll,List.replicate,List.cons.injEq,exists_eq_left',exists_eq_left,exists_eq_right',eq_self,Option.map_some,Option.map_none,Option.bind_some,Option.bind_none,Option.some.injEq,Prod.mk.injEq,Nat.reduceAdd,Nat.reduceSub,Nat.reduceMul,Nat.reduceLT,Nat.reduceLeDiff,Nat.reduceEqDiff,Int.reduceEq,Int.reduceLT,Int.reduceLE,Int.reduceNe,Int.reduceAdd,beq_self_eq_true,Option.bind_eq_bind,Option.pure_def,bind_pure_comp,Option.map_eq_map,decide_eq_true_eq,ne_eq,not_false_eq_true,not_true_eq_false,Nat.lt_irrefl,Nat.reduceBEq,if_true,if_false,ite_true,ite_false,reduceCtorEq,Bool.false_eq_true,lenB_nil,lenB_slice,lenB_oslice,lenB_str,lenB_agg,indexAddrA_slice,indexAddrA_oslice,indexAddrA_ptr,indexAddrA_optr,loadA_ptr,loadA_optr,lenK,indexK,loadK,Option.toList_some,Option.toList_none,Int.reduceBEq,Int.reduceBNe,Int.reduceMod,Int.reduceDiv,Int.reduceTDiv,Int.reduceTMod,Int.reduceFDiv,Int.reduceSub,Int.reduceNeg,Int.reduceGT,Int.reduceGE,BitVec.reduceOfInt,BitVec.reduceAnd,BitVec.reduceOr,BitVec.reduceXOr,BitVec.reduceToNat,Int.cast_ofNat_Int,Int.reduceToNat,Int.reducePow,Nat.min_eq_left,Int.reduceMul,List.mapM_cons,List.mapM_nil,hT.all,Tryd.f71,ln0,hv1]
  refine main _ _ _ rfl (fun e h he => ?_) (fun w j h hj hvs => ?_)
  · simp only [gX,gM,gL,gB,List.map_cons,List.map_nil,wantedA,evOp,opv,absC,absC0,isAggT,resA,resultA,binA,eqA,eqGuardA,isConstA,isFlatScalar,shiftOp,strOp,ordB,readN,sliceCells,lenA,storeA,newA,buildA,fillA,buildSliceA,boundsA,bndA,sliceA,ptrOK,fieldAddrA,fieldA,indexA,extractA,convA,isIntT,biA,bytesOf,setAll,List.replicate,List.cons.injEq,exists_eq_left',exists_eq_left,exists_eq_right',eq_self,Option.map_some,Option.map_none,Option.bind_some,Option.bind_none,Option.some.injEq,Prod.mk.injEq,Nat.reduceAdd,Nat.reduceSub,Nat.reduceMul,Nat.reduceLT,Nat.reduceLeDiff,Nat.reduceEqDiff,Int.reduceEq,Int.reduceLT,Int.reduceLE,Int.reduceNe,Int.reduceAdd,beq_self_eq_true,Option.bind_eq_bind,Option.pure_def,bind_pure_comp,Option.map_eq_map,decide_eq_true_eq,ne_eq,not_false_eq_true,not_true_eq_false,Nat.lt_irrefl,Nat.reduceBEq,if_true,if_false,ite_true,ite_false,reduceCtorEq,Bool.false_eq_true,lenB_nil,lenB_slice,lenB_oslice,lenB_str,lenB_agg,indexAddrA_slice,indexAddrA_oslice,indexAddrA_ptr,indexAddrA_optr,loadA_ptr,loadA_optr,lenK,indexK,loadK,Option.toList_some,Option.toList_none,Int.reduceBEq,Int.reduceBNe,Int.reduceMod,Int.reduceDiv,Int.reduceTDiv,Int.reduceTMod,Int.reduceFDiv,Int.reduceSub,Int.reduceNeg,Int.reduceGT,Int.reduceGE,BitVec.reduceOfInt,BitVec.reduceAnd,BitVec.reduceOr,BitVec.reduceXOr,BitVec.reduceToNat,Int.cast_ofNat_Int,Int.reduceToNat,Int.reducePow,Nat.min_eq_left,Int.reduceMul,List.mapM_cons,List.mapM_nil,hT.all,he]
    first | exact ⟨rfl, rfl⟩ | rfl
  · obtain ⟨g, rfl⟩ : ∃ g : Nat → AV, j = [g 0, g 1, g 2, g 3, g 4, g 5, g 6, g 7, g 8, g 9, g 10, g 11, g 12, g 13, g 14, g 15, g 16, g 17, g 18, g 19, g 20, g 21, g 22, g 23, g 24, g 25, g 26, g 27, g 28, g 29, g 30, g 31, g 32, g 33, g 34, g 35, g 36, g 37, g 38, g 39, g 40, g 41, g 42, g 43, g 44, g 45, g 46, g 47, g 48, g 49, g 50, g 51, g 52, g 53, g 54, g 55, g 56, g 57, g 58, g 59, g 60, g 61, g 62, g 63, g 64, g 65, g 66, g 67, g 68, g 69, g 70, g 71, g 72, g 73, g 74, g 75, g 76, g 77, g 78, g 79, g 80, g 81, g 82, g 83, g 84, g 85, g 86, g 87, g 88, g 89, g 90, g 91, g 92, g 93, g 94, g 95, g 96, g 97, g 98, g 99, g 100, g 101, g 102, g 103, g 104, g 105, g 106, g 107, g 108, g 109, g 110, g 111, g 112, g 113, g 114, g 115, g 116, g 117, g 118, g 119, g 120, g 121, g 122, g 123, g 124, g 125, g 126, g 127, g 128, g 129, g 130, g 131, g 132, g 133, g 134, g 135, g 136, g 137, g 138, g 139, g 140, g 141, g 142, g 143, g 144, g 145, g 146, g 147, g 148, g 149, g 150, g 151, g 152, g 153, g 154, g 155, g 156, g 157, g 158, g 159, g 160, g 161, g 162, g 163, g 164, g 165, g 166, g 167, g 168, g 169, g 170, g 171, g 172, g 173, g 174, g 175, g 176, g 177, g 178, g 179, g 180, g 181, g 182, g 183, g 184] := junk 185 j hj
    simp only [gX,gM,gL,gB,List.map_cons,List.map_nil,wantedA,evOp,opv,absC,absC0,isAggT,resA,resultA,binA,eqA,eqGuardA,isConstA,isFlatScalar,shiftOp,strOp,ordB,readN,sliceCells,lenA,storeA,newA,buildA,fillA,buildSliceA,boundsA,bndA,sliceA,ptrOK,fieldAddrA,fieldA,indexA,extractA,convA,isIntT,biA,bytesOf,setAll,List.replicate,List.cons.injEq,exists_eq_left',exists_eq_left,exists_eq_right',eq_self,Option.map_some,Option.map_none,Option.bind_some,Option.bind_none,Option.some.injEq,Prod.mk.injEq,Nat.reduceAdd,Nat.reduceSub,Nat.reduceMul,Nat.reduceLT,Nat.reduceLeDiff,Nat.reduceEqDiff,Int.reduceEq,Int.reduceLT,Int.reduceLE,Int.reduceNe,Int.reduceAdd,beq_self_eq_true,Option.bind_eq_bind,Option.pure_def,bind_pure_comp,Option.map_eq_map,decide_eq_true_eq,ne_eq,not_false_eq_true,not_true_eq_false,Nat.lt_irrefl,Nat.reduceBEq,if_true,if_false,ite_true,ite_false,reduceCtorEq,Bool.false_eq_true,lenB_nil,lenB_slice,lenB_oslice,lenB_str,lenB_agg,indexAddrA_slice,indexAddrA_oslice,indexAddrA_ptr,indexAddrA_optr,loadA_ptr,loadA_optr,lenK,indexK,loadK,Option.toList_some,Option.toList_none,Int.reduceBEq,Int.reduceBNe,Int.reduceMod,Int.reduceDiv,Int.reduceTDiv,Int.reduceTMod,Int.reduceFDiv,Int.reduceSub,Int.reduceNeg,Int.reduceGT,Int.reduceGE,BitVec.reduceOfInt,BitVec.reduceAnd,BitVec.reduceOr,BitVec.reduceXOr,BitVec.reduceToNat,Int.cast_ofNat_Int,Int.reduceToNat,Int.reducePow,Nat.min_eq_left,Int.reduceMul,List.mapM_cons,List.mapM_nil,hT.all,hvs]
    first | exact ⟨rfl, rfl⟩ | rfl


end Go.Proofs.YtnmignkabcblgaaDoor.C
