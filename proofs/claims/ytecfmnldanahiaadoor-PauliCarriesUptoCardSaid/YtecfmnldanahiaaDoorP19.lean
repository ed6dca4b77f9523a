/- Part of a claim: Pauli strings through gates: kinds of gates, places checked, images of letters. (The table is printed by gen_thru.py.) -/
import Derived.Test.YtecfmnldanahiaaDoorP14
set_option linter.unusedSimpArgs false
set_option linter.unusedVariables false
set_option maxRecDepth 100000
set_option maxHeartbeats 10000000
namespace Go.Proofs.YtecfmnldanahiaaDoor.B
open Go Go.RowKit Go.Proofs.YtecfmnldanahiaaDoor.E Go.Proofs.YtecfmnldanahiaaDoor.PC

/-- What becomes of X and Z at each of a gate's qubits. -/
def img : Nat → List (List UInt8)
  | 1 => [[43, 88], [43, 90]]
  | 2 => [[43, 88], [45, 90]]
  | 3 => [[45, 88], [45, 90]]
  | 4 => [[45, 88], [43, 90]]
  | 5 => [[43, 89], [43, 90]]
  | 6 => [[45, 89], [43, 90]]
  | 7 => [[43, 88], [45, 89]]
  | 8 => [[43, 88], [43, 89]]
  | 9 => [[45, 90], [43, 88]]
  | 10 => [[43, 90], [45, 88]]
  | 11 => [[43, 88, 88], [43, 90, 73], [43, 73, 88], [43, 90, 90]]
  | 12 => [[43, 88, 89], [43, 90, 73], [43, 90, 88], [43, 90, 90]]
  | 13 => [[43, 88, 90], [43, 90, 73], [43, 90, 88], [43, 73, 90]]
  | 14 => [[43, 73, 88], [43, 73, 90], [43, 88, 73], [43, 90, 73]]
  | 15 => [[43, 90, 89], [43, 73, 90], [43, 89, 90], [43, 90, 73]]
  | 16 => [[45, 90, 89], [43, 73, 90], [45, 89, 90], [43, 90, 73]]
  | 17 => [[43, 90, 73], [43, 88, 73], [43, 73, 90], [43, 73, 88]]
  | _ => []
/-- How many qubits a gate has. -/
def ar (k : Nat) : Nat := if k ≤ 10 then 1 else 2
def imc (k j : Nat) : UInt8 := ((img k).getD j []).headD 0
def imt (k j : Nat) : List UInt8 := ((img k).getD j []).tail

theorem img_all : ((List.range 17).all fun i => (img (i + 1)).length == 2 * ar (i + 1) && (List.range (2 * ar (i + 1))).all fun j => (img (i + 1))[j]? == some (imc (i + 1) j :: imt (i + 1) j) && (imt (i + 1) j).length == ar (i + 1)) = true := by decide
theorem img_at {k : Nat} (h1 : 1 ≤ k) (h2 : k ≤ 17) : (img k).length = 2 * ar k ∧ ∀ j, j < 2 * ar k → (img k)[j]? = some (imc k j :: imt k j) ∧ (imt k j).length = ar k := by
  have := List.all_eq_true.1 img_all (k - 1) (List.mem_range.2 (by omega))
  rw [show k - 1 + 1 = k by omega, Bool.and_eq_true] at this
  refine ⟨by simpa using this.1, fun j hj => ?_⟩
  have h3 := List.all_eq_true.1 this.2 j (List.mem_range.2 hj)
  rw [Bool.and_eq_true] at h3
  exact ⟨by simpa using h3.1, by simpa using h3.2⟩

/-! ### How many qubits -/

def isI (r : Option (AV × Heap)) (k : Nat) : Bool := match r with | some (.int .i64 n, _) => n == (k : Int) | _ => false
theorem isI_eq {r : Option (AV × Heap)} {k : Nat} (h : isI r k = true) : ∃ H, r = some (.int .i64 (k : Int), H) := by
  unfold isI at h
  split at h
  · exact ⟨_, by rw [beq_iff_eq] at h; rw [h]⟩
  · cases h
set_option maxRecDepth 1000000 in
theorem arity_run : ((List.range 17).all fun i => isI (evF (GX X0) tabM 3000 51 [.int .i64 ((i + 1 : Nat) : Int)] []) (ar (i + 1))) = true := by kernel_rfl
set_option maxRecDepth 1000000 in
theorem arity_run' : ((List.range 17).all fun i => isI (evF (GX X0) tabM 3000 56 [.int .i64 ((i + 1 : Nat) : Int)] []) (ar (i + 1))) = true := by kernel_rfl

section
variable (M : Addr → Option AV) (hM : ∀ a v, tabM a = some v → M a = some v) (H : Heap)
include hM
theorem closedI {f : FuncId} {args : List AV} {r : Nat} (ha : flats args = true) (h : isI (evF (GX X0) tabM 3000 f args []) r = true) : SemF Tryd.prog M f args H fun v h => v = .int .i64 (r : Nat) ∧ h = H := by
  obtain ⟨H', h⟩ := isI_eq h
  exact SemF.pure ha (SemF.weaken hM (((ev_ok (GX_ok (X0_ok tabM)) 3000).2 f args [] _ _ h).mono fun v' h ⟨h1, _⟩ => ⟨by rw [h1]; rfl, h1⟩)) H
theorem pArity {k : Nat} (h1 : 1 ≤ k) (h2 : k ≤ 17) : SemF Tryd.prog M 51 [.int .i64 (k : Int)] H fun v h => v = .int .i64 (ar k : Nat) ∧ h = H := by
  have := List.all_eq_true.1 arity_run (k - 1) (List.mem_range.2 (by omega))
  simp only [show k - 1 + 1 = k by omega] at this
  exact closedI M hM H rfl this
theorem rArity {k : Nat} (h1 : 1 ≤ k) (h2 : k ≤ 17) : SemF Tryd.prog M 56 [.int .i64 (k : Int)] H fun v h => v = .int .i64 (ar k : Nat) ∧ h = H := by
  have := List.all_eq_true.1 arity_run' (k - 1) (List.mem_range.2 (by omega))
  simp only [show k - 1 + 1 = k by omega] at this
  exact closedI M hM H rfl this
end

theorem pCliff (M : Addr → Option AV) (H : Heap) (k : Int) : SemF Tryd.prog M 30 [.int .i64 k] H fun v h => v = .bool (decide (1 ≤ k ∧ k ≤ 17)) ∧ h = H := by
  refine fpure rfl rfl (fw Tryd.func30 (by kernel_rfl) rfl (by kernel_rfl) fun C L T hT hS => ?_) H
  by_cases c1 : k ≥ 1
  · by_cases c2 : k ≤ 17
    · rw [decide_eq_true ⟨c1, c2⟩]; simp only [gX,gM,gL,gB,List.map_cons,List.map_nil,wantedA,evOp,opv,absC,absC0,isAggT,resA,resultA,binA,eqA,eqGuardA,isConstA,isFlatScalar,shiftOp,strOp,ordB,readN,sliceCells,lenA,storeA,newA,buildA,fillA,buildSliceA,boundsA,bndA,sliceA,ptrOK,fieldAddrA,fieldA,indexA,extractA,convA,isIntT,biA,bytesOf,setAll,List.replicate,List.cons.injEq,exists_eq_left',exists_eq_left,exists_eq_right',eq_self,Option.map_some,Option.map_none,Option.bind_some,Option.bind_none,Option.some.injEq,Prod.mk.injEq,Nat.reduceAdd,Nat.reduceSub,Nat.reduceMul,Nat.reduceLT,Nat.reduceLeDiff,Nat.reduceEqDiff,Int.reduceEq,Int.reduceLT,Int.reduceLE,Int.reduceNe,Int.reduceAdd,beq_self_eq_true,Option.bind_eq_bind,Option.pure_def,bind_pure_comp,Option.map_eq_map,decide_eq_true_eq,ne_eq,not_false_eq_true,not_true_eq_false,Nat.lt_irrefl,Nat.reduceBEq,if_true,if_false,ite_true,ite_false,reduceCtorEq,Bool.false_eq_true,lenB_nil,lenB_slice,lenB_oslice,lenB_str,lenB_agg,indexAddrA_slice,indexAddrA_oslice,indexAddrA_ptr,indexAddrA_optr,loadA_ptr,loadA_optr,lenK,indexK,loadK,Option.toList_some,Option.toList_none,Int.reduceBEq,Int.reduceBNe,Int.reduceMod,Int.reduceDiv,Int.reduceTDiv,Int.reduceTMod,Int.reduceFDiv,Int.reduceSub,Int.reduceNeg,Int.reduceGT,Int.reduceGE,BitVec.reduceOfInt,BitVec.reduceAnd,BitVec.reduceOr,BitVec.reduceXOr,BitVec.reduceToNat,Int.cast_ofNat_Int,Int.reduceToNat,Int.reducePow,Nat.min_eq_left,Int.reduceMul,List.mapM_cons,List.mapM_nil,hT.all,Tryd.f30,c1,c2]
    · rw [decide_eq_false (fun h => c2 h.2)]; simp only [gX,gM,gL,gB,List.map_cons,List.map_nil,wantedA,evOp,opv,absC,absC0,isAggT,resA,resultA,binA,eqA,eqGuardA,isConstA,isFlatScalar,shiftOp,strOp,ordB,readN,sliceCells,lenA,storeA,newA,buildA,fillA,buildSliceA,boundsA,bndA,sliceA,ptrOK,fieldAddrA,fieldA,indexA,extractA,convA,isIntT,biA,bytesOf,setAll,List.replicate,List.cons.injEq,exists_eq_left',exists_eq_left,exists_eq_right',eq_self,Option.map_some,Option.map_none,Option.bind_some,Option.bind_none,Option.some.injEq,Prod.mk.injEq,Nat.reduceAdd,Nat.reduceSub,Nat.reduceMul,Nat.reduceLT,Nat.reduceLeDiff,Nat.reduceEqDiff,Int.reduceEq,Int.reduceLT,Int.reduceLE,Int.reduceNe,Int.reduceAdd,beq_self_eq_true,Option.bind_eq_bind,Option.pure_def,bind_pure_comp,Option.map_eq_map,decide_eq_true_eq,ne_eq,not_false_eq_true,not_true_eq_false,Nat.lt_irrefl,Nat.reduceBEq,if_true,if_false,ite_true,ite_false,reduceCtorEq,Bool.false_eq_true,lenB_nil,lenB_slice,lenB_oslice,lenB_str,lenB_agg,indexAddrA_slice,indexAddrA_oslice,indexAddrA_ptr,indexAddrA_optr,loadA_ptr,loadA_optr,lenK,indexK,loadK,Option.toList_some,Option.toList_none,Int.reduceBEq,Int.reduceBNe,Int.reduceMod,Int.reduceDiv,Int.reduceTDiv,Int.reduceTMod,Int.reduceFDiv,Int.reduceSub,Int.reduceNeg,Int.reduceGT,Int.reduceGE,BitVec.reduceOfInt,BitVec.reduceAnd,BitVec.reduceOr,BitVec.reduceXOr,BitVec.reduceToNat,Int.cast_ofNat_Int,Int.reduceToNat,Int.reducePow,Nat.min_eq_left,Int.reduceMul,List.mapM_cons,List.mapM_nil,hT.all,Tryd.f30,c1,c2]
  · rw [decide_eq_false (fun h => c1 h.1)]; simp only [gX,gM,gL,gB,List.map_cons,List.map_nil,wantedA,evOp,opv,absC,absC0,isAggT,resA,resultA,binA,eqA,eqGuardA,isConstA,isFlatScalar,shiftOp,strOp,ordB,readN,sliceCells,lenA,storeA,newA,buildA,fillA,buildSliceA,boundsA,bndA,sliceA,ptrOK,fieldAddrA,fieldA,indexA,extractA,convA,isIntT,biA,bytesOf,setAll,List.replicate,List.cons.injEq,exists_eq_left',exists_eq_left,exists_eq_right',eq_self,Option.map_some,Option.map_none,Option.bind_some,Option.bind_none,Option.some.injEq,Prod.mk.injEq,Nat.reduceAdd,Nat.reduceSub,Nat.reduceMul,Nat.reduceLT,Nat.reduceLeDiff,Nat.reduceEqDiff,Int.reduceEq,Int.reduceLT,Int.reduceLE,Int.reduceNe,Int.reduceAdd,beq_self_eq_true,Option.bind_eq_bind,Option.pure_def,bind_pure_comp,Option.map_eq_map,decide_eq_true_eq,ne_eq,not_false_eq_true,not_true_eq_false,Nat.lt_irrefl,Nat.reduceBEq,if_true,if_false,ite_true,ite_false,reduceCtorEq,Bool.false_eq_true,lenB_nil,lenB_slice,lenB_oslice,lenB_str,lenB_agg,indexAddrA_slice,indexAddrA_oslice,indexAddrA_ptr,indexAddrA_optr,loadA_ptr,loadA_optr,lenK,indexK,loadK,Option.toList_some,Option.toList_none,Int.reduceBEq,Int.reduceBNe,Int.reduceMod,Int.reduceDiv,Int.reduceTDiv,Int.reduceTMod,Int.reduceFDiv,Int.reduceSub,Int.reduceNeg,Int.reduceGT,Int.reduceGE,BitVec.reduceOfInt,BitVec.reduceAnd,BitVec.reduceOr,BitVec.reduceXOr,BitVec.reduceToNat,Int.cast_ofNat_Int,Int.reduceToNat,Int.reducePow,Nat.min_eq_left,Int.reduceMul,List.mapM_cons,List.mapM_nil,hT.all,Tryd.f30,c1]

theorem rIs (M : Addr → Option AV) (H : Heap) {k : Int} (h1 : 1 ≤ k) (h2 : k ≤ 17) : SemF Tryd.prog M 55 [.int .i64 k] H fun v h => v = .bool true ∧ h = H := by
  refine fpure rfl rfl (fw Tryd.func55 (by kernel_rfl) rfl (by kernel_rfl) fun C L T hT hS => ?_) H
  have c1 : k ≥ 1 := h1
  have c2 : k ≤ 20 := by omega
  simp only [gX,gM,gL,gB,List.map_cons,List.map_nil,wantedA,evOp,opv,absC,absC0,isAggT,resA,resultA,binA,eqA,eqGuardA,isConstA,isFlatScalar,shiftOp,strOp,ordB,readN,sliceCells,lenA,storeA,newA,buildA,fillA,buildSliceA,boundsA,bndA,sliceA,ptrOK,fieldAddrA,fieldA,indexA,extractA,convA,isIntT,biA,bytesOf,setAll,List.replicate,List.cons.injEq,exists_eq_left',exists_eq_left,exists_eq_right',eq_self,Option.map_some,Option.map_none,Option.bind_some,Option.bind_none,Option.some.injEq,Prod.mk.injEq,Nat.reduceAdd,Nat.reduceSub,Nat.reduceMul,Nat.reduceLT,Nat.reduceLeDiff,Nat.reduceEqDiff,Int.reduceEq,Int.reduceLT,Int.reduceLE,Int.reduceNe,Int.reduceAdd,beq_self_eq_true,Option.bind_eq_bind,Option.pure_def,bind_pure_comp,Option.map_eq_map,decide_eq_true_eq,ne_eq,not_false_eq_true,not_true_eq_false,Nat.lt_irrefl,Nat.reduceBEq,if_true,if_false,ite_true,ite_false,reduceCtorEq,Bool.false_eq_true,lenB_nil,lenB_slice,lenB_oslice,lenB_str,lenB_agg,indexAddrA_slice,indexAddrA_oslice,indexAddrA_ptr,indexAddrA_optr,loadA_ptr,loadA_optr,lenK,indexK,loadK,Option.toList_some,Option.toList_none,Int.reduceBEq,Int.reduceBNe,Int.reduceMod,Int.reduceDiv,Int.reduceTDiv,Int.reduceTMod,Int.reduceFDiv,Int.reduceSub,Int.reduceNeg,Int.reduceGT,Int.reduceGE,BitVec.reduceOfInt,BitVec.reduceAnd,BitVec.reduceOr,BitVec.reduceXOr,BitVec.reduceToNat,Int.cast_ofNat_Int,Int.reduceToNat,Int.reducePow,Nat.min_eq_left,Int.reduceMul,List.mapM_cons,List.mapM_nil,hT.all,Tryd.f55,c1,c2]

/-! ### Places -/

abbrev cellsZ (l : List Int) : List AV := l.map fun q : Int => AV.int .i64 q
/-- Are places below n, and no two the same? -/
def goodB (n : Int) : List Int → List Int → Bool
  | _, [] => true
  | pre, q :: r => decide (0 ≤ q) && decide (q < n) && !(pre.contains q) && goodB n (pre ++ [q]) r
theorem good_nat {n : Int} : ∀ (r pre : List Int), goodB n pre r = true → ∃ ns : List Nat, r = ns.map (fun q : Nat => (q : Int)) ∧ ∀ q ∈ ns, (q : Int) < n
  | [], _, _ => ⟨[], rfl, by simp⟩
  | q :: r, pre, h => by
    unfold goodB at h
    simp only [Bool.and_eq_true, decide_eq_true_eq] at h
    obtain ⟨ns, e, hn⟩ := good_nat r _ h.2
    refine ⟨q.toNat :: ns, by rw [List.map_cons, ← e, Int.toNat_of_nonneg h.1.1.1], fun x hx => ?_⟩
    rcases List.mem_cons.1 hx with rfl | hx
    · have := h.1.1.2; have := h.1.1.1; omega
    · exact hn x hx
def okQ (k : Nat) (qs : List Int) (n : Int) : Bool := qs.length == ar k && goodB n [] qs

theorem pIndexS (M : Addr → Option AV) {H : Heap} {v : AV} {l : List Int} {q : Int} (hv : Sees M H 1 v (cellsZ l)) (hl : l.length < 1000000000) :
    SemF Tryd.prog M 70 [v, .int .i64 q] H fun r h => (∃ k : Int, r = .int .i64 k ∧ (0 ≤ k ↔ q ∈ l)) ∧ h = H := by
  refine SemF.drop (Q := fun r => ∃ k : Int, r = .int .i64 k ∧ (0 ≤ k ↔ q ∈ l)) (fw Tryd.func70 (by kernel_rfl) rfl (by kernel_rfl) fun C L T hT hS => ?_)
  have hln : lenB T [26] v = some (.int .i64 l.length) := hv.lenB (n := l.length) (by simp) (by omega) hT.ty26 rfl
  simp only [gX,gM,gL,gB,List.map_cons,List.map_nil,wantedA,evOp,opv,absC,absC0,isAggT,resA,resultA,binA,eqA,eqGuardA,isConstA,isFlatScalar,shiftOp,strOp,ordB,readN,sliceCells,lenA,storeA,newA,buildA,fillA,buildSliceA,boundsA,bndA,sliceA,ptrOK,fieldAddrA,fieldA,indexA,extractA,convA,isIntT,biA,bytesOf,setAll,List.replicate,List.cons.injEq,exists_eq_left',exists_eq_left,exists_eq_right',eq_self,Option.map_some,Option.map_none,Option.bind_some,Option.bind_none,Option.some.injEq,Prod.mk.injEq,Nat.reduceAdd,Nat.reduceSub,Nat.reduceMul,Nat.reduceLT,Nat.reduceLeDiff,Nat.reduceEqDiff,Int.reduceEq,Int.reduceLT,Int.reduceLE,Int.reduceNe,Int.reduceAdd,beq_self_eq_true,Option.bind_eq_bind,Option.pure_def,bind_pure_comp,Option.map_eq_map,decide_eq_true_eq,ne_eq,not_false_eq_true,not_true_eq_false,Nat.lt_irrefl,Nat.reduceBEq,if_true,if_false,ite_true,ite_false,reduceCtorEq,Bool.false_eq_true,lenB_nil,lenB_slice,lenB_oslice,lenB_str,lenB_agg,indexAddrA_slice,indexAddrA_oslice,indexAddrA_ptr,indexAddrA_optr,loadA_ptr,loadA_optr,lenK,indexK,loadK,Option.toList_some,Option.toList_none,Int.reduceBEq,Int.reduceBNe,Int.reduceMod,Int.reduceDiv,Int.reduceTDiv,Int.reduceTMod,Int.reduceFDiv,Int.reduceSub,Int.reduceNeg,Int.reduceGT,Int.reduceGE,BitVec.reduceOfInt,BitVec.reduceAnd,BitVec.reduceOr,BitVec.reduceXOr,BitVec.reduceToNat,Int.cast_ofNat_Int,Int.reduceToNat,Int.reducePow,Nat.min_eq_left,Int.reduceMul,List.mapM_cons,List.mapM_nil,hT.all,Tryd.f70,hln]
  refine hS.loop (fun m e h => ∃ (i : Nat) (j2 j3 j5 j9 j10 j11 j12 j13 j14 j15 j16 j17 j18 : AV), e = [v, .int .i64 q, j2, j3, .int .i64 0, j5, v, .int .i64 l.length, .int .i64 i, j9, j10, j11, j12, j13, j14, j15, j16, j17, j18] ∧ i + m = l.length ∧ (∀ j, j < i → l[j]? ≠ some q) ∧ h = H) l.length ⟨0, _, _, _, _, _, _, _, _, _, _, _, _, _, rfl, by omega, by omega, rfl⟩ ?_
  rintro m e h ⟨i, j2, j3, j5, j9, j10, j11, j12, j13, j14, j15, j16, j17, j18, rfl, hi, hno, rfl⟩ J hJ
  cases m with
  | zero =>
    have b1 : ¬ (i : Int) < l.length := by omega
    simp only [gX,gM,gL,gB,List.map_cons,List.map_nil,wantedA,evOp,opv,absC,absC0,isAggT,resA,resultA,binA,eqA,eqGuardA,isConstA,isFlatScalar,shiftOp,strOp,ordB,readN,sliceCells,lenA,storeA,newA,buildA,fillA,buildSliceA,boundsA,bndA,sliceA,ptrOK,fieldAddrA,fieldA,indexA,extractA,convA,isIntT,biA,bytesOf,setAll,List.replicate,List.cons.injEq,exists_eq_left',exists_eq_left,exists_eq_right',eq_self,Option.map_some,Option.map_none,Option.bind_some,Option.bind_none,Option.some.injEq,Prod.mk.injEq,Nat.reduceAdd,Nat.reduceSub,Nat.reduceMul,Nat.reduceLT,Nat.reduceLeDiff,Nat.reduceEqDiff,Int.reduceEq,Int.reduceLT,Int.reduceLE,Int.reduceNe,Int.reduceAdd,beq_self_eq_true,Option.bind_eq_bind,Option.pure_def,bind_pure_comp,Option.map_eq_map,decide_eq_true_eq,ne_eq,not_false_eq_true,not_true_eq_false,Nat.lt_irrefl,Nat.reduceBEq,if_true,if_false,ite_true,ite_false,reduceCtorEq,Bool.false_eq_true,lenB_nil,lenB_slice,lenB_oslice,lenB_str,lenB_agg,indexAddrA_slice,indexAddrA_oslice,indexAddrA_ptr,indexAddrA_optr,loadA_ptr,loadA_optr,lenK,indexK,loadK,Option.toList_some,Option.toList_none,Int.reduceBEq,Int.reduceBNe,Int.reduceMod,Int.reduceDiv,Int.reduceTDiv,Int.reduceTMod,Int.reduceFDiv,Int.reduceSub,Int.reduceNeg,Int.reduceGT,Int.reduceGE,BitVec.reduceOfInt,BitVec.reduceAnd,BitVec.reduceOr,BitVec.reduceXOr,BitVec.reduceToNat,Int.cast_ofNat_Int,Int.reduceToNat,Int.reducePow,Nat.min_eq_left,Int.reduceMul,List.mapM_cons,List.mapM_nil,hT.all,b1]
    refine ⟨rfl, ⟨-1, rfl, ⟨fun h => absurd h (by decide), fun h => ?_⟩⟩, [], by simp⟩
    obtain ⟨j, hj⟩ := List.mem_iff_getElem?.1 h
    have := (List.getElem?_eq_some_iff.1 hj).1
    exact absurd hj (hno j (by omega))
  | succ m =>
    have b1 : (i : Int) < l.length := by omega
    obtain ⟨x, hx⟩ : ∃ x, l[i]? = some x := ⟨_, List.getElem?_eq_getElem (by omega)⟩
    have hxc : (cellsZ l)[i]? = some (.int .i64 x) := by rw [List.getElem?_map, hx]; rfl
    have hin : ((i : Int)).toNat = i := Int.toNat_natCast _
    have hia := hv.index (T := T) (H := h) (k := .i64) (n := (i : Int)) (by omega) (by rw [hin, List.length_map]; omega) (by omega) hT.ty26 rfl hT.ty3 rfl
    have hld := hv.load (T := T) (n := i) hxc hT.ty3 rfl
    have w0 : IntKind.i64.wrap ((i : Int) + 1) = ((i + 1 : Nat) : Int) := by rw [wrap_i64 (by omega) (by omega)]; omega
    by_cases e : q = x
    · have e1 : (q == x) = true := by rw [beq_iff_eq]; exact e
      simp only [gX,gM,gL,gB,List.map_cons,List.map_nil,wantedA,evOp,opv,absC,absC0,isAggT,resA,resultA,binA,eqA,eqGuardA,isConstA,isFlatScalar,shiftOp,strOp,ordB,readN,sliceCells,lenA,storeA,newA,buildA,fillA,buildSliceA,boundsA,bndA,sliceA,ptrOK,fieldAddrA,fieldA,indexA,extractA,convA,isIntT,biA,bytesOf,setAll,List.replicate,List.cons.injEq,exists_eq_left',exists_eq_left,exists_eq_right',eq_self,Option.map_some,Option.map_none,Option.bind_some,Option.bind_none,Option.some.injEq,Prod.mk.injEq,Nat.reduceAdd,Nat.reduceSub,Nat.reduceMul,Nat.reduceLT,Nat.reduceLeDiff,Nat.reduceEqDiff,Int.reduceEq,Int.reduceLT,Int.reduceLE,Int.reduceNe,Int.reduceAdd,beq_self_eq_true,Option.bind_eq_bind,Option.pure_def,bind_pure_comp,Option.map_eq_map,decide_eq_true_eq,ne_eq,not_false_eq_true,not_true_eq_false,Nat.lt_irrefl,Nat.reduceBEq,if_true,if_false,ite_true,ite_false,reduceCtorEq,Bool.false_eq_true,lenB_nil,lenB_slice,lenB_oslice,lenB_str,lenB_agg,indexAddrA_slice,indexAddrA_oslice,indexAddrA_ptr,indexAddrA_optr,loadA_ptr,loadA_optr,lenK,indexK,loadK,Option.toList_some,Option.toList_none,Int.reduceBEq,Int.reduceBNe,Int.reduceMod,Int.reduceDiv,Int.reduceTDiv,Int.reduceTMod,Int.reduceFDiv,Int.reduceSub,Int.reduceNeg,Int.reduceGT,Int.reduceGE,BitVec.reduceOfInt,BitVec.reduceAnd,BitVec.reduceOr,BitVec.reduceXOr,BitVec.reduceToNat,Int.cast_ofNat_Int,Int.reduceToNat,Int.reducePow,Nat.min_eq_left,Int.reduceMul,List.mapM_cons,List.mapM_nil,hT.all,b1,hia,hin,hld,e1]
      exact ⟨rfl, ⟨i, rfl, ⟨fun _ => by rw [e]; exact List.mem_of_getElem? hx, fun _ => by omega⟩⟩, [], by simp⟩
    · have e1 : (q == x) = false := by rw [beq_eq_false_iff_ne]; exact e
      simp only [gX,gM,gL,gB,List.map_cons,List.map_nil,wantedA,evOp,opv,absC,absC0,isAggT,resA,resultA,binA,eqA,eqGuardA,isConstA,isFlatScalar,shiftOp,strOp,ordB,readN,sliceCells,lenA,storeA,newA,buildA,fillA,buildSliceA,boundsA,bndA,sliceA,ptrOK,fieldAddrA,fieldA,indexA,extractA,convA,isIntT,biA,bytesOf,setAll,List.replicate,List.cons.injEq,exists_eq_left',exists_eq_left,exists_eq_right',eq_self,Option.map_some,Option.map_none,Option.bind_some,Option.bind_none,Option.some.injEq,Prod.mk.injEq,Nat.reduceAdd,Nat.reduceSub,Nat.reduceMul,Nat.reduceLT,Nat.reduceLeDiff,Nat.reduceEqDiff,Int.reduceEq,Int.reduceLT,Int.reduceLE,Int.reduceNe,Int.reduceAdd,beq_self_eq_true,Option.bind_eq_bind,Option.pure_def,bind_pure_comp,Option.map_eq_map,decide_eq_true_eq,ne_eq,not_false_eq_true,not_true_eq_false,Nat.lt_irrefl,Nat.reduceBEq,if_true,if_false,ite_true,ite_false,reduceCtorEq,Bool.false_eq_true,lenB_nil,lenB_slice,lenB_oslice,lenB_str,lenB_agg,indexAddrA_slice,indexAddrA_oslice,indexAddrA_ptr,indexAddrA_optr,loadA_ptr,loadA_optr,lenK,indexK,loadK,Option.toList_some,Option.toList_none,Int.reduceBEq,Int.reduceBNe,Int.reduceMod,Int.reduceDiv,Int.reduceTDiv,Int.reduceTMod,Int.reduceFDiv,Int.reduceSub,Int.reduceNeg,Int.reduceGT,Int.reduceGE,BitVec.reduceOfInt,BitVec.reduceAnd,BitVec.reduceOr,BitVec.reduceXOr,BitVec.reduceToNat,Int.cast_ofNat_Int,Int.reduceToNat,Int.reducePow,Nat.min_eq_left,Int.reduceMul,List.mapM_cons,List.mapM_nil,hT.all,b1,hia,hin,hld,e1,w0]
      refine hJ m _ _ _ (by omega) (Weak.refl _) ⟨i + 1, _, _, _, _, _, _, _, _, _, _, _, _, _, rfl, by omega, fun j hj => ?_, rfl⟩
      by_cases hji : j = i
      · rw [hji, hx]; exact fun h => e (Option.some.inj h).symm
      · exact hno j (by omega)

theorem pContains (M : Addr → Option AV) {H : Heap} {v : AV} {l : List Int} {q : Int} (hv : Sees M H 1 v (cellsZ l)) (hl : l.length < 1000000000) :
    SemF Tryd.prog M 52 [v, .int .i64 q] H fun r h => r = .bool (l.contains q) ∧ h = H := by
  refine SemF.drop (Q := fun r => r = .bool (l.contains q)) (fw Tryd.func52 (by kernel_rfl) rfl (by kernel_rfl) fun C L T hT hS => ?_)
  simp only [gX,gM,gL,gB,List.map_cons,List.map_nil,wantedA,evOp,opv,absC,absC0,isAggT,resA,resultA,binA,eqA,eqGuardA,isConstA,isFlatScalar,shiftOp,strOp,ordB,readN,sliceCells,lenA,storeA,newA,buildA,fillA,buildSliceA,boundsA,bndA,sliceA,ptrOK,fieldAddrA,fieldA,indexA,extractA,convA,isIntT,biA,bytesOf,setAll,List.replicate,List.cons.injEq,exists_eq_left',exists_eq_left,exists_eq_right',eq_self,Option.map_some,Option.map_none,Option.bind_some,Option.bind_none,Option.some.injEq,Prod.mk.injEq,Nat.reduceAdd,Nat.reduceSub,Nat.reduceMul,Nat.reduceLT,Nat.reduceLeDiff,Nat.reduceEqDiff,Int.reduceEq,Int.reduceLT,Int.reduceLE,Int.reduceNe,Int.reduceAdd,beq_self_eq_true,Option.bind_eq_bind,Option.pure_def,bind_pure_comp,Option.map_eq_map,decide_eq_true_eq,ne_eq,not_false_eq_true,not_true_eq_false,Nat.lt_irrefl,Nat.reduceBEq,if_true,if_false,ite_true,ite_false,reduceCtorEq,Bool.false_eq_true,lenB_nil,lenB_slice,lenB_oslice,lenB_str,lenB_agg,indexAddrA_slice,indexAddrA_oslice,indexAddrA_ptr,indexAddrA_optr,loadA_ptr,loadA_optr,lenK,indexK,loadK,Option.toList_some,Option.toList_none,Int.reduceBEq,Int.reduceBNe,Int.reduceMod,Int.reduceDiv,Int.reduceTDiv,Int.reduceTMod,Int.reduceFDiv,Int.reduceSub,Int.reduceNeg,Int.reduceGT,Int.reduceGE,BitVec.reduceOfInt,BitVec.reduceAnd,BitVec.reduceOr,BitVec.reduceXOr,BitVec.reduceToNat,Int.cast_ofNat_Int,Int.reduceToNat,Int.reducePow,Nat.min_eq_left,Int.reduceMul,List.mapM_cons,List.mapM_nil,hT.all,Tryd.f52]
  refine hS.call (pIndexS M hv hl) ?_
  rintro r h ⟨⟨k, rfl, hk⟩, rfl⟩
  by_cases c : q ∈ l
  · have c1 : k ≥ 0 := hk.2 c
    rw [List.contains_iff_mem.2 c]
    simp only [gX,gM,gL,gB,List.map_cons,List.map_nil,wantedA,evOp,opv,absC,absC0,isAggT,resA,resultA,binA,eqA,eqGuardA,isConstA,isFlatScalar,shiftOp,strOp,ordB,readN,sliceCells,lenA,storeA,newA,buildA,fillA,buildSliceA,boundsA,bndA,sliceA,ptrOK,fieldAddrA,fieldA,indexA,extractA,convA,isIntT,biA,bytesOf,setAll,List.replicate,List.cons.injEq,exists_eq_left',exists_eq_left,exists_eq_right',eq_self,Option.map_some,Option.map_none,Option.bind_some,Option.bind_none,Option.some.injEq,Prod.mk.injEq,Nat.reduceAdd,Nat.reduceSub,Nat.reduceMul,Nat.reduceLT,Nat.reduceLeDiff,Nat.reduceEqDiff,Int.reduceEq,Int.reduceLT,Int.reduceLE,Int.reduceNe,Int.reduceAdd,beq_self_eq_true,Option.bind_eq_bind,Option.pure_def,bind_pure_comp,Option.map_eq_map,decide_eq_true_eq,ne_eq,not_false_eq_true,not_true_eq_false,Nat.lt_irrefl,Nat.reduceBEq,if_true,if_false,ite_true,ite_false,reduceCtorEq,Bool.false_eq_true,lenB_nil,lenB_slice,lenB_oslice,lenB_str,lenB_agg,indexAddrA_slice,indexAddrA_oslice,indexAddrA_ptr,indexAddrA_optr,loadA_ptr,loadA_optr,lenK,indexK,loadK,Option.toList_some,Option.toList_none,Int.reduceBEq,Int.reduceBNe,Int.reduceMod,Int.reduceDiv,Int.reduceTDiv,Int.reduceTMod,Int.reduceFDiv,Int.reduceSub,Int.reduceNeg,Int.reduceGT,Int.reduceGE,BitVec.reduceOfInt,BitVec.reduceAnd,BitVec.reduceOr,BitVec.reduceXOr,BitVec.reduceToNat,Int.cast_ofNat_Int,Int.reduceToNat,Int.reducePow,Nat.min_eq_left,Int.reduceMul,List.mapM_cons,List.mapM_nil,hT.all,c1]
    exact ⟨rfl, [], by simp⟩
  · have c1 : ¬ k ≥ 0 := fun h => c (hk.1 h)
    rw [show l.contains q = false by rw [← Bool.not_eq_true, List.contains_iff_mem]; exact c]
    simp only [gX,gM,gL,gB,List.map_cons,List.map_nil,wantedA,evOp,opv,absC,absC0,isAggT,resA,resultA,binA,eqA,eqGuardA,isConstA,isFlatScalar,shiftOp,strOp,ordB,readN,sliceCells,lenA,storeA,newA,buildA,fillA,buildSliceA,boundsA,bndA,sliceA,ptrOK,fieldAddrA,fieldA,indexA,extractA,convA,isIntT,biA,bytesOf,setAll,List.replicate,List.cons.injEq,exists_eq_left',exists_eq_left,exists_eq_right',eq_self,Option.map_some,Option.map_none,Option.bind_some,Option.bind_none,Option.some.injEq,Prod.mk.injEq,Nat.reduceAdd,Nat.reduceSub,Nat.reduceMul,Nat.reduceLT,Nat.reduceLeDiff,Nat.reduceEqDiff,Int.reduceEq,Int.reduceLT,Int.reduceLE,Int.reduceNe,Int.reduceAdd,beq_self_eq_true,Option.bind_eq_bind,Option.pure_def,bind_pure_comp,Option.map_eq_map,decide_eq_true_eq,ne_eq,not_false_eq_true,not_true_eq_false,Nat.lt_irrefl,Nat.reduceBEq,if_true,if_false,ite_true,ite_false,reduceCtorEq,Bool.false_eq_true,lenB_nil,lenB_slice,lenB_oslice,lenB_str,lenB_agg,indexAddrA_slice,indexAddrA_oslice,indexAddrA_ptr,indexAddrA_optr,loadA_ptr,loadA_optr,lenK,indexK,loadK,Option.toList_some,Option.toList_none,Int.reduceBEq,Int.reduceBNe,Int.reduceMod,Int.reduceDiv,Int.reduceTDiv,Int.reduceTMod,Int.reduceFDiv,Int.reduceSub,Int.reduceNeg,Int.reduceGT,Int.reduceGE,BitVec.reduceOfInt,BitVec.reduceAnd,BitVec.reduceOr,BitVec.reduceXOr,BitVec.reduceToNat,Int.cast_ofNat_Int,Int.reduceToNat,Int.reducePow,Nat.min_eq_left,Int.reduceMul,List.mapM_cons,List.mapM_nil,hT.all,c1]
    exact ⟨rfl, [], by simp⟩

end Go.Proofs.YtecfmnldanahiaaDoor.B
