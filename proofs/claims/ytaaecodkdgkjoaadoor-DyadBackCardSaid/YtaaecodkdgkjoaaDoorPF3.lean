/- Part of a claim: a dyad's float; the plane's sums and products. -/
import Derived.Test.YtaaecodkdgkjoaaDoorPF2
import Derived.Test.YtaaecodkdgkjoaaDoorPG3
set_option linter.unusedSimpArgs false
set_option linter.unusedVariables false
set_option maxRecDepth 100000
set_option maxHeartbeats 10000000
namespace Go.Proofs.YtaaecodkdgkjoaaDoor.B
open Go Go.RowKit Go.Proofs.YtaaecodkdgkjoaaDoor.E Go.Proofs.YtaaecodkdgkjoaaDoor.FL

/-- The float of x over 2^e. -/
def dF (x : Int) (e : Int) : Nat := D.word (decide (x < 0)) (rung x.natAbs (-e))
theorem conv_dF (x : Int) : FloatKind.nearest .f64 x = D.word (decide (x < 0)) (rung x.natAbs 0) := nearest_int x

theorem pTo (M : Addr → Option AV) (H : Heap) {p : Dy} (hp : p.ok) (hr : p.rt) :
    SemF Tryd.prog M 17 [p.av] H fun v h => v = .tup [.cplx .f64 (dF p.a p.e) (dF p.b p.e), .int .i64 0] ∧ h = H := by
  obtain ⟨a, b, e⟩ := p
  obtain ⟨i1, i2, h1, h2⟩ := rt_in hr
  change In53 a at i1
  change In53 b at i2
  change 0 ≤ e at h1
  change e ≤ 60 at h2
  have hr' : Rt a b e := hr
  have hc : ∀ H, SemF Tryd.prog M 10 [dy a b e] H fun v h => v = .int .i64 0 ∧ h = H := fun H => by
    have := pCheck M H (e := e) hp.1 hp.2.1
    rw [if_pos hr'] at this
    exact this
  obtain ⟨n, rfl⟩ : ∃ n : Nat, e = n := ⟨e.toNat, by omega⟩
  have l1 := fun H => pLdexp M H (decide (a < 0)) (m := a.natAbs) (e := n) (by have := i1; unfold In53 at this; omega) (by omega) (fun h => decide_eq_false (by omega))
  have l2 := fun H => pLdexp M H (decide (b < 0)) (m := b.natAbs) (e := n) (by have := i2; unfold In53 at this; omega) (by omega) (fun h => decide_eq_false (by omega))
  have w0 : IntKind.i64.wrap (0 - (n : Int)) = -(n : Int) := by rw [wrap_i64 (by omega) (by omega)]; omega
  unfold Dy.av dF
  simp only [dy]
  unfold dy at hc
  obtain ⟨fa, hfa⟩ : ∃ f, f = D.word (decide (a < 0)) (rung a.natAbs 0) := ⟨_, rfl⟩
  obtain ⟨fb, hfb⟩ : ∃ f, f = D.word (decide (b < 0)) (rung b.natAbs 0) := ⟨_, rfl⟩
  obtain ⟨ga, hga⟩ : ∃ f, f = D.word (decide (a < 0)) (rung a.natAbs (-(n : Int))) := ⟨_, rfl⟩
  obtain ⟨gb, hgb⟩ : ∃ f, f = D.word (decide (b < 0)) (rung b.natAbs (-(n : Int))) := ⟨_, rfl⟩
  have c1 := conv_dF a
  have c2 := conv_dF b
  rw [← hfa] at c1 l1
  rw [← hfb] at c2 l2
  rw [← hga] at l1 ⊢
  rw [← hgb] at l2 ⊢
  refine fpure rfl rfl (fq Tryd.func17 (by kernel_rfl) rfl (by kernel_rfl) fun C L T hT hS => ?_) H
  simp only [gX,gT,gM,gL,gB,wantedA,evOp,opv,absC,absC0,isAggT,resA,resultA,binA,eqA,eqGuardA,isConstA,isFlatScalar,shiftOp,strOp,ordB,readN,sliceCells,lenA,storeA,newA,buildA,fillA,buildSliceA,boundsA,bndA,sliceA,ptrOK,fieldAddrA,fieldA,indexA,extractA,convA,isIntT,biA,bytesOf,setAll,List.replicate,Nat.reduceAdd,Nat.reduceSub,Nat.reduceMul,Nat.reduceLT,Nat.reduceLeDiff,Nat.reduceEqDiff,Int.reduceEq,Int.reduceLT,Int.reduceLE,Int.reduceNe,Int.reduceAdd,Nat.reduceBEq,reduceCtorEq,lenB_nil,lenB_slice,lenB_oslice,lenB_str,lenB_agg,indexAddrA_slice,indexAddrA_oslice,indexAddrA_ptr,indexAddrA_optr,loadA_ptr,loadA_optr,lenK,indexK,loadK,Int.reduceBEq,Int.reduceBNe,Int.reduceMod,Int.reduceDiv,Int.reduceTDiv,Int.reduceTMod,Int.reduceFDiv,Int.reduceSub,Int.reduceNeg,Int.reduceGT,Int.reduceGE,BitVec.reduceOfInt,BitVec.reduceAnd,BitVec.reduceOr,BitVec.reduceXOr,BitVec.reduceToNat,Int.reduceToNat,Int.reducePow,Int.reduceMul,hT.all,Tryd.f17]
  refine hS.one (hc _) ?_
  simp only [gX,gT,gM,gL,gB,wantedA,evOp,opv,absC,absC0,isAggT,resA,resultA,binA,eqA,eqGuardA,isConstA,isFlatScalar,shiftOp,strOp,ordB,readN,sliceCells,lenA,storeA,newA,buildA,fillA,buildSliceA,boundsA,bndA,sliceA,ptrOK,fieldAddrA,fieldA,indexA,extractA,convA,isIntT,biA,bytesOf,setAll,List.replicate,Nat.reduceAdd,Nat.reduceSub,Nat.reduceMul,Nat.reduceLT,Nat.reduceLeDiff,Nat.reduceEqDiff,Int.reduceEq,Int.reduceLT,Int.reduceLE,Int.reduceNe,Int.reduceAdd,Nat.reduceBEq,reduceCtorEq,lenB_nil,lenB_slice,lenB_oslice,lenB_str,lenB_agg,indexAddrA_slice,indexAddrA_oslice,indexAddrA_ptr,indexAddrA_optr,loadA_ptr,loadA_optr,lenK,indexK,loadK,Int.reduceBEq,Int.reduceBNe,Int.reduceMod,Int.reduceDiv,Int.reduceTDiv,Int.reduceTMod,Int.reduceFDiv,Int.reduceSub,Int.reduceNeg,Int.reduceGT,Int.reduceGE,BitVec.reduceOfInt,BitVec.reduceAnd,BitVec.reduceOr,BitVec.reduceXOr,BitVec.reduceToNat,Int.reduceToNat,Int.reducePow,Int.reduceMul,hT.all,c1,c2,w0]
  refine hS.ex (l1 _) ?_
  simp only [gX,gT,gM,gL,gB,wantedA,evOp,opv,absC,absC0,isAggT,resA,resultA,binA,eqA,eqGuardA,isConstA,isFlatScalar,shiftOp,strOp,ordB,readN,sliceCells,lenA,storeA,newA,buildA,fillA,buildSliceA,boundsA,bndA,sliceA,ptrOK,fieldAddrA,fieldA,indexA,extractA,convA,isIntT,biA,bytesOf,setAll,List.replicate,Nat.reduceAdd,Nat.reduceSub,Nat.reduceMul,Nat.reduceLT,Nat.reduceLeDiff,Nat.reduceEqDiff,Int.reduceEq,Int.reduceLT,Int.reduceLE,Int.reduceNe,Int.reduceAdd,Nat.reduceBEq,reduceCtorEq,lenB_nil,lenB_slice,lenB_oslice,lenB_str,lenB_agg,indexAddrA_slice,indexAddrA_oslice,indexAddrA_ptr,indexAddrA_optr,loadA_ptr,loadA_optr,lenK,indexK,loadK,Int.reduceBEq,Int.reduceBNe,Int.reduceMod,Int.reduceDiv,Int.reduceTDiv,Int.reduceTMod,Int.reduceFDiv,Int.reduceSub,Int.reduceNeg,Int.reduceGT,Int.reduceGE,BitVec.reduceOfInt,BitVec.reduceAnd,BitVec.reduceOr,BitVec.reduceXOr,BitVec.reduceToNat,Int.reduceToNat,Int.reducePow,Int.reduceMul,hT.all,c1,c2,w0]
  refine hS.ex (l2 _) ?_
  simp only [gX,gT,gM,gL,gB,wantedA,evOp,opv,absC,absC0,isAggT,resA,resultA,binA,eqA,eqGuardA,isConstA,isFlatScalar,shiftOp,strOp,ordB,readN,sliceCells,lenA,storeA,newA,buildA,fillA,buildSliceA,boundsA,bndA,sliceA,ptrOK,fieldAddrA,fieldA,indexA,extractA,convA,isIntT,biA,bytesOf,setAll,List.replicate,Nat.reduceAdd,Nat.reduceSub,Nat.reduceMul,Nat.reduceLT,Nat.reduceLeDiff,Nat.reduceEqDiff,Int.reduceEq,Int.reduceLT,Int.reduceLE,Int.reduceNe,Int.reduceAdd,Nat.reduceBEq,reduceCtorEq,lenB_nil,lenB_slice,lenB_oslice,lenB_str,lenB_agg,indexAddrA_slice,indexAddrA_oslice,indexAddrA_ptr,indexAddrA_optr,loadA_ptr,loadA_optr,lenK,indexK,loadK,Int.reduceBEq,Int.reduceBNe,Int.reduceMod,Int.reduceDiv,Int.reduceTDiv,Int.reduceTMod,Int.reduceFDiv,Int.reduceSub,Int.reduceNeg,Int.reduceGT,Int.reduceGE,BitVec.reduceOfInt,BitVec.reduceAnd,BitVec.reduceOr,BitVec.reduceXOr,BitVec.reduceToNat,Int.reduceToNat,Int.reducePow,Int.reduceMul,hT.all]

def Small (p : Dy) : Prop := (-67108864 ≤ p.a ∧ p.a ≤ 67108864) ∧ (-67108864 ≤ p.b ∧ p.b ≤ 67108864)
instance (p : Dy) : Decidable (Small p) := inferInstanceAs (Decidable ((-67108864 ≤ p.a ∧ p.a ≤ 67108864) ∧ (-67108864 ≤ p.b ∧ p.b ≤ 67108864)))

end Go.Proofs.YtaaecodkdgkjoaaDoor.B
