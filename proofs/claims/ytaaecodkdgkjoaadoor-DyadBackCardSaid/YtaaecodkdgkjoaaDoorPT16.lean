/- Part of a claim: a dyad out of its floats: From. -/
import Derived.Test.YtaaecodkdgkjoaaDoorPT15
import Derived.Test.YtaaecodkdgkjoaaDoorPSC
import Derived.Test.YtaaecodkdgkjoaaDoorPF3
set_option linter.unusedSimpArgs false
set_option linter.unusedVariables false
set_option maxRecDepth 100000
set_option maxHeartbeats 10000000
namespace Go.Proofs.YtaaecodkdgkjoaaDoor.B
open Go Go.RowKit Go.Proofs.YtaaecodkdgkjoaaDoor.E Go.Proofs.YtaaecodkdgkjoaaDoor.FL

/-! ### Floats of whole numbers, scaled (plain) -/

theorem rung_dyad {m e : Nat} (h0 : m ≠ 0) (hm : m ≤ 9007199254740992) (he : e ≤ 60) : rung m (-(e : Int)) = (m.log2 + 1022 - e) * 4503599627370496 + kept m := by
  have hlog := log2_small (k := 54) h0 (by rw [show 2 ^ 54 = 18014398509481984 by decide]; omega)
  have hk := kept_exact h0 hm
  rw [rung_norm h0 (by omega)]
  rw [show (-(e : Int) + (m.log2 : Int) + 1022).toNat = m.log2 + 1022 - e by omega]
  omega

/-- Ldexp of a normal float to a normal one. -/
theorem pLdexpN (M : Addr → Option AV) (H : Heap) (s : Bool) {r E K : Nat} {i : Int} (h1 : 4503599627370496 ≤ r) (hr : r < 9218868437227405312) (hE : E = r / 4503599627370496) (hK : (K : Int) = E + i) (hK1 : 1 ≤ K) (hK2 : K ≤ 2046) (hi1 : -3000 ≤ i) (hi2 : i ≤ 3000) :
    SemF Tryd.prog M 45 [.float .f64 (D.word s r), .int .i64 i] H fun v h => v = .float .f64 (D.word s (K * 4503599627370496 + r % 4503599627370496)) ∧ h = H := by
  have core : SemF Tryd.prog M 65 [.float .f64 (D.word s r), .int .i64 i] [] fun v h => v = .float .f64 (D.word s (K * 4503599627370496 + r % 4503599627370496)) ∧ h = [] := by
    have hxn := isNaN_word (s := s) hr
    have hi := pIsInf0 M [] s hr
    have hq := pIsNaN M [] (D.word s r)
    rw [hxn] at hq
    have hno := pNormal M [] s h1 hr
    have hz : ∀ T t o p, binA T .eql t o p (.float .f64 (D.word s r)) (.float .f64 0) = some (.bool false) := fun T t o p => eq_zero (s := s) (r := r) (by omega) (by omega)
    obtain ⟨p1, p2, p3, p4⟩ := word_parts (s := s) (y := r) (by omega)
    have w0 : IntKind.i64.wrap (i + 0) = i := by rw [wrap_i64 (by omega) (by omega)]; omega
    have w1 := shr52 (b := D.word s r)
    have w6 := clrE (n := D.word s r) p4
    rw [p2, p3] at w6
    rw [← hE] at p1
    obtain ⟨f, hff⟩ : ∃ f, f = r % 4503599627370496 := ⟨_, rfl⟩
    rw [← hff] at w6 ⊢
    obtain ⟨W, hW⟩ : ∃ W, W = D.word s r := ⟨_, rfl⟩
    rw [← hW] at hxn hi hq hno hz p1 p4 w1 w6 ⊢
    obtain ⟨G, hG⟩ : ∃ G, G = W / 4503599627370496 := ⟨_, rfl⟩
    have hGb : G < 4096 := by omega
    rw [← hG] at w1 p1
    have w2 : IntKind.i64.wrap (G : Int) = G := wrap_i64 (by omega) (by omega)
    have w3 := andI11 (e := G) (by omega)
    rw [p1] at w3
    obtain ⟨F, hF⟩ : ∃ F : Int, F = (E : Int) - 1023 := ⟨_, rfl⟩
    have w4 : IntKind.i64.wrap ((E : Int) - 1023) = F := by rw [wrap_i64 (by omega) (by omega)]; exact hF.symm
    obtain ⟨q, hqq⟩ : ∃ q : Int, q = i + ((E : Int) - 1023) := ⟨_, rfl⟩
    have w5 : IntKind.i64.wrap (i + F) = q := by rw [wrap_i64 (by omega) (by omega)]; omega
    have c1 : ¬ q < -1075 := by omega
    have c2 : ¬ q > 1023 := by omega
    have c3 : ¬ q < -1022 := by omega
    have w8 : IntKind.i64.wrap (q + 1023) = (K : Int) := by rw [wrap_i64 (by omega) (by omega)]; omega
    have w9 : IntKind.u64.wrap (K : Int) = K := by rw [wU]; omega
    have v1 := shlU (a := K) (n := 52) (by omega) (by omega)
    rw [show ((52 : Nat) : Int) = 52 by rfl] at v1
    have hsb : s.toNat ≤ 1 := by cases s <;> decide
    have v2 := orE (b := s.toNat) (f := f) (k := K) hsb (by omega) (by omega)
    have e3 : K * 2 ^ 52 = K * 4503599627370496 := by rw [show 2 ^ 52 = 4503599627370496 by decide]
    rw [e3] at v1
    rw [← ofInt_nat] at v2
    have hrr : K * 4503599627370496 + f < 9218868437227405312 := by omega
    have hpm := pow_mul (s := s) (r := K * 4503599627370496 + f) (k := 0) hrr (by omega) (by omega)
    rw [Int.add_zero (-1074 + ((upOf (K * 4503599627370496 + f) : Nat) : Int)), rung_exact hrr, show (1023 + 0 : Int).toNat * 4503599627370496 = 4607182418800017408 by decide] at hpm
    have e4 : D.word s (K * 4503599627370496 + f) = s.toNat * 9223372036854775808 + K * 4503599627370496 + f := by
      unfold Ieee.Format.word
      rw [d_sw]
      cases s
      · rw [if_neg (by decide)]; simp
      · rw [if_pos rfl]; simp; omega
    rw [e4] at hpm ⊢
    have hbm := mul_bin hpm
    obtain ⟨a, ha⟩ : ∃ a, a = K * 4503599627370496 := ⟨_, rfl⟩
    rw [← ha] at v1 v2 hbm ⊢
    obtain ⟨sb, hsb'⟩ : ∃ b, b = s.toNat * 9223372036854775808 := ⟨_, rfl⟩
    rw [← hsb'] at w6 v2 hbm ⊢
    obtain ⟨y, hy⟩ : ∃ y, y = sb + a + f := ⟨_, rfl⟩
    rw [← hy] at hbm v2 ⊢
    refine fpure rfl rfl (fw Tryd.func65 (by kernel_rfl) rfl (by kernel_rfl) fun C L T hT hS => ?_) []
    simp only [gX,gT,gM,gL,gB,wantedA,evOp,opv,absC,absC0,isAggT,resA,resultA,eqA,eqGuardA,isConstA,isFlatScalar,shiftOp,strOp,ordB,readN,sliceCells,lenA,storeA,newA,buildA,fillA,buildSliceA,boundsA,bndA,sliceA,ptrOK,fieldAddrA,fieldA,indexA,extractA,convA,isIntT,biA,bytesOf,setAll,List.replicate,Nat.reduceAdd,Nat.reduceSub,Nat.reduceMul,Nat.reduceLT,Nat.reduceLeDiff,Nat.reduceEqDiff,Int.reduceEq,Int.reduceLT,Int.reduceLE,Int.reduceNe,Int.reduceAdd,Nat.reduceBEq,reduceCtorEq,lenB_nil,lenB_slice,lenB_oslice,lenB_str,lenB_agg,indexAddrA_slice,indexAddrA_oslice,indexAddrA_ptr,indexAddrA_optr,loadA_ptr,loadA_optr,lenK,indexK,loadK,Int.reduceBEq,Int.reduceBNe,Int.reduceMod,Int.reduceDiv,Int.reduceTDiv,Int.reduceTMod,Int.reduceFDiv,Int.reduceSub,Int.reduceNeg,Int.reduceGT,Int.reduceGE,BitVec.reduceOfInt,BitVec.reduceAnd,BitVec.reduceOr,BitVec.reduceXOr,BitVec.reduceToNat,Int.reduceToNat,Int.reducePow,Int.reduceMul,hT.all,Tryd.f65,hz]
    refine hS.one hi ?_
    simp only [gX,gT,gM,gL,gB,wantedA,evOp,opv,absC,absC0,isAggT,resA,resultA,binA,eqA,eqGuardA,isConstA,isFlatScalar,shiftOp,strOp,ordB,readN,sliceCells,lenA,storeA,newA,buildA,fillA,buildSliceA,boundsA,bndA,sliceA,ptrOK,fieldAddrA,fieldA,indexA,extractA,convA,isIntT,biA,bytesOf,setAll,List.replicate,Nat.reduceAdd,Nat.reduceSub,Nat.reduceMul,Nat.reduceLT,Nat.reduceLeDiff,Nat.reduceEqDiff,Int.reduceEq,Int.reduceLT,Int.reduceLE,Int.reduceNe,Int.reduceAdd,Nat.reduceBEq,reduceCtorEq,lenB_nil,lenB_slice,lenB_oslice,lenB_str,lenB_agg,indexAddrA_slice,indexAddrA_oslice,indexAddrA_ptr,indexAddrA_optr,loadA_ptr,loadA_optr,lenK,indexK,loadK,Int.reduceBEq,Int.reduceBNe,Int.reduceMod,Int.reduceDiv,Int.reduceTDiv,Int.reduceTMod,Int.reduceFDiv,Int.reduceSub,Int.reduceNeg,Int.reduceGT,Int.reduceGE,BitVec.reduceOfInt,BitVec.reduceAnd,BitVec.reduceOr,BitVec.reduceXOr,BitVec.reduceToNat,Int.reduceToNat,Int.reducePow,Int.reduceMul,hT.all]
    refine hS.one hq ?_
    simp only [gX,gT,gM,gL,gB,wantedA,evOp,opv,absC,absC0,isAggT,resA,resultA,binA,eqA,eqGuardA,isConstA,isFlatScalar,shiftOp,strOp,ordB,readN,sliceCells,lenA,storeA,newA,buildA,fillA,buildSliceA,boundsA,bndA,sliceA,ptrOK,fieldAddrA,fieldA,indexA,extractA,convA,isIntT,biA,bytesOf,setAll,List.replicate,Nat.reduceAdd,Nat.reduceSub,Nat.reduceMul,Nat.reduceLT,Nat.reduceLeDiff,Nat.reduceEqDiff,Int.reduceEq,Int.reduceLT,Int.reduceLE,Int.reduceNe,Int.reduceAdd,Nat.reduceBEq,reduceCtorEq,lenB_nil,lenB_slice,lenB_oslice,lenB_str,lenB_agg,indexAddrA_slice,indexAddrA_oslice,indexAddrA_ptr,indexAddrA_optr,loadA_ptr,loadA_optr,lenK,indexK,loadK,Int.reduceBEq,Int.reduceBNe,Int.reduceMod,Int.reduceDiv,Int.reduceTDiv,Int.reduceTMod,Int.reduceFDiv,Int.reduceSub,Int.reduceNeg,Int.reduceGT,Int.reduceGE,BitVec.reduceOfInt,BitVec.reduceAnd,BitVec.reduceOr,BitVec.reduceXOr,BitVec.reduceToNat,Int.reduceToNat,Int.reducePow,Int.reduceMul,hT.all]
    refine hS.one hno ?_
    simp only [gX,gT,gM,gL,gB,wantedA,evOp,opv,absC,absC0,isAggT,resA,resultA,binA,eqA,eqGuardA,isConstA,isFlatScalar,shiftOp,strOp,ordB,readN,sliceCells,lenA,storeA,newA,buildA,fillA,buildSliceA,boundsA,bndA,sliceA,ptrOK,fieldAddrA,fieldA,indexA,extractA,convA,isIntT,biA,bytesOf,setAll,List.replicate,Nat.reduceAdd,Nat.reduceSub,Nat.reduceMul,Nat.reduceLT,Nat.reduceLeDiff,Nat.reduceEqDiff,Int.reduceEq,Int.reduceLT,Int.reduceLE,Int.reduceNe,Int.reduceAdd,Nat.reduceBEq,reduceCtorEq,lenB_nil,lenB_slice,lenB_oslice,lenB_str,lenB_agg,indexAddrA_slice,indexAddrA_oslice,indexAddrA_ptr,indexAddrA_optr,loadA_ptr,loadA_optr,lenK,indexK,loadK,Int.reduceBEq,Int.reduceBNe,Int.reduceMod,Int.reduceDiv,Int.reduceTDiv,Int.reduceTMod,Int.reduceFDiv,Int.reduceSub,Int.reduceNeg,Int.reduceGT,Int.reduceGE,BitVec.reduceOfInt,BitVec.reduceAnd,BitVec.reduceOr,BitVec.reduceXOr,BitVec.reduceToNat,Int.reduceToNat,Int.reducePow,Int.reduceMul,hT.all,w0]
    refine hS.one (pBits M _ hxn) ?_
    simp only [gX,gT,gM,gL,gB,wantedA,evOp,opv,absC,absC0,isAggT,resA,resultA,binA,eqA,eqGuardA,isConstA,isFlatScalar,strOp,ordB,readN,sliceCells,lenA,storeA,newA,buildA,fillA,buildSliceA,boundsA,bndA,sliceA,ptrOK,fieldAddrA,fieldA,indexA,extractA,convA,isIntT,biA,bytesOf,setAll,List.replicate,Nat.reduceAdd,Nat.reduceSub,Nat.reduceMul,Nat.reduceLT,Nat.reduceLeDiff,Nat.reduceEqDiff,Int.reduceEq,Int.reduceLT,Int.reduceLE,Int.reduceNe,Int.reduceAdd,Nat.reduceBEq,reduceCtorEq,lenB_nil,lenB_slice,lenB_oslice,lenB_str,lenB_agg,indexAddrA_slice,indexAddrA_oslice,indexAddrA_ptr,indexAddrA_optr,loadA_ptr,loadA_optr,lenK,indexK,loadK,Int.reduceBEq,Int.reduceBNe,Int.reduceMod,Int.reduceDiv,Int.reduceTDiv,Int.reduceTMod,Int.reduceFDiv,Int.reduceSub,Int.reduceNeg,Int.reduceGT,Int.reduceGE,BitVec.reduceOfInt,BitVec.reduceAnd,BitVec.reduceOr,BitVec.reduceXOr,BitVec.reduceToNat,Int.reduceToNat,Int.reducePow,Int.reduceMul,hT.all,w0,w1,w2,w3,w4,w5,c1,c2,c3,w6,w8,w9,v1,v2]
    refine hS.one (pFrom M _ _) ?_
    simp only [gX,gT,gM,gL,gB,wantedA,evOp,opv,absC,absC0,isAggT,resA,resultA,eqA,eqGuardA,isConstA,isFlatScalar,shiftOp,strOp,ordB,readN,sliceCells,lenA,storeA,newA,buildA,fillA,buildSliceA,boundsA,bndA,sliceA,ptrOK,fieldAddrA,fieldA,indexA,extractA,convA,isIntT,biA,bytesOf,setAll,List.replicate,Nat.reduceAdd,Nat.reduceSub,Nat.reduceMul,Nat.reduceLT,Nat.reduceLeDiff,Nat.reduceEqDiff,Int.reduceEq,Int.reduceLT,Int.reduceLE,Int.reduceNe,Int.reduceAdd,Nat.reduceBEq,reduceCtorEq,lenB_nil,lenB_slice,lenB_oslice,lenB_str,lenB_agg,indexAddrA_slice,indexAddrA_oslice,indexAddrA_ptr,indexAddrA_optr,loadA_ptr,loadA_optr,lenK,indexK,loadK,Int.reduceBEq,Int.reduceBNe,Int.reduceMod,Int.reduceDiv,Int.reduceTDiv,Int.reduceTMod,Int.reduceFDiv,Int.reduceSub,Int.reduceNeg,Int.reduceGT,Int.reduceGE,BitVec.reduceOfInt,BitVec.reduceAnd,BitVec.reduceOr,BitVec.reduceXOr,BitVec.reduceToNat,Int.reduceToNat,Int.reducePow,Int.reduceMul,hT.all,hbm,Int.toNat_natCast]
  refine fpure rfl rfl (fw Tryd.func45 (by kernel_rfl) rfl (by kernel_rfl) fun C L T hT hS => ?_) H
  simp only [gX,gT,gM,gL,gB,wantedA,evOp,opv,absC,absC0,isAggT,resA,resultA,binA,eqA,eqGuardA,isConstA,isFlatScalar,shiftOp,strOp,ordB,readN,sliceCells,lenA,storeA,newA,buildA,fillA,buildSliceA,boundsA,bndA,sliceA,ptrOK,fieldAddrA,fieldA,indexA,extractA,convA,isIntT,biA,bytesOf,setAll,List.replicate,Nat.reduceAdd,Nat.reduceSub,Nat.reduceMul,Nat.reduceLT,Nat.reduceLeDiff,Nat.reduceEqDiff,Int.reduceEq,Int.reduceLT,Int.reduceLE,Int.reduceNe,Int.reduceAdd,Nat.reduceBEq,reduceCtorEq,lenB_nil,lenB_slice,lenB_oslice,lenB_str,lenB_agg,indexAddrA_slice,indexAddrA_oslice,indexAddrA_ptr,indexAddrA_optr,loadA_ptr,loadA_optr,lenK,indexK,loadK,Int.reduceBEq,Int.reduceBNe,Int.reduceMod,Int.reduceDiv,Int.reduceTDiv,Int.reduceTMod,Int.reduceFDiv,Int.reduceSub,Int.reduceNeg,Int.reduceGT,Int.reduceGE,BitVec.reduceOfInt,BitVec.reduceAnd,BitVec.reduceOr,BitVec.reduceXOr,BitVec.reduceToNat,Int.reduceToNat,Int.reducePow,Int.reduceMul,hT.all,Tryd.f45]
  refine hS.one core ?_
  simp only [gX,gT,gM,gL,gB,wantedA,evOp,opv,absC,absC0,isAggT,resA,resultA,binA,eqA,eqGuardA,isConstA,isFlatScalar,shiftOp,strOp,ordB,readN,sliceCells,lenA,storeA,newA,buildA,fillA,buildSliceA,boundsA,bndA,sliceA,ptrOK,fieldAddrA,fieldA,indexA,extractA,convA,isIntT,biA,bytesOf,setAll,List.replicate,Nat.reduceAdd,Nat.reduceSub,Nat.reduceMul,Nat.reduceLT,Nat.reduceLeDiff,Nat.reduceEqDiff,Int.reduceEq,Int.reduceLT,Int.reduceLE,Int.reduceNe,Int.reduceAdd,Nat.reduceBEq,reduceCtorEq,lenB_nil,lenB_slice,lenB_oslice,lenB_str,lenB_agg,indexAddrA_slice,indexAddrA_oslice,indexAddrA_ptr,indexAddrA_optr,loadA_ptr,loadA_optr,lenK,indexK,loadK,Int.reduceBEq,Int.reduceBNe,Int.reduceMod,Int.reduceDiv,Int.reduceTDiv,Int.reduceTMod,Int.reduceFDiv,Int.reduceSub,Int.reduceNeg,Int.reduceGT,Int.reduceGE,BitVec.reduceOfInt,BitVec.reduceAnd,BitVec.reduceOr,BitVec.reduceXOr,BitVec.reduceToNat,Int.reduceToNat,Int.reducePow,Int.reduceMul,hT.all]

theorem pLdexp0 (M : Addr → Option AV) (H : Heap) (i : Int) : SemF Tryd.prog M 45 [.float .f64 0, .int .i64 i] H fun v h => v = .float .f64 0 ∧ h = H := by
  have core : SemF Tryd.prog M 65 [.float .f64 0, .int .i64 i] [] fun v h => v = .float .f64 0 ∧ h = [] := by
    have hz : ∀ T t x y, binA T .eql t x y (.float .f64 0) (.float .f64 0) = some (.bool true) := by
      intro T t x y
      have := eql_dec (T := T) (t := t) (x := x) (y := y) (b := 0)
      rw [this, isNaN_of]; rfl
    refine fpure rfl rfl (fw Tryd.func65 (by kernel_rfl) rfl (by kernel_rfl) fun C L T hT hS => ?_) []
    simp only [gX,gT,gM,gL,gB,wantedA,evOp,opv,absC,absC0,isAggT,resA,resultA,eqA,eqGuardA,isConstA,isFlatScalar,shiftOp,strOp,ordB,readN,sliceCells,lenA,storeA,newA,buildA,fillA,buildSliceA,boundsA,bndA,sliceA,ptrOK,fieldAddrA,fieldA,indexA,extractA,convA,isIntT,biA,bytesOf,setAll,List.replicate,Nat.reduceAdd,Nat.reduceSub,Nat.reduceMul,Nat.reduceLT,Nat.reduceLeDiff,Nat.reduceEqDiff,Int.reduceEq,Int.reduceLT,Int.reduceLE,Int.reduceNe,Int.reduceAdd,Nat.reduceBEq,reduceCtorEq,lenB_nil,lenB_slice,lenB_oslice,lenB_str,lenB_agg,indexAddrA_slice,indexAddrA_oslice,indexAddrA_ptr,indexAddrA_optr,loadA_ptr,loadA_optr,lenK,indexK,loadK,Int.reduceBEq,Int.reduceBNe,Int.reduceMod,Int.reduceDiv,Int.reduceTDiv,Int.reduceTMod,Int.reduceFDiv,Int.reduceSub,Int.reduceNeg,Int.reduceGT,Int.reduceGE,BitVec.reduceOfInt,BitVec.reduceAnd,BitVec.reduceOr,BitVec.reduceXOr,BitVec.reduceToNat,Int.reduceToNat,Int.reducePow,Int.reduceMul,hT.all,Tryd.f65,hz]
  refine fpure rfl rfl (fw Tryd.func45 (by kernel_rfl) rfl (by kernel_rfl) fun C L T hT hS => ?_) H
  simp only [gX,gT,gM,gL,gB,wantedA,evOp,opv,absC,absC0,isAggT,resA,resultA,binA,eqA,eqGuardA,isConstA,isFlatScalar,shiftOp,strOp,ordB,readN,sliceCells,lenA,storeA,newA,buildA,fillA,buildSliceA,boundsA,bndA,sliceA,ptrOK,fieldAddrA,fieldA,indexA,extractA,convA,isIntT,biA,bytesOf,setAll,List.replicate,Nat.reduceAdd,Nat.reduceSub,Nat.reduceMul,Nat.reduceLT,Nat.reduceLeDiff,Nat.reduceEqDiff,Int.reduceEq,Int.reduceLT,Int.reduceLE,Int.reduceNe,Int.reduceAdd,Nat.reduceBEq,reduceCtorEq,lenB_nil,lenB_slice,lenB_oslice,lenB_str,lenB_agg,indexAddrA_slice,indexAddrA_oslice,indexAddrA_ptr,indexAddrA_optr,loadA_ptr,loadA_optr,lenK,indexK,loadK,Int.reduceBEq,Int.reduceBNe,Int.reduceMod,Int.reduceDiv,Int.reduceTDiv,Int.reduceTMod,Int.reduceFDiv,Int.reduceSub,Int.reduceNeg,Int.reduceGT,Int.reduceGE,BitVec.reduceOfInt,BitVec.reduceAnd,BitVec.reduceOr,BitVec.reduceXOr,BitVec.reduceToNat,Int.reduceToNat,Int.reducePow,Int.reduceMul,hT.all,Tryd.f45]
  refine hS.one core ?_
  simp only [gX,gT,gM,gL,gB,wantedA,evOp,opv,absC,absC0,isAggT,resA,resultA,binA,eqA,eqGuardA,isConstA,isFlatScalar,shiftOp,strOp,ordB,readN,sliceCells,lenA,storeA,newA,buildA,fillA,buildSliceA,boundsA,bndA,sliceA,ptrOK,fieldAddrA,fieldA,indexA,extractA,convA,isIntT,biA,bytesOf,setAll,List.replicate,Nat.reduceAdd,Nat.reduceSub,Nat.reduceMul,Nat.reduceLT,Nat.reduceLeDiff,Nat.reduceEqDiff,Int.reduceEq,Int.reduceLT,Int.reduceLE,Int.reduceNe,Int.reduceAdd,Nat.reduceBEq,reduceCtorEq,lenB_nil,lenB_slice,lenB_oslice,lenB_str,lenB_agg,indexAddrA_slice,indexAddrA_oslice,indexAddrA_ptr,indexAddrA_optr,loadA_ptr,loadA_optr,lenK,indexK,loadK,Int.reduceBEq,Int.reduceBNe,Int.reduceMod,Int.reduceDiv,Int.reduceTDiv,Int.reduceTMod,Int.reduceFDiv,Int.reduceSub,Int.reduceNeg,Int.reduceGT,Int.reduceGE,BitVec.reduceOfInt,BitVec.reduceAnd,BitVec.reduceOr,BitVec.reduceXOr,BitVec.reduceToNat,Int.reduceToNat,Int.reducePow,Int.reduceMul,hT.all]

/-- A dyad's float, scaled up again: the whole number. -/
theorem pLdexpUp (M : Addr → Option AV) (H : Heap) {x : Int} {e : Nat} (hx : In53 x) (he : e ≤ 60) : SemF Tryd.prog M 45 [.float .f64 (dF x (e : Int)), .int .i64 (e : Int)] H fun v h => v = .float .f64 (dF x 0) ∧ h = H := by
  unfold In53 at hx
  by_cases h0 : x = 0
  · subst h0
    have z : ∀ i : Int, dF 0 i = 0 := fun i => by
      unfold dF
      rw [decide_eq_false (by omega), word_false]
      show rung 0 _ = 0
      unfold rung
      rw [if_pos rfl]
    rw [z, z]
    exact pLdexp0 M H _
  · have hm : x.natAbs ≤ 9007199254740992 := by omega
    have hm0 : x.natAbs ≠ 0 := by omega
    have hlog := log2_small (k := 54) hm0 (by rw [show 2 ^ 54 = 18014398509481984 by decide]; omega)
    have hkb := kept_bounds hm0
    have hke := kept_exact hm0 hm
    have r1 := rung_dyad hm0 hm he
    have r2 := rung_dyad (e := 0) hm0 hm (by omega)
    have h := pLdexpN M H (decide (x < 0)) (r := rung x.natAbs (-(e : Int))) (E := x.natAbs.log2 + 1023 - e) (K := x.natAbs.log2 + 1023) (i := (e : Int)) (by omega) (by omega) (by omega) (by omega) (by omega) (by omega) (by omega) (by omega)
    unfold dF
    have e1 : (x.natAbs.log2 + 1023) * 4503599627370496 + rung x.natAbs (-(e : Int)) % 4503599627370496 = rung x.natAbs (-((0 : Nat) : Int)) := by omega
    rw [e1] at h
    exact h

theorem gt_word {T : Tab} {t : TypeId} {x y : Operand} {r q : Nat} (hr : r ≤ 9218868437227405312) (hq : q ≤ 9218868437227405312) : binA T .gtr t x y (.float .f64 r) (.float .f64 q) = some (.bool (decide (q < r))) := by
  have ho := order_word (s := false) (t := false) (r := r) (q := q) hr hq
  rw [show D.word false r = r by rfl, show D.word false q = q by rfl, sval_false, sval_false] at ho
  simp only [binA, fArith, if_true]
  rw [show FloatKind.f64.format = D from rfl, ho]
  simp only [ordB, Option.map_some]
  congr 2
  rcases Nat.lt_trichotomy r q with h | h | h
  · have hl := V_lt h
    rw [compare_lt (by omega), decide_eq_false (by omega)]; rfl
  · rw [h, compare_eq, decide_eq_false (by omega)]; rfl
  · have hl := V_lt h
    rw [compare_gt (by omega), decide_eq_true h]; rfl

theorem toInt_whole {s : Bool} {m : Nat} (h0 : m ≠ 0) (hm : m ≤ 9007199254740992) : Ieee.Datum.toInt .zero (FloatKind.decode .f64 (D.word s (rung m 0))) = some (if s = true then -(m : Int) else m) := by
  obtain ⟨q1, q2, q3⟩ := rung_int h0 hm
  have hk := kept_exact h0 hm
  have hkb := kept_bounds h0
  have hlog := log2_small (k := 54) h0 (by rw [show 2 ^ 54 = 18014398509481984 by decide]; omega)
  show Ieee.Datum.toInt .zero (D.read (D.word s (rung m 0))) = _
  rw [read_word q1, q2, q3]
  obtain ⟨k, hkk⟩ : ∃ k, k = kept m := ⟨_, rfl⟩
  obtain ⟨L, hL⟩ : ∃ L, L = m.log2 := ⟨_, rfl⟩
  rw [← hkk] at hk hkb ⊢
  rw [← hL] at hk hlog ⊢
  unfold Ieee.Datum.toInt Ieee.Datum.integral
  simp only
  have hc : Ieee.Toward.zero.cut s (k <<< (-1074 + ((L + 1022 : Nat) : Int)).toNat) (-(-1074 + ((L + 1022 : Nat) : Int))).toNat = m := by
    by_cases c : L ≤ 52
    · rw [show (-1074 + ((L + 1022 : Nat) : Int)).toNat = 0 by omega, show (-(-1074 + ((L + 1022 : Nat) : Int))).toNat = 52 - L by omega, Nat.shiftLeft_zero]
      unfold Ieee.Toward.cut
      have hl52 : k.log2 = 52 := log2_of (by rw [show 2 ^ 52 = 4503599627370496 by decide]; omega) (by rw [show 2 ^ (52 + 1) = 9007199254740992 by decide]; omega)
      rw [hl52, Nat.min_eq_left (by omega)]
      simp only [Bool.toNat_false, Nat.add_zero, Nat.one_shiftLeft]
      have hp := Nat.two_pow_pos L
      have e1 : (4503599627370496 : Nat) = 2 ^ (52 - L) * 2 ^ L := by rw [← Nat.pow_add, show 52 - L + L = 52 by omega]
      have e2 : k = m * 2 ^ (52 - L) := by
        have := hk.2
        rw [e1, ← Nat.mul_assoc] at this
        exact Nat.eq_of_mul_eq_mul_right hp this
      rw [e2, Nat.mul_div_cancel _ (Nat.two_pow_pos _)]
    · have hL3 : L = 53 := by omega
      subst hL3
      rw [show (-1074 + ((53 + 1022 : Nat) : Int)).toNat = 1 by decide, show (-(-1074 + ((53 + 1022 : Nat) : Int))).toNat = 0 by decide]
      unfold Ieee.Toward.cut
      rw [Nat.zero_min]
      simp only [Bool.toNat_false, Nat.add_zero, Nat.shiftLeft_zero, Nat.div_one]
      have e1 : (2 : Nat) ^ 53 = 9007199254740992 := by decide
      rw [e1] at hk
      rw [Nat.shiftLeft_eq]
      omega
  rw [hc]
  unfold Ieee.signed
  rw [Nat.shiftLeft_zero]

/-- The last place of a dyad's float. -/
theorem last_dF {m e : Nat} (h0 : m ≠ 0) (hm : m ≤ 9007199254740992) (he : e ≤ 60) : rung m (-(e : Int)) ≠ 0 ∧ rung m (-(e : Int)) < 9218868437227405312 ∧ SC.lastE (rung m (-(e : Int))) = -(e : Int) + tz m := by
  obtain ⟨hr, hV⟩ := rung_V (i := -(e : Int)) hm (by omega) (by omega)
  have r1 := rung_dyad h0 hm he
  have hkb := kept_bounds h0
  obtain ⟨r, hrr⟩ : ∃ r, r = rung m (-(e : Int)) := ⟨_, rfl⟩
  rw [← hrr] at hr hV r1 ⊢
  rw [V_mag] at hV
  have hg0 : magOf r ≠ 0 := by unfold magOf; split <;> omega
  have hgl : magOf r < 9007199254740992 := by unfold magOf; split <;> omega
  obtain ⟨a1, a2, a3⟩ := tz_spec hg0 (by omega)
  obtain ⟨b1, b2, b3⟩ := tz_spec h0 (by omega)
  refine ⟨by omega, hr, ?_⟩
  unfold SC.lastE
  have key : magOf r / 2 ^ tz (magOf r) * 2 ^ (tz (magOf r) + upOf r) = m / 2 ^ tz m * 2 ^ (tz m + (-(e : Int) + 1074).toNat) := by
    rw [Nat.pow_add, ← Nat.mul_assoc, ← a1, hV, Nat.pow_add, ← Nat.mul_assoc, ← b1]
  have := (odd_pow_unique a2 b2 key).1
  omega

theorem exV_dF {x : Int} {e k : Nat} (hx : In53 x) (he : e ≤ 60) : (k = e → SC.exV (rung x.natAbs (-(e : Int))) (k : Int) = true) ∧ (k < e → x.tmod 2 ≠ 0 → SC.exV (rung x.natAbs (-(e : Int))) (k : Int) = false) := by
  unfold In53 at hx
  unfold SC.exV
  by_cases h0 : x = 0
  · subst h0
    refine ⟨fun _ => ?_, fun _ h => absurd rfl h⟩
    rw [if_pos (show rung (0 : Int).natAbs (-(e : Int)) = 0 from by
      show rung 0 _ = 0
      unfold rung
      rw [if_pos rfl])]
  · obtain ⟨l1, _, l3⟩ := last_dF (m := x.natAbs) (e := e) (by omega) (by omega) he
    rw [if_neg l1, l3]
    refine ⟨fun h => decide_eq_true (by omega), fun h1 h2 => decide_eq_false ?_⟩
    have hodd : x.natAbs % 2 = 1 := by
      rw [Int.tmod_eq_emod] at h2
      split at h2 <;> omega
    rw [tz_odd hodd]
    omega

end Go.Proofs.YtaaecodkdgkjoaaDoor.B
