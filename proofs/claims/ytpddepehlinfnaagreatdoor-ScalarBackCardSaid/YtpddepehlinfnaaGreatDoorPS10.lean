/- Part of a claim: a float taken apart, by the library and by the document. -/
import Derived.Test.YtpddepehlinfnaaGreatDoorPS9
import Derived.Test.YtpddepehlinfnaaGreatDoorPFN
set_option linter.unusedSimpArgs false
set_option linter.unusedVariables false
set_option maxRecDepth 100000
set_option maxHeartbeats 10000000
namespace Go.Proofs.YtpddepehlinfnaaGreatDoor.B
open Go Go.RowKit Go.Proofs.YtpddepehlinfnaaGreatDoor.E Go.Proofs.YtpddepehlinfnaaGreatDoor.FL

def isU8 (o : Option AV) (k : Nat) : Bool := match o with | some (.int .u8 n) => n == k | _ => false
theorem isU8_eq {o : Option AV} {k : Nat} (h : isU8 o k = true) : o = some (.int .u8 k) := by
  unfold isU8 at h
  split at h
  · rw [beq_iff_eq] at h; rw [h]
  · cases h

theorem addr_add (b i : Nat) : (⟨b, 0, none⟩ : Addr).add ((i : Int)).toNat = ⟨b, i, none⟩ := by
  unfold Addr.add
  rw [Int.toNat_natCast]
  split
  · rename_i h; rw [h]
  · rw [Nat.zero_add]
theorem load_cell {M : Addr → Option AV} {b i : Nat} {v : AV} (h : M ⟨b, i, none⟩ = some v) : List.mapM (fun j => Mc M ((⟨b, i, none⟩ : Addr).add j)) (List.range 1) = some [v] := by
  have e : (⟨b, i, none⟩ : Addr).add 0 = ⟨b, i, none⟩ := rfl
  rw [show List.range 1 = [0] by rfl, List.mapM_cons, List.mapM_nil, e]
  unfold Mc
  simp [h]

theorem deBruijn : ((List.range 64).all fun k => isU8 (tabM ⟨1, 2 ^ k * 285870213051353865 % 18446744073709551616 / 288230376151711744, none⟩) k && decide (2 ^ k * 285870213051353865 % 18446744073709551616 / 288230376151711744 < 64)) = true := by kernel_rfl

theorem pTrail (M : Addr → Option AV) (hM : ∀ a v, tabM a = some v → M a = some v) (H : Heap) {x k : Nat} (h0 : x ≠ 0) (h : x < 18446744073709551616) (hk : x &&& (18446744073709551616 - x) = 2 ^ k) (hk2 : k < 64) :
    SemF Tryz.prog M 71 [.int .u64 x] H fun v h => v = .int .i64 k ∧ h = H := by
  have b0 : ((x : Int) == 0) = false := by rw [beq_eq_false_iff_ne]; omega
  have w1 : IntKind.u64.wrap (0 - (x : Int)) = (18446744073709551616 - x : Nat) := by rw [wU]; omega
  have w2 := and64 (a := x) (b := 18446744073709551616 - x) h (by omega)
  rw [hk] at w2
  have hd := List.all_eq_true.1 deBruijn k (List.mem_range.2 hk2)
  simp only [Bool.and_eq_true, decide_eq_true_eq] at hd
  have hld := hM _ _ (isU8_eq hd.1)
  have hlt := hd.2
  have w3 : IntKind.u64.wrap (((2 ^ k : Nat) : Int) * 285870213051353865) = ((2 ^ k * 285870213051353865 % 18446744073709551616 : Nat) : Int) := by rw [wU]; omega
  have w4 := shrU (a := 2 ^ k * 285870213051353865 % 18446744073709551616) (n := 58) (by omega)
  rw [show ((58 : Nat) : Int) = 58 by rfl, show 2 ^ 58 = 288230376151711744 by decide] at w4
  have w5 : IntKind.i64.wrap ((k : Nat) : Int) = k := wrap_i64 (by omega) (by omega)
  obtain ⟨y, hy⟩ : ∃ y, y = 18446744073709551616 - x := ⟨_, rfl⟩
  obtain ⟨z, hz⟩ : ∃ z, z = 2 ^ k := ⟨_, rfl⟩
  rw [← hy] at w1 w2
  rw [← hz] at w2 w3 w4 hld hlt
  obtain ⟨q, hq⟩ : ∃ q, q = z * 285870213051353865 % 18446744073709551616 := ⟨_, rfl⟩
  rw [← hq] at w3 w4 hld hlt
  obtain ⟨i, hi⟩ : ∃ i, i = q / 288230376151711744 := ⟨_, rfl⟩
  rw [← hi] at w4 hld hlt
  have c1 : (0 : Int) ≤ (i : Int) ∧ (i : Int) < 64 := by omega
  have ha := addr_add 1 i
  have hlc := load_cell hld
  refine fpure rfl rfl (fw Tryz.func71 (by kernel_rfl) rfl (by kernel_rfl) fun C L T hT hS => ?_) H
  simp only [gX,gT,gM,gL,gB,wantedA,evOp,opv,absC,absC0,isAggT,resA,resultA,binA,eqA,eqGuardA,isConstA,isFlatScalar,strOp,ordB,readN,sliceCells,lenA,storeA,newA,buildA,fillA,buildSliceA,boundsA,bndA,sliceA,ptrOK,fieldAddrA,fieldA,indexA,extractA,convA,isIntT,biA,bytesOf,setAll,List.replicate,Nat.reduceAdd,Nat.reduceSub,Nat.reduceMul,Nat.reduceLT,Nat.reduceLeDiff,Nat.reduceEqDiff,Int.reduceEq,Int.reduceLT,Int.reduceLE,Int.reduceNe,Int.reduceAdd,Nat.reduceBEq,reduceCtorEq,lenB_nil,lenB_slice,lenB_oslice,lenB_str,lenB_agg,indexAddrA_slice,indexAddrA_oslice,indexAddrA_ptr,indexAddrA_optr,loadA_ptr,loadA_optr,lenK,indexK,loadK,Int.reduceBEq,Int.reduceBNe,Int.reduceMod,Int.reduceDiv,Int.reduceTDiv,Int.reduceTMod,Int.reduceFDiv,Int.reduceSub,Int.reduceNeg,Int.reduceGT,Int.reduceGE,BitVec.reduceOfInt,BitVec.reduceAnd,BitVec.reduceOr,BitVec.reduceXOr,BitVec.reduceToNat,Int.reduceToNat,Int.reducePow,Int.reduceMul,hT.all,Tryz.f71,b0,w1,w2,w3,w4,w5,c1,ha,hlc]

theorem pAbs (M : Addr → Option AV) (H : Heap) {n : Nat} (hn : isNaN .f64 n = false) : SemF Tryz.prog M 86 [.float .f64 n] H fun v h => v = .float .f64 (n % 9223372036854775808) ∧ h = H := by
  have w1 := clr n
  refine fpure rfl rfl (fw Tryz.func86 (by kernel_rfl) rfl (by kernel_rfl) fun C L T hT hS => ?_) H
  simp only [gX,gT,gM,gL,gB,wantedA,evOp,opv,absC,absC0,isAggT,resA,resultA,binA,eqA,eqGuardA,isConstA,isFlatScalar,shiftOp,strOp,ordB,readN,sliceCells,lenA,storeA,newA,buildA,fillA,buildSliceA,boundsA,bndA,sliceA,ptrOK,fieldAddrA,fieldA,indexA,extractA,convA,isIntT,biA,bytesOf,setAll,List.replicate,Nat.reduceAdd,Nat.reduceSub,Nat.reduceMul,Nat.reduceLT,Nat.reduceLeDiff,Nat.reduceEqDiff,Int.reduceEq,Int.reduceLT,Int.reduceLE,Int.reduceNe,Int.reduceAdd,Nat.reduceBEq,reduceCtorEq,lenB_nil,lenB_slice,lenB_oslice,lenB_str,lenB_agg,indexAddrA_slice,indexAddrA_oslice,indexAddrA_ptr,indexAddrA_optr,loadA_ptr,loadA_optr,lenK,indexK,loadK,Int.reduceBEq,Int.reduceBNe,Int.reduceMod,Int.reduceDiv,Int.reduceTDiv,Int.reduceTMod,Int.reduceFDiv,Int.reduceSub,Int.reduceNeg,Int.reduceGT,Int.reduceGE,BitVec.reduceOfInt,BitVec.reduceAnd,BitVec.reduceOr,BitVec.reduceXOr,BitVec.reduceToNat,Int.reduceToNat,Int.reducePow,Int.reduceMul,hT.all,Tryz.f86]
  refine hS.one (pBits M _ hn) ?_
  simp only [gX,gT,gM,gL,gB,wantedA,evOp,opv,absC,absC0,isAggT,resA,resultA,binA,eqA,eqGuardA,isConstA,isFlatScalar,shiftOp,strOp,ordB,readN,sliceCells,lenA,storeA,newA,buildA,fillA,buildSliceA,boundsA,bndA,sliceA,ptrOK,fieldAddrA,fieldA,indexA,extractA,convA,isIntT,biA,bytesOf,setAll,List.replicate,Nat.reduceAdd,Nat.reduceSub,Nat.reduceMul,Nat.reduceLT,Nat.reduceLeDiff,Nat.reduceEqDiff,Int.reduceEq,Int.reduceLT,Int.reduceLE,Int.reduceNe,Int.reduceAdd,Nat.reduceBEq,reduceCtorEq,lenB_nil,lenB_slice,lenB_oslice,lenB_str,lenB_agg,indexAddrA_slice,indexAddrA_oslice,indexAddrA_ptr,indexAddrA_optr,loadA_ptr,loadA_optr,lenK,indexK,loadK,Int.reduceBEq,Int.reduceBNe,Int.reduceMod,Int.reduceDiv,Int.reduceTDiv,Int.reduceTMod,Int.reduceFDiv,Int.reduceSub,Int.reduceNeg,Int.reduceGT,Int.reduceGE,BitVec.reduceOfInt,BitVec.reduceAnd,BitVec.reduceOr,BitVec.reduceXOr,BitVec.reduceToNat,Int.reduceToNat,Int.reducePow,Int.reduceMul,hT.all,w1]
  refine hS.one (pFrom M _ _) ?_
  simp only [gX,gT,gM,gL,gB,wantedA,evOp,opv,absC,absC0,isAggT,resA,resultA,binA,eqA,eqGuardA,isConstA,isFlatScalar,shiftOp,strOp,ordB,readN,sliceCells,lenA,storeA,newA,buildA,fillA,buildSliceA,boundsA,bndA,sliceA,ptrOK,fieldAddrA,fieldA,indexA,extractA,convA,isIntT,biA,bytesOf,setAll,List.replicate,Nat.reduceAdd,Nat.reduceSub,Nat.reduceMul,Nat.reduceLT,Nat.reduceLeDiff,Nat.reduceEqDiff,Int.reduceEq,Int.reduceLT,Int.reduceLE,Int.reduceNe,Int.reduceAdd,Nat.reduceBEq,reduceCtorEq,lenB_nil,lenB_slice,lenB_oslice,lenB_str,lenB_agg,indexAddrA_slice,indexAddrA_oslice,indexAddrA_ptr,indexAddrA_optr,loadA_ptr,loadA_optr,lenK,indexK,loadK,Int.reduceBEq,Int.reduceBNe,Int.reduceMod,Int.reduceDiv,Int.reduceTDiv,Int.reduceTMod,Int.reduceFDiv,Int.reduceSub,Int.reduceNeg,Int.reduceGT,Int.reduceGE,BitVec.reduceOfInt,BitVec.reduceAnd,BitVec.reduceOr,BitVec.reduceXOr,BitVec.reduceToNat,Int.reduceToNat,Int.reducePow,Int.reduceMul,hT.all]

theorem pIsInf0 (M : Addr → Option AV) (H : Heap) {n : Nat} (hn : isNaN .f64 n = false) : SemF Tryz.prog M 54 [.float .f64 n, .int .i64 0] H fun v h => v = .bool (decide (n % 9223372036854775808 = 9218868437227405312)) ∧ h = H := by
  have hm := num_lt hn
  obtain ⟨r, hr⟩ : ∃ r, r = n % 9223372036854775808 := ⟨_, rfl⟩
  have ha := pAbs M [] hn
  rw [← hr] at ha hm ⊢
  have e1 : ∀ T t x y, binA T .gtr t x y (.float .f64 r) (.float .f64 9218868437227405311) = some (.bool (decide (r = 9218868437227405312))) := by
    intro T t x y
    have := gt_max (T := T) (t := t) (x := x) (y := y) false hm
    rw [show D.word false r = r by rfl] at this
    rw [this]
    congr 2
    rw [decide_eq_decide]
    exact ⟨fun h => h.2, fun h => ⟨rfl, h⟩⟩
  refine fpure rfl rfl (fw Tryz.func54 (by kernel_rfl) rfl (by kernel_rfl) fun C L T hT hS => ?_) H
  simp only [gX,gT,gM,gL,gB,wantedA,evOp,opv,absC,absC0,isAggT,resA,resultA,eqA,eqGuardA,isConstA,isFlatScalar,shiftOp,strOp,ordB,readN,sliceCells,lenA,storeA,newA,buildA,fillA,buildSliceA,boundsA,bndA,sliceA,ptrOK,fieldAddrA,fieldA,indexA,extractA,convA,isIntT,biA,bytesOf,setAll,List.replicate,Nat.reduceAdd,Nat.reduceSub,Nat.reduceMul,Nat.reduceLT,Nat.reduceLeDiff,Nat.reduceEqDiff,Int.reduceEq,Int.reduceLT,Int.reduceLE,Int.reduceNe,Int.reduceAdd,Nat.reduceBEq,reduceCtorEq,lenB_nil,lenB_slice,lenB_oslice,lenB_str,lenB_agg,indexAddrA_slice,indexAddrA_oslice,indexAddrA_ptr,indexAddrA_optr,loadA_ptr,loadA_optr,lenK,indexK,loadK,Int.reduceBEq,Int.reduceBNe,Int.reduceMod,Int.reduceDiv,Int.reduceTDiv,Int.reduceTMod,Int.reduceFDiv,Int.reduceSub,Int.reduceNeg,Int.reduceGT,Int.reduceGE,BitVec.reduceOfInt,BitVec.reduceAnd,BitVec.reduceOr,BitVec.reduceXOr,BitVec.reduceToNat,Int.reduceToNat,Int.reducePow,Int.reduceMul,hT.all,Tryz.f54,binA_int]
  refine hS.one ha ?_
  simp only [gX,gT,gM,gL,gB,wantedA,evOp,opv,absC,absC0,isAggT,resA,resultA,eqA,eqGuardA,isConstA,isFlatScalar,shiftOp,strOp,ordB,readN,sliceCells,lenA,storeA,newA,buildA,fillA,buildSliceA,boundsA,bndA,sliceA,ptrOK,fieldAddrA,fieldA,indexA,extractA,convA,isIntT,biA,bytesOf,setAll,List.replicate,Nat.reduceAdd,Nat.reduceSub,Nat.reduceMul,Nat.reduceLT,Nat.reduceLeDiff,Nat.reduceEqDiff,Int.reduceEq,Int.reduceLT,Int.reduceLE,Int.reduceNe,Int.reduceAdd,Nat.reduceBEq,reduceCtorEq,lenB_nil,lenB_slice,lenB_oslice,lenB_str,lenB_agg,indexAddrA_slice,indexAddrA_oslice,indexAddrA_ptr,indexAddrA_optr,loadA_ptr,loadA_optr,lenK,indexK,loadK,Int.reduceBEq,Int.reduceBNe,Int.reduceMod,Int.reduceDiv,Int.reduceTDiv,Int.reduceTMod,Int.reduceFDiv,Int.reduceSub,Int.reduceNeg,Int.reduceGT,Int.reduceGE,BitVec.reduceOfInt,BitVec.reduceAnd,BitVec.reduceOr,BitVec.reduceXOr,BitVec.reduceToNat,Int.reduceToNat,Int.reducePow,Int.reduceMul,hT.all,e1]

theorem pIsNaN (M : Addr → Option AV) (H : Heap) (n : Nat) : SemF Tryz.prog M 101 [.float .f64 n] H fun v h => v = .bool (isNaN .f64 n) ∧ h = H := by
  refine fpure rfl rfl (fw Tryz.func101 (by kernel_rfl) rfl (by kernel_rfl) fun C L T hT hS => ?_) H
  simp only [gX,gT,gM,gL,gB,wantedA,evOp,opv,absC,absC0,isAggT,resA,resultA,eqA,eqGuardA,isConstA,isFlatScalar,shiftOp,strOp,ordB,readN,sliceCells,lenA,storeA,newA,buildA,fillA,buildSliceA,boundsA,bndA,sliceA,ptrOK,fieldAddrA,fieldA,indexA,extractA,convA,isIntT,biA,bytesOf,setAll,List.replicate,Nat.reduceAdd,Nat.reduceSub,Nat.reduceMul,Nat.reduceLT,Nat.reduceLeDiff,Nat.reduceEqDiff,Int.reduceEq,Int.reduceLT,Int.reduceLE,Int.reduceNe,Int.reduceAdd,Nat.reduceBEq,reduceCtorEq,lenB_nil,lenB_slice,lenB_oslice,lenB_str,lenB_agg,indexAddrA_slice,indexAddrA_oslice,indexAddrA_ptr,indexAddrA_optr,loadA_ptr,loadA_optr,lenK,indexK,loadK,Int.reduceBEq,Int.reduceBNe,Int.reduceMod,Int.reduceDiv,Int.reduceTDiv,Int.reduceTMod,Int.reduceFDiv,Int.reduceSub,Int.reduceNeg,Int.reduceGT,Int.reduceGE,BitVec.reduceOfInt,BitVec.reduceAnd,BitVec.reduceOr,BitVec.reduceXOr,BitVec.reduceToNat,Int.reduceToNat,Int.reducePow,Int.reduceMul,hT.all,Tryz.f101,neq_dec]

/-- The least normal number. -/
theorem lt_word {T : Tab} {t : TypeId} {x y : Operand} {r q : Nat} (hr : r ≤ 9218868437227405312) (hq : q ≤ 9218868437227405312) : binA T .lss t x y (.float .f64 r) (.float .f64 q) = some (.bool (decide (r < q))) := by
  have ho := order_word (s := false) (t := false) (r := r) (q := q) hr hq
  rw [show D.word false r = r by rfl, show D.word false q = q by rfl, sval_false, sval_false] at ho
  simp only [binA, fArith, if_true]
  rw [show FloatKind.f64.format = D from rfl, ho]
  simp only [ordB, Option.map_some]
  congr 2
  rcases Nat.lt_trichotomy r q with h | h | h
  · have hl := V_lt h
    rw [compare_lt (by omega), decide_eq_true h]; rfl
  · rw [h, compare_eq, decide_eq_false (by omega)]; rfl
  · have hl := V_lt h
    rw [compare_gt (by omega), decide_eq_false (by omega)]; rfl
theorem lt_normal {T : Tab} {t : TypeId} {x y : Operand} {r : Nat} (hr : r ≤ 9218868437227405312) : binA T .lss t x y (.float .f64 r) (.float .f64 4503599627370496) = some (.bool (decide (r < 4503599627370496))) := lt_word hr (by omega)

theorem mul_bin {x y w : Nat} (h : D.mul x y = some w) (T : Tab) (t : TypeId) (o p : Operand) : binA T .mul t o p (.float .f64 x) (.float .f64 y) = some (.float .f64 w) := by
  simp only [binA, fArith, if_true]
  rw [show FloatKind.f64.format = D from rfl, h]
  rfl

/-- A number made normal. -/
def normR (r : Nat) : Nat := if r < 4503599627370496 then rung r (-1022) else r
def normE (r : Nat) : Int := if r < 4503599627370496 then -52 else 0

theorem pNormalize (M : Addr → Option AV) (H : Heap) {n r : Nat} {s : Bool} (hn : n = D.word s r) (hr : r < 9218868437227405312) : SemF Tryz.prog M 102 [.float .f64 n] H fun v h => v = .tup [.float .f64 (D.word s (normR r)), .int .i64 (normE r)] ∧ h = H := by
  have hw := word_neg (s := s) (r := r) (by omega)
  rw [← hn, d_sw] at hw
  have hnn : isNaN .f64 n = false := by rw [isNaN_of, decide_eq_false_iff_not]; omega
  have ha := pAbs M [] hnn
  rw [hw.2] at ha
  have hl := fun T t x y => lt_normal (T := T) (t := t) (x := x) (y := y) (r := r) (by omega)
  unfold normR normE
  by_cases c : r < 4503599627370496
  · rw [if_pos c, if_pos c]
    simp only [decide_eq_true c] at hl
    have hm := mul_pow (s := s) (r := r) (k := 52) hr (by omega) (by omega)
    obtain ⟨e1, e2⟩ := mag_small (r := r) (by omega)
    rw [e1, e2, ← hn, show (1023 + 52 : Int).toNat * 4503599627370496 = 4841369599423283200 by decide, show (-1074 + ((0 : Nat) : Int) + 52) = -1022 by decide] at hm
    have hb := mul_bin hm
    refine fpure rfl rfl (fw Tryz.func102 (by kernel_rfl) rfl (by kernel_rfl) fun C L T hT hS => ?_) H
    simp only [gX,gT,gM,gL,gB,wantedA,evOp,opv,absC,absC0,isAggT,resA,resultA,binA,eqA,eqGuardA,isConstA,isFlatScalar,shiftOp,strOp,ordB,readN,sliceCells,lenA,storeA,newA,buildA,fillA,buildSliceA,boundsA,bndA,sliceA,ptrOK,fieldAddrA,fieldA,indexA,extractA,convA,isIntT,biA,bytesOf,setAll,List.replicate,Nat.reduceAdd,Nat.reduceSub,Nat.reduceMul,Nat.reduceLT,Nat.reduceLeDiff,Nat.reduceEqDiff,Int.reduceEq,Int.reduceLT,Int.reduceLE,Int.reduceNe,Int.reduceAdd,Nat.reduceBEq,reduceCtorEq,lenB_nil,lenB_slice,lenB_oslice,lenB_str,lenB_agg,indexAddrA_slice,indexAddrA_oslice,indexAddrA_ptr,indexAddrA_optr,loadA_ptr,loadA_optr,lenK,indexK,loadK,Int.reduceBEq,Int.reduceBNe,Int.reduceMod,Int.reduceDiv,Int.reduceTDiv,Int.reduceTMod,Int.reduceFDiv,Int.reduceSub,Int.reduceNeg,Int.reduceGT,Int.reduceGE,BitVec.reduceOfInt,BitVec.reduceAnd,BitVec.reduceOr,BitVec.reduceXOr,BitVec.reduceToNat,Int.reduceToNat,Int.reducePow,Int.reduceMul,hT.all,Tryz.f102]
    refine hS.one ha ?_
    simp only [gX,gT,gM,gL,gB,wantedA,evOp,opv,absC,absC0,isAggT,resA,resultA,eqA,eqGuardA,isConstA,isFlatScalar,shiftOp,strOp,ordB,readN,sliceCells,lenA,storeA,newA,buildA,fillA,buildSliceA,boundsA,bndA,sliceA,ptrOK,fieldAddrA,fieldA,indexA,extractA,convA,isIntT,biA,bytesOf,setAll,List.replicate,Nat.reduceAdd,Nat.reduceSub,Nat.reduceMul,Nat.reduceLT,Nat.reduceLeDiff,Nat.reduceEqDiff,Int.reduceEq,Int.reduceLT,Int.reduceLE,Int.reduceNe,Int.reduceAdd,Nat.reduceBEq,reduceCtorEq,lenB_nil,lenB_slice,lenB_oslice,lenB_str,lenB_agg,indexAddrA_slice,indexAddrA_oslice,indexAddrA_ptr,indexAddrA_optr,loadA_ptr,loadA_optr,lenK,indexK,loadK,Int.reduceBEq,Int.reduceBNe,Int.reduceMod,Int.reduceDiv,Int.reduceTDiv,Int.reduceTMod,Int.reduceFDiv,Int.reduceSub,Int.reduceNeg,Int.reduceGT,Int.reduceGE,BitVec.reduceOfInt,BitVec.reduceAnd,BitVec.reduceOr,BitVec.reduceXOr,BitVec.reduceToNat,Int.reduceToNat,Int.reducePow,Int.reduceMul,hT.all,hl,hb]
  · rw [if_neg c, if_neg c]
    simp only [decide_eq_false c] at hl
    rw [← hn]
    refine fpure rfl rfl (fw Tryz.func102 (by kernel_rfl) rfl (by kernel_rfl) fun C L T hT hS => ?_) H
    simp only [gX,gT,gM,gL,gB,wantedA,evOp,opv,absC,absC0,isAggT,resA,resultA,binA,eqA,eqGuardA,isConstA,isFlatScalar,shiftOp,strOp,ordB,readN,sliceCells,lenA,storeA,newA,buildA,fillA,buildSliceA,boundsA,bndA,sliceA,ptrOK,fieldAddrA,fieldA,indexA,extractA,convA,isIntT,biA,bytesOf,setAll,List.replicate,Nat.reduceAdd,Nat.reduceSub,Nat.reduceMul,Nat.reduceLT,Nat.reduceLeDiff,Nat.reduceEqDiff,Int.reduceEq,Int.reduceLT,Int.reduceLE,Int.reduceNe,Int.reduceAdd,Nat.reduceBEq,reduceCtorEq,lenB_nil,lenB_slice,lenB_oslice,lenB_str,lenB_agg,indexAddrA_slice,indexAddrA_oslice,indexAddrA_ptr,indexAddrA_optr,loadA_ptr,loadA_optr,lenK,indexK,loadK,Int.reduceBEq,Int.reduceBNe,Int.reduceMod,Int.reduceDiv,Int.reduceTDiv,Int.reduceTMod,Int.reduceFDiv,Int.reduceSub,Int.reduceNeg,Int.reduceGT,Int.reduceGE,BitVec.reduceOfInt,BitVec.reduceAnd,BitVec.reduceOr,BitVec.reduceXOr,BitVec.reduceToNat,Int.reduceToNat,Int.reducePow,Int.reduceMul,hT.all,Tryz.f102]
    refine hS.one ha ?_
    simp only [gX,gT,gM,gL,gB,wantedA,evOp,opv,absC,absC0,isAggT,resA,resultA,eqA,eqGuardA,isConstA,isFlatScalar,shiftOp,strOp,ordB,readN,sliceCells,lenA,storeA,newA,buildA,fillA,buildSliceA,boundsA,bndA,sliceA,ptrOK,fieldAddrA,fieldA,indexA,extractA,convA,isIntT,biA,bytesOf,setAll,List.replicate,Nat.reduceAdd,Nat.reduceSub,Nat.reduceMul,Nat.reduceLT,Nat.reduceLeDiff,Nat.reduceEqDiff,Int.reduceEq,Int.reduceLT,Int.reduceLE,Int.reduceNe,Int.reduceAdd,Nat.reduceBEq,reduceCtorEq,lenB_nil,lenB_slice,lenB_oslice,lenB_str,lenB_agg,indexAddrA_slice,indexAddrA_oslice,indexAddrA_ptr,indexAddrA_optr,loadA_ptr,loadA_optr,lenK,indexK,loadK,Int.reduceBEq,Int.reduceBNe,Int.reduceMod,Int.reduceDiv,Int.reduceTDiv,Int.reduceTMod,Int.reduceFDiv,Int.reduceSub,Int.reduceNeg,Int.reduceGT,Int.reduceGE,BitVec.reduceOfInt,BitVec.reduceAnd,BitVec.reduceOr,BitVec.reduceXOr,BitVec.reduceToNat,Int.reduceToNat,Int.reducePow,Int.reduceMul,hT.all,hl]

/-- Without its exponent. -/
theorem clrE {n : Nat} (h : n < 18446744073709551616) : IntKind.u64.wrap (((BitVec.ofInt 64 (n : Int)) &&& ~~~ 9218868437227405312#64).toNat : Int) = (n / 9223372036854775808 * 9223372036854775808 + n % 4503599627370496 : Nat) := by
  have e2 : (BitVec.ofNat 64 n &&& ~~~ 9218868437227405312#64).toNat = n / 9223372036854775808 * 9223372036854775808 + n % 4503599627370496 := by
    rw [BitVec.toNat_and, BitVec.toNat_ofNat, Nat.mod_eq_of_lt (show n < 2 ^ 64 by omega), show (~~~ 9218868437227405312#64 : BitVec 64).toNat = 2 ^ 63 + (2 ^ 52 - 1) by decide]
    have e3 : 2 ^ 63 + (2 ^ 52 - 1) = 2 ^ 63 ||| (2 ^ 52 - 1) := by
      have := Nat.two_pow_add_eq_or_of_lt (i := 63) (b := 2 ^ 52 - 1) (by decide) 1
      rw [Nat.mul_one] at this
      exact this
    rw [e3, Nat.and_or_distrib_left, Nat.and_two_pow_sub_one_eq_mod]
    have h4 : n &&& 2 ^ 63 = n / 9223372036854775808 * 2 ^ 63 := by
      have h5 := sgn n h
      rw [ofInt_nat, show (9223372036854775808#64 : BitVec 64) = BitVec.ofNat 64 (2 ^ 63) by decide, BitVec.toNat_and, BitVec.toNat_ofNat, BitVec.toNat_ofNat, Nat.mod_eq_of_lt (show n < 2 ^ 64 by omega), Nat.mod_eq_of_lt (show 2 ^ 63 < 2 ^ 64 by decide), wU] at h5
      have h6 : n &&& 2 ^ 63 ≤ 2 ^ 63 := Nat.and_le_right
      rw [show (2 : Nat) ^ 63 = 9223372036854775808 by decide] at h5 h6 ⊢
      split at h5 <;> omega
    rw [h4]
    have h7 : n % 2 ^ 52 < 2 ^ 63 := Nat.lt_of_lt_of_le (Nat.mod_lt _ (by decide)) (by decide)
    have h8 := Nat.two_pow_add_eq_or_of_lt h7 (n / 9223372036854775808)
    rw [Nat.mul_comm (2 ^ 63)] at h8
    rw [← h8, show (2 : Nat) ^ 63 = 9223372036854775808 by decide, show (2 : Nat) ^ 52 = 4503599627370496 by decide]
  rw [ofInt_nat, e2, wU]
  omega

/-- An exponent laid over. -/
theorem orE {b f k : Nat} (hb : b ≤ 1) (hf : f < 4503599627370496) (hk : k < 2048) : IntKind.u64.wrap (((BitVec.ofInt 64 ((b * 9223372036854775808 + f : Nat) : Int)) ||| (BitVec.ofNat 64 (k * 4503599627370496))).toNat : Int) = ((b * 9223372036854775808 + k * 4503599627370496 + f : Nat) : Int) := by
  have e1 : b * 9223372036854775808 + f = b * 2 ^ 63 ||| f := by
    have h7 : f < 2 ^ 63 := Nat.lt_of_lt_of_le hf (by decide)
    have h8 := Nat.two_pow_add_eq_or_of_lt h7 b
    rw [Nat.mul_comm (2 ^ 63)] at h8
    rw [← h8, show (2 : Nat) ^ 63 = 9223372036854775808 by decide]
  have e2 : k * 4503599627370496 + f = k * 2 ^ 52 ||| f := by
    have h8 := Nat.two_pow_add_eq_or_of_lt (i := 52) (b := f) (by rw [show 2 ^ 52 = 4503599627370496 by decide]; exact hf) k
    rw [Nat.mul_comm (2 ^ 52)] at h8
    rw [← h8, show (2 : Nat) ^ 52 = 4503599627370496 by decide]
  have e3 : b * 9223372036854775808 + (k * 4503599627370496 + f) = b * 2 ^ 63 ||| (k * 4503599627370496 + f) := by
    have h7 : k * 4503599627370496 + f < 2 ^ 63 := by rw [show (2 : Nat) ^ 63 = 9223372036854775808 by decide]; omega
    have h8 := Nat.two_pow_add_eq_or_of_lt h7 b
    rw [Nat.mul_comm (2 ^ 63)] at h8
    rw [← h8, show (2 : Nat) ^ 63 = 9223372036854775808 by decide]
  have e : (BitVec.ofNat 64 (b * 9223372036854775808 + f) ||| BitVec.ofNat 64 (k * 4503599627370496)).toNat = b * 9223372036854775808 + k * 4503599627370496 + f := by
    rw [BitVec.toNat_or, BitVec.toNat_ofNat, BitVec.toNat_ofNat, Nat.mod_eq_of_lt (by omega), Nat.mod_eq_of_lt (by omega), Nat.add_assoc, e3, e2, e1, Nat.or_assoc]
    rw [Nat.or_comm f, show (4503599627370496 : Nat) = 2 ^ 52 by decide]
  rw [ofInt_nat, e, wU]
  omega

end Go.Proofs.YtpddepehlinfnaaGreatDoor.B
