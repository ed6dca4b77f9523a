/- Part of a claim: check sums; copies; seals. -/
import Derived.Test.YtnmignkabcblgaaDoorC4
set_option linter.unusedSimpArgs false
set_option linter.unusedVariables false
set_option maxRecDepth 100000
set_option maxHeartbeats 10000000
namespace Go.Proofs.YtnmignkabcblgaaDoor.C
open Go Go.RowKit Go.Proofs.YtnmignkabcblgaaDoor.E Go.Proofs.YtnmignkabcblgaaDoor.B

theorem wrap_bv32 (x : BitVec 32) : IntKind.u32.wrap (x.toNat : Int) = x.toNat := wrap_u32 (by omega) (by have := x.isLt; omega)
theorem ofInt_bv32 (x : BitVec 32) : BitVec.ofInt 32 (x.toNat : Int) = x := by simp

/-- One bit of a sum. -/
def crcStep (x : BitVec 32) : BitVec 32 := if x.getLsbD 0 then (x >>> 1) ^^^ 2197175160#32 else x >>> 1
def crcSteps : Nat → BitVec 32 → BitVec 32
  | 0, x => x
  | n + 1, x => crcSteps n (crcStep x)
theorem crcSteps_succ : ∀ (n : Nat) (x : BitVec 32), crcSteps (n + 1) x = crcStep (crcSteps n x)
  | 0, _ => rfl
  | n + 1, x => by rw [crcSteps, crcSteps_succ n]; rfl
/-- One byte. -/
def crcByte (x : BitVec 32) (b : UInt8) : BitVec 32 := crcSteps 8 (x ^^^ b.toBitVec.setWidth 32)
def crcRaw (bs : List UInt8) : BitVec 32 := bs.foldl crcByte 4294967295#32
def crc (bs : List UInt8) : BitVec 32 := ~~~ crcRaw bs

theorem byte_bv32 (b : UInt8) : IntKind.u32.wrap (b.toNat : Int) = ((b.toBitVec.setWidth 32).toNat : Int) := by
  have : b.toNat < 256 := b.toNat_lt
  rw [wrap_u32 (by omega) (by omega)]
  simp

theorem lsb_and (x : BitVec 32) : ((x &&& 1#32).toNat : Int) = if x.getLsbD 0 then 1 else 0 := by
  have h : (x &&& 1#32).toNat = x.toNat % 2 := by
    rw [BitVec.toNat_and]
    exact Nat.and_one_is_mod _
  rw [h]
  have h2 : x.getLsbD 0 = decide (x.toNat % 2 = 1) := by
    rw [BitVec.getLsbD]
    simp [Nat.testBit_zero]
  rw [h2]
  by_cases h3 : x.toNat % 2 = 1
  · simp [h3]
  · simp [h3]; omega
theorem lsb_mod (x : BitVec 32) : (x.toNat : Int).tmod 2 = if x.getLsbD 0 then 1 else 0 := by
  rw [← lsb_and]
  have h : (x &&& 1#32).toNat = x.toNat % 2 := by
    rw [BitVec.toNat_and]
    exact Nat.and_one_is_mod _
  rw [h]
  rw [Int.tmod_eq_emod_of_nonneg (by omega)]
  omega
theorem shr_bv32 (x : BitVec 32) : (x.toNat : Int).fdiv 2 = ((x >>> 1).toNat : Int) := by
  rw [Int.fdiv_eq_ediv_of_nonneg _ (by omega), BitVec.toNat_ushiftRight, Nat.shiftRight_eq_div_pow]
  omega
theorem div_bv32 (x : BitVec 32) : (x.toNat : Int).tdiv 2 = ((x >>> 1).toNat : Int) := by
  rw [← shr_bv32, Int.tdiv_eq_ediv_of_nonneg (by omega), Int.fdiv_eq_ediv_of_nonneg _ (by omega)]

theorem pSum (M : Addr → Option AV) {H : Heap} {v : AV} {vs : List AV} {bss : List (List UInt8)} (hv : Sees M H 1 v vs) (hl : vs.length = bss.length) (hlen : bss.length < 1000000000000000000) (hb : ∀ (i : Nat) (x : AV) (bs : List UInt8), vs[i]? = some x → bss[i]? = some bs → Sees M H 1 x (cellsB bs) ∧ bs.length < 1000000000000000000) :
    SemF Tryd.prog M 24 [v] H fun r h => r = .int .u32 (crc bss.flatten).toNat ∧ h = H := by
  refine fw Tryd.func24 (by kernel_rfl) rfl (by kernel_rfl) fun C L T hT hS => ?_
  have e1 : ∀ ts, lenB T (50 :: ts) v = some (.int .i64 bss.length) := fun ts => by rw [← hl]; exact hv.lenB (by omega) (by omega) hT.ty50 rfl
  simp only [gX, gM, gL, gB, List.map_cons, List.map_nil, wantedA, evOp, opv, absC, absC0, isAggT, resA, resultA, binA, eqA, eqGuardA, isConstA, isFlatScalar, shiftOp, strOp, ordB, readN, sliceCells, lenA, storeA, newA, buildA, fillA, buildSliceA, boundsA, bndA, sliceA, ptrOK, fieldAddrA, fieldA, indexA, extractA, convA, isIntT, biA, bytesOf, setAll, List.replicate, List.cons.injEq, exists_eq_left', exists_eq_left, exists_eq_right', eq_self, Option.map_some, Option.map_none, Option.bind_some, Option.bind_none, Option.some.injEq, Prod.mk.injEq, Nat.reduceAdd, Nat.reduceSub, Nat.reduceMul, Nat.reduceLT, Nat.reduceLeDiff, Nat.reduceEqDiff, Int.reduceEq, Int.reduceLT, Int.reduceLE, Int.reduceNe, Int.reduceAdd, beq_self_eq_true, Option.bind_eq_bind, Option.pure_def, bind_pure_comp, Option.map_eq_map, decide_eq_true_eq, ne_eq, not_false_eq_true, not_true_eq_false, Nat.lt_irrefl, Nat.reduceBEq, if_true, if_false, ite_true, ite_false, reduceCtorEq, Bool.false_eq_true, lenB_nil, lenB_slice, lenB_oslice, lenB_str, lenB_agg, indexAddrA_slice, indexAddrA_oslice, indexAddrA_ptr, indexAddrA_optr, loadA_ptr, loadA_optr, lenK, indexK, loadK, Option.toList_some, Option.toList_none, Int.reduceBEq, Int.reduceBNe, Int.reduceMod, Int.reduceDiv, Int.reduceTDiv, Int.reduceTMod, Int.reduceFDiv, Int.reduceSub, Int.reduceNeg, Int.reduceGT, Int.reduceGE, BitVec.reduceOfInt, BitVec.reduceAnd, BitVec.reduceOr, BitVec.reduceXOr, BitVec.reduceToNat, Int.cast_ofNat_Int, Int.reduceToNat, Int.reducePow, Nat.min_eq_left, Int.reduceMul, List.mapM_cons, List.mapM_nil, hT.all, Tryd.f24, e1]
  refine hS.loop (fun m e h => ∃ (i : Nat) (x : BitVec 32) (j4 j5 j6 j7 j8 : AV) (j : List AV), e = v :: .tup [] :: .int .u32 0 :: .int .u32 x.toNat :: j4 :: j5 :: j6 :: j7 :: j8 :: v :: .int .i64 bss.length :: .int .i64 i :: j ∧ j.length = 28 ∧ i + m = bss.length ∧ x = crcRaw (bss.take i).flatten ∧ H = h) bss.length ⟨0, 4294967295#32, _, _, _, _, _, _, rfl, rfl, by omega, rfl, rfl⟩ ?_
  rintro m e h ⟨i, x, j4, j5, j6, j7, j8, j, rfl, hj, hi, hx, rfl⟩ J hJ
  obtain ⟨g, rfl⟩ : ∃ g : Nat → AV, j = [g 0, g 1, g 2, g 3, g 4, g 5, g 6, g 7, g 8, g 9, g 10, g 11, g 12, g 13, g 14, g 15, g 16, g 17, g 18, g 19, g 20, g 21, g 22, g 23, g 24, g 25, g 26, g 27] := junk 28 j hj
  by_cases hlt : i < bss.length
  rotate_left
  · have g1 : ¬ (i : Int) < bss.length := by omega
    simp only [gX, gM, gL, gB, List.map_cons, List.map_nil, wantedA, evOp, opv, absC, absC0, isAggT, resA, resultA, binA, eqA, eqGuardA, isConstA, isFlatScalar, shiftOp, strOp, ordB, readN, sliceCells, lenA, storeA, newA, buildA, fillA, buildSliceA, boundsA, bndA, sliceA, ptrOK, fieldAddrA, fieldA, indexA, extractA, convA, isIntT, biA, bytesOf, setAll, List.replicate, List.cons.injEq, exists_eq_left', exists_eq_left, exists_eq_right', eq_self, Option.map_some, Option.map_none, Option.bind_some, Option.bind_none, Option.some.injEq, Prod.mk.injEq, Nat.reduceAdd, Nat.reduceSub, Nat.reduceMul, Nat.reduceLT, Nat.reduceLeDiff, Nat.reduceEqDiff, Int.reduceEq, Int.reduceLT, Int.reduceLE, Int.reduceNe, Int.reduceAdd, beq_self_eq_true, Option.bind_eq_bind, Option.pure_def, bind_pure_comp, Option.map_eq_map, decide_eq_true_eq, ne_eq, not_false_eq_true, not_true_eq_false, Nat.lt_irrefl, Nat.reduceBEq, if_true, if_false, ite_true, ite_false, reduceCtorEq, Bool.false_eq_true, lenB_nil, lenB_slice, lenB_oslice, lenB_str, lenB_agg, indexAddrA_slice, indexAddrA_oslice, indexAddrA_ptr, indexAddrA_optr, loadA_ptr, loadA_optr, lenK, indexK, loadK, Option.toList_some, Option.toList_none, Int.reduceBEq, Int.reduceBNe, Int.reduceMod, Int.reduceDiv, Int.reduceTDiv, Int.reduceTMod, Int.reduceFDiv, Int.reduceSub, Int.reduceNeg, Int.reduceGT, Int.reduceGE, BitVec.reduceOfInt, BitVec.reduceAnd, BitVec.reduceOr, BitVec.reduceXOr, BitVec.reduceToNat, Int.cast_ofNat_Int, Int.reduceToNat, Int.reducePow, Nat.min_eq_left, Int.reduceMul, List.mapM_cons, List.mapM_nil, hT.all, g1, ofInt_bv32, wrap_bv32]
    have : bss.take i = bss := List.take_of_length_le (by omega)
    rw [this] at hx
    rw [hx, crc]
    congr 3
    first | done | simp [BitVec.xor_comm]
  have g1 : (i : Int) < bss.length := by omega
  obtain ⟨bs, hbs⟩ : ∃ bs, bss[i]? = some bs := ⟨bss[i], List.getElem?_eq_getElem hlt⟩
  obtain ⟨pv, hpv⟩ : ∃ pv, vs[i]? = some pv := ⟨vs[i]'(by omega), List.getElem?_eq_getElem (by omega)⟩
  obtain ⟨hp, hpl⟩ := hb i pv bs hpv hbs
  have e2 : indexAddrA T H 50 v (.int .i64 (i : Int)) = some (placeA v i 1) := by
    have := hv.index (T := T) (k := .i64) (n := (i : Int)) (by omega) (by omega) (by omega) hT.ty50 rfl hT.ty24 rfl
    simpa using this
  have e3 : loadA T M H 24 (placeA v i 1) = some pv := hv.load hpv hT.ty24 rfl
  have e4 : ∀ ts, lenB T (24 :: ts) pv = some (.int .i64 bs.length) := fun ts => hp.lenB (by simp) (by omega) hT.ty24 rfl
  have hwi : IntKind.i64.wrap ((i : Int) + 1) = ((i + 1 : Nat) : Int) := by rw [wrap_i64 (by omega) (by omega)]; omega
  simp only [gX, gM, gL, gB, List.map_cons, List.map_nil, wantedA, evOp, opv, absC, absC0, isAggT, resA, resultA, binA, eqA, eqGuardA, isConstA, isFlatScalar, shiftOp, strOp, ordB, readN, sliceCells, lenA, storeA, newA, buildA, fillA, buildSliceA, boundsA, bndA, sliceA, ptrOK, fieldAddrA, fieldA, indexA, extractA, convA, isIntT, biA, bytesOf, setAll, List.replicate, List.cons.injEq, exists_eq_left', exists_eq_left, exists_eq_right', eq_self, Option.map_some, Option.map_none, Option.bind_some, Option.bind_none, Option.some.injEq, Prod.mk.injEq, Nat.reduceAdd, Nat.reduceSub, Nat.reduceMul, Nat.reduceLT, Nat.reduceLeDiff, Nat.reduceEqDiff, Int.reduceEq, Int.reduceLT, Int.reduceLE, Int.reduceNe, Int.reduceAdd, beq_self_eq_true, Option.bind_eq_bind, Option.pure_def, bind_pure_comp, Option.map_eq_map, decide_eq_true_eq, ne_eq, not_false_eq_true, not_true_eq_false, Nat.lt_irrefl, Nat.reduceBEq, if_true, if_false, ite_true, ite_false, reduceCtorEq, Bool.false_eq_true, lenB_nil, lenB_slice, lenB_oslice, lenB_str, lenB_agg, indexAddrA_slice, indexAddrA_oslice, indexAddrA_ptr, indexAddrA_optr, loadA_ptr, loadA_optr, lenK, indexK, loadK, Option.toList_some, Option.toList_none, Int.reduceBEq, Int.reduceBNe, Int.reduceMod, Int.reduceDiv, Int.reduceTDiv, Int.reduceTMod, Int.reduceFDiv, Int.reduceSub, Int.reduceNeg, Int.reduceGT, Int.reduceGE, BitVec.reduceOfInt, BitVec.reduceAnd, BitVec.reduceOr, BitVec.reduceXOr, BitVec.reduceToNat, Int.cast_ofNat_Int, Int.reduceToNat, Int.reducePow, Nat.min_eq_left, Int.reduceMul, List.mapM_cons, List.mapM_nil, hT.all, g1, e2, e3, e4]
  refine hS.loop (fun m' e h => ∃ (q : Nat) (y : BitVec 32) (j7 j8 : AV) (j : List AV), e = v :: .tup [] :: .int .u32 0 :: .int .u32 y.toNat :: j4 :: pv :: j6 :: j7 :: j8 :: v :: .int .i64 bss.length :: .int .i64 i :: .bool true :: placeA v i 1 :: pv :: pv :: .int .i64 bs.length :: .int .i64 q :: j ∧ j.length = 22 ∧ q + m' = bs.length ∧ y = (bs.take q).foldl crcByte x ∧ H = h) bs.length ⟨0, x, _, _, _, rfl, rfl, by omega, rfl, rfl⟩ ?_
  clear hj
  rintro m' e h ⟨q, y, j7, j8, j, rfl, hj, hq, hy, rfl⟩ J' hJ'
  obtain ⟨g, rfl⟩ : ∃ g : Nat → AV, j = [g 0, g 1, g 2, g 3, g 4, g 5, g 6, g 7, g 8, g 9, g 10, g 11, g 12, g 13, g 14, g 15, g 16, g 17, g 18, g 19, g 20, g 21] := junk 22 j hj
  by_cases hlt2 : q < bs.length
  rotate_left
  · have g2 : ¬ (q : Int) < bs.length := by omega
    simp only [gX, gM, gL, gB, List.map_cons, List.map_nil, wantedA, evOp, opv, absC, absC0, isAggT, resA, resultA, binA, eqA, eqGuardA, isConstA, isFlatScalar, shiftOp, strOp, ordB, readN, sliceCells, lenA, storeA, newA, buildA, fillA, buildSliceA, boundsA, bndA, sliceA, ptrOK, fieldAddrA, fieldA, indexA, extractA, convA, isIntT, biA, bytesOf, setAll, List.replicate, List.cons.injEq, exists_eq_left', exists_eq_left, exists_eq_right', eq_self, Option.map_some, Option.map_none, Option.bind_some, Option.bind_none, Option.some.injEq, Prod.mk.injEq, Nat.reduceAdd, Nat.reduceSub, Nat.reduceMul, Nat.reduceLT, Nat.reduceLeDiff, Nat.reduceEqDiff, Int.reduceEq, Int.reduceLT, Int.reduceLE, Int.reduceNe, Int.reduceAdd, beq_self_eq_true, Option.bind_eq_bind, Option.pure_def, bind_pure_comp, Option.map_eq_map, decide_eq_true_eq, ne_eq, not_false_eq_true, not_true_eq_false, Nat.lt_irrefl, Nat.reduceBEq, if_true, if_false, ite_true, ite_false, reduceCtorEq, Bool.false_eq_true, lenB_nil, lenB_slice, lenB_oslice, lenB_str, lenB_agg, indexAddrA_slice, indexAddrA_oslice, indexAddrA_ptr, indexAddrA_optr, loadA_ptr, loadA_optr, lenK, indexK, loadK, Option.toList_some, Option.toList_none, Int.reduceBEq, Int.reduceBNe, Int.reduceMod, Int.reduceDiv, Int.reduceTDiv, Int.reduceTMod, Int.reduceFDiv, Int.reduceSub, Int.reduceNeg, Int.reduceGT, Int.reduceGE, BitVec.reduceOfInt, BitVec.reduceAnd, BitVec.reduceOr, BitVec.reduceXOr, BitVec.reduceToNat, Int.cast_ofNat_Int, Int.reduceToNat, Int.reducePow, Nat.min_eq_left, Int.reduceMul, List.mapM_cons, List.mapM_nil, hT.all, g2, hwi]
    refine hJ (m - 1) _ _ _ (by omega) (Weak.refl _) ⟨i + 1, y, _, _, _, _, _, _, rfl, rfl, by omega, ?_, rfl⟩
    have ht : bs.take q = bs := List.take_of_length_le (by omega)
    rw [hy, hx, ht, List.take_add_one, hbs]
    simp [crcRaw]
  have g2 : (q : Int) < bs.length := by omega
  have hcb : (cellsB bs)[q]? = some (u8 bs[q]) := by simp [List.getElem?_eq_getElem hlt2]
  have e5 : indexAddrA T H 24 pv (.int .i64 (q : Int)) = some (placeA pv q 1) := by
    have := hp.index (T := T) (k := .i64) (n := (q : Int)) (by omega) (by simp; omega) (by omega) hT.ty24 rfl hT.ty5 rfl
    simpa using this
  have e6 : loadA T M H 5 (placeA pv q 1) = some (.int .u8 bs[q].toNat) := hp.load hcb hT.ty5 rfl
  have hwq : IntKind.i64.wrap ((q : Int) + 1) = ((q + 1 : Nat) : Int) := by rw [wrap_i64 (by omega) (by omega)]; omega
  simp only [gX, gM, gL, gB, List.map_cons, List.map_nil, wantedA, evOp, opv, absC, absC0, isAggT, resA, resultA, binA, eqA, eqGuardA, isConstA, isFlatScalar, shiftOp, strOp, ordB, readN, sliceCells, lenA, storeA, newA, buildA, fillA, buildSliceA, boundsA, bndA, sliceA, ptrOK, fieldAddrA, fieldA, indexA, extractA, convA, isIntT, biA, bytesOf, setAll, List.replicate, List.cons.injEq, exists_eq_left', exists_eq_left, exists_eq_right', eq_self, Option.map_some, Option.map_none, Option.bind_some, Option.bind_none, Option.some.injEq, Prod.mk.injEq, Nat.reduceAdd, Nat.reduceSub, Nat.reduceMul, Nat.reduceLT, Nat.reduceLeDiff, Nat.reduceEqDiff, Int.reduceEq, Int.reduceLT, Int.reduceLE, Int.reduceNe, Int.reduceAdd, beq_self_eq_true, Option.bind_eq_bind, Option.pure_def, bind_pure_comp, Option.map_eq_map, decide_eq_true_eq, ne_eq, not_false_eq_true, not_true_eq_false, Nat.lt_irrefl, Nat.reduceBEq, if_true, if_false, ite_true, ite_false, reduceCtorEq, Bool.false_eq_true, lenB_nil, lenB_slice, lenB_oslice, lenB_str, lenB_agg, indexAddrA_slice, indexAddrA_oslice, indexAddrA_ptr, indexAddrA_optr, loadA_ptr, loadA_optr, lenK, indexK, loadK, Option.toList_some, Option.toList_none, Int.reduceBEq, Int.reduceBNe, Int.reduceMod, Int.reduceDiv, Int.reduceTDiv, Int.reduceTMod, Int.reduceFDiv, Int.reduceSub, Int.reduceNeg, Int.reduceGT, Int.reduceGE, BitVec.reduceOfInt, BitVec.reduceAnd, BitVec.reduceOr, BitVec.reduceXOr, BitVec.reduceToNat, Int.cast_ofNat_Int, Int.reduceToNat, Int.reducePow, Nat.min_eq_left, Int.reduceMul, List.mapM_cons, List.mapM_nil, hT.all, g2, e5, e6, byte_bv32, ofInt_bv32, wrap_bv32]
  refine hS.loop (fun m'' e h => ∃ (k : Nat) (z : BitVec 32) (j8 : AV) (j : List AV), e = v :: .tup [] :: .int .u32 0 :: .int .u32 z.toNat :: j4 :: pv :: j6 :: .int .u8 bs[q].toNat :: j8 :: v :: .int .i64 bss.length :: .int .i64 i :: .bool true :: placeA v i 1 :: pv :: pv :: .int .i64 bs.length :: .int .i64 q :: .bool true :: placeA pv q 1 :: .int .u8 bs[q].toNat :: .int .u32 y.toNat :: .int .u8 bs[q].toNat :: .int .u32 (bs[q].toBitVec.setWidth 32).toNat :: .int .u32 (y ^^^ bs[q].toBitVec.setWidth 32).toNat :: .int .i64 k :: j ∧ j.length = 14 ∧ k + m'' = 8 ∧ z = crcSteps k (y ^^^ bs[q].toBitVec.setWidth 32) ∧ H = h) 8 ⟨0, _, _, _, rfl, rfl, by omega, rfl, rfl⟩ ?_
  clear hj
  rintro m'' e h ⟨k, z, j8, j, rfl, hj, hk, hz, rfl⟩ J'' hJ''
  obtain ⟨g, rfl⟩ : ∃ g : Nat → AV, j = [g 0, g 1, g 2, g 3, g 4, g 5, g 6, g 7, g 8, g 9, g 10, g 11, g 12, g 13] := junk 14 j hj
  by_cases hlt3 : k < 8
  rotate_left
  · have g3 : ¬ (k : Int) < 8 := by omega
    simp only [gX, gM, gL, gB, List.map_cons, List.map_nil, wantedA, evOp, opv, absC, absC0, isAggT, resA, resultA, binA, eqA, eqGuardA, isConstA, isFlatScalar, shiftOp, strOp, ordB, readN, sliceCells, lenA, storeA, newA, buildA, fillA, buildSliceA, boundsA, bndA, sliceA, ptrOK, fieldAddrA, fieldA, indexA, extractA, convA, isIntT, biA, bytesOf, setAll, List.replicate, List.cons.injEq, exists_eq_left', exists_eq_left, exists_eq_right', eq_self, Option.map_some, Option.map_none, Option.bind_some, Option.bind_none, Option.some.injEq, Prod.mk.injEq, Nat.reduceAdd, Nat.reduceSub, Nat.reduceMul, Nat.reduceLT, Nat.reduceLeDiff, Nat.reduceEqDiff, Int.reduceEq, Int.reduceLT, Int.reduceLE, Int.reduceNe, Int.reduceAdd, beq_self_eq_true, Option.bind_eq_bind, Option.pure_def, bind_pure_comp, Option.map_eq_map, decide_eq_true_eq, ne_eq, not_false_eq_true, not_true_eq_false, Nat.lt_irrefl, Nat.reduceBEq, if_true, if_false, ite_true, ite_false, reduceCtorEq, Bool.false_eq_true, lenB_nil, lenB_slice, lenB_oslice, lenB_str, lenB_agg, indexAddrA_slice, indexAddrA_oslice, indexAddrA_ptr, indexAddrA_optr, loadA_ptr, loadA_optr, lenK, indexK, loadK, Option.toList_some, Option.toList_none, Int.reduceBEq, Int.reduceBNe, Int.reduceMod, Int.reduceDiv, Int.reduceTDiv, Int.reduceTMod, Int.reduceFDiv, Int.reduceSub, Int.reduceNeg, Int.reduceGT, Int.reduceGE, BitVec.reduceOfInt, BitVec.reduceAnd, BitVec.reduceOr, BitVec.reduceXOr, BitVec.reduceToNat, Int.cast_ofNat_Int, Int.reduceToNat, Int.reducePow, Nat.min_eq_left, Int.reduceMul, List.mapM_cons, List.mapM_nil, hT.all, g3, hwq]
    refine hJ' (m' - 1) _ _ _ (by omega) (Weak.refl _) ⟨q + 1, z, _, _, _, rfl, rfl, by omega, ?_, rfl⟩
    have hk8 : k = 8 := by omega
    have ht : bs.take (q + 1) = bs.take q ++ [bs[q]] := by rw [List.take_add_one, List.getElem?_eq_getElem hlt2]; rfl
    rw [ht, List.foldl_append, hz, hk8, hy]; rfl
  have g3 : (k : Int) < 8 := by omega
  have hwk : IntKind.i64.wrap ((k : Int) + 1) = ((k + 1 : Nat) : Int) := by rw [wrap_i64 (by omega) (by omega)]; omega
  have hl1 := lsb_and z
  cases hb0 : z.getLsbD 0 with
  | true =>
    rw [hb0, if_pos rfl] at hl1
    simp only [gX, gM, gL, gB, List.map_cons, List.map_nil, wantedA, evOp, opv, absC, absC0, isAggT, resA, resultA, binA, eqA, eqGuardA, isConstA, isFlatScalar, shiftOp, strOp, ordB, readN, sliceCells, lenA, storeA, newA, buildA, fillA, buildSliceA, boundsA, bndA, sliceA, ptrOK, fieldAddrA, fieldA, indexA, extractA, convA, isIntT, biA, bytesOf, setAll, List.replicate, List.cons.injEq, exists_eq_left', exists_eq_left, exists_eq_right', eq_self, Option.map_some, Option.map_none, Option.bind_some, Option.bind_none, Option.some.injEq, Prod.mk.injEq, Nat.reduceAdd, Nat.reduceSub, Nat.reduceMul, Nat.reduceLT, Nat.reduceLeDiff, Nat.reduceEqDiff, Int.reduceEq, Int.reduceLT, Int.reduceLE, Int.reduceNe, Int.reduceAdd, beq_self_eq_true, Option.bind_eq_bind, Option.pure_def, bind_pure_comp, Option.map_eq_map, decide_eq_true_eq, ne_eq, not_false_eq_true, not_true_eq_false, Nat.lt_irrefl, Nat.reduceBEq, if_true, if_false, ite_true, ite_false, reduceCtorEq, Bool.false_eq_true, lenB_nil, lenB_slice, lenB_oslice, lenB_str, lenB_agg, indexAddrA_slice, indexAddrA_oslice, indexAddrA_ptr, indexAddrA_optr, loadA_ptr, loadA_optr, lenK, indexK, loadK, Option.toList_some, Option.toList_none, Int.reduceBEq, Int.reduceBNe, Int.reduceMod, Int.reduceDiv, Int.reduceTDiv, Int.reduceTMod, Int.reduceFDiv, Int.reduceSub, Int.reduceNeg, Int.reduceGT, Int.reduceGE, BitVec.reduceOfInt, BitVec.reduceAnd, BitVec.reduceOr, BitVec.reduceXOr, BitVec.reduceToNat, Int.cast_ofNat_Int, Int.reduceToNat, Int.reducePow, Nat.min_eq_left, Int.reduceMul, List.mapM_cons, List.mapM_nil, hT.all, g3, hwk, ofInt_bv32, wrap_bv32, hl1, shr_bv32]
    refine hJ'' (m'' - 1) _ _ _ (by omega) (Weak.refl _) ⟨k + 1, (z >>> 1) ^^^ 2197175160#32, _, _, rfl, rfl, by omega, ?_, rfl⟩
    rw [crcSteps_succ, ← hz, crcStep, hb0, if_pos rfl]
  | false =>
    rw [hb0, if_neg Bool.false_ne_true] at hl1
    simp only [gX, gM, gL, gB, List.map_cons, List.map_nil, wantedA, evOp, opv, absC, absC0, isAggT, resA, resultA, binA, eqA, eqGuardA, isConstA, isFlatScalar, shiftOp, strOp, ordB, readN, sliceCells, lenA, storeA, newA, buildA, fillA, buildSliceA, boundsA, bndA, sliceA, ptrOK, fieldAddrA, fieldA, indexA, extractA, convA, isIntT, biA, bytesOf, setAll, List.replicate, List.cons.injEq, exists_eq_left', exists_eq_left, exists_eq_right', eq_self, Option.map_some, Option.map_none, Option.bind_some, Option.bind_none, Option.some.injEq, Prod.mk.injEq, Nat.reduceAdd, Nat.reduceSub, Nat.reduceMul, Nat.reduceLT, Nat.reduceLeDiff, Nat.reduceEqDiff, Int.reduceEq, Int.reduceLT, Int.reduceLE, Int.reduceNe, Int.reduceAdd, beq_self_eq_true, Option.bind_eq_bind, Option.pure_def, bind_pure_comp, Option.map_eq_map, decide_eq_true_eq, ne_eq, not_false_eq_true, not_true_eq_false, Nat.lt_irrefl, Nat.reduceBEq, if_true, if_false, ite_true, ite_false, reduceCtorEq, Bool.false_eq_true, lenB_nil, lenB_slice, lenB_oslice, lenB_str, lenB_agg, indexAddrA_slice, indexAddrA_oslice, indexAddrA_ptr, indexAddrA_optr, loadA_ptr, loadA_optr, lenK, indexK, loadK, Option.toList_some, Option.toList_none, Int.reduceBEq, Int.reduceBNe, Int.reduceMod, Int.reduceDiv, Int.reduceTDiv, Int.reduceTMod, Int.reduceFDiv, Int.reduceSub, Int.reduceNeg, Int.reduceGT, Int.reduceGE, BitVec.reduceOfInt, BitVec.reduceAnd, BitVec.reduceOr, BitVec.reduceXOr, BitVec.reduceToNat, Int.cast_ofNat_Int, Int.reduceToNat, Int.reducePow, Nat.min_eq_left, Int.reduceMul, List.mapM_cons, List.mapM_nil, hT.all, g3, hwk, ofInt_bv32, wrap_bv32, hl1, shr_bv32]
    refine hJ'' (m'' - 1) _ _ _ (by omega) (Weak.refl _) ⟨k + 1, z >>> 1, _, _, rfl, rfl, by omega, ?_, rfl⟩
    rw [crcSteps_succ, ← hz, crcStep, hb0, if_neg Bool.false_ne_true]

end Go.Proofs.YtnmignkabcblgaaDoor.C
