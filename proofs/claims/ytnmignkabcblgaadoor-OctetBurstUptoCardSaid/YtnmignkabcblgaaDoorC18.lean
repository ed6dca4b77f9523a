/- Part of a claim: the law OctetBurst: for every row of bytes, every place and mask it answers true. -/
import Derived.Test.YtnmignkabcblgaaDoorC17
set_option linter.unusedSimpArgs false
set_option linter.unusedVariables false
set_option maxRecDepth 100000
set_option maxHeartbeats 10000000
namespace Go.Proofs.YtnmignkabcblgaaDoor.C
open Go Go.RowKit Go.Proofs.YtnmignkabcblgaaDoor.E Go.Proofs.YtnmignkabcblgaaDoor.B

theorem one_shl (j : Nat) (hj : j < 8) : IntKind.u8.wrap (1 * 2 ^ j) = ((1#8 <<< j).toNat : Int) ∧ (1#8 <<< j).setWidth 32 = 1#32 <<< j := by
  have : j = 0 ∨ j = 1 ∨ j = 2 ∨ j = 3 ∨ j = 4 ∨ j = 5 ∨ j = 6 ∨ j = 7 := by omega
  rcases this with rfl | rfl | rfl | rfl | rfl | rfl | rfl | rfl <;> decide

theorem ofInt_bv8 (x : BitVec 8) : BitVec.ofInt 8 (x.toNat : Int) = x := by simp
theorem wrap_bv8 (x : BitVec 8) : IntKind.u8.wrap (x.toNat : Int) = x.toNat := wrap_u8_id (by omega) (by have := x.isLt; omega)
theorem ofInt_byte (b : UInt8) : BitVec.ofInt 8 (b.toNat : Int) = b.toBitVec := ofInt_bv8 b.toBitVec
theorem shr_mask (x : BitVec 32) (i : Nat) : (x.toNat : Int).fdiv (2 ^ i) = ((x >>> i).toNat : Int) := by
  rw [Int.fdiv_eq_ediv_of_nonneg _ (Int.pow_nonneg (by omega)), BitVec.toNat_ushiftRight, Nat.shiftRight_eq_div_pow]
  simp

theorem lawBurst (M : Addr → Option AV) (hM : ∀ a v, tabM a = some v → M a = some v) (v0 : AV) (bs : List UInt8) (hv : ∀ H, Sees M H 1 v0 (cellsB bs)) (hcap : Capped v0) (hlen : bs.length ≤ 10000000) (x : Int) (hx0 : 0 ≤ x) (mk : BitVec 32) :
    SemF Tryd.prog M 5 [v0, .int .u64 x, .int .u32 mk.toNat] [] fun r _ => r = .bool true := by
  refine fw Tryd.func5 (by kernel_rfl) rfl (by kernel_rfl) fun C L T hT hS => ?_
  have e1 : ∀ ts, lenB T (24 :: ts) v0 = some (.int .i64 bs.length) := fun ts => (hv []).lenB (by simp) (by omega) hT.ty24 rfl
  by_cases h0 : bs.length = 0
  · have g0 : ((bs.length : Int) == 0) = true := by simp [h0]
    simp only [gX, gM, gL, gB, List.map_cons, List.map_nil, wantedA, evOp, opv, absC, absC0, isAggT, resA, resultA, binA, eqA, eqGuardA, isConstA, isFlatScalar, shiftOp, strOp, ordB, readN, sliceCells, lenA, storeA, newA, buildA, fillA, buildSliceA, boundsA, bndA, sliceA, ptrOK, fieldAddrA, fieldA, indexA, extractA, convA, isIntT, biA, bytesOf, setAll, List.replicate, List.cons.injEq, exists_eq_left', exists_eq_left, exists_eq_right', eq_self, Option.map_some, Option.map_none, Option.bind_some, Option.bind_none, Option.some.injEq, Prod.mk.injEq, Nat.reduceAdd, Nat.reduceSub, Nat.reduceMul, Nat.reduceLT, Nat.reduceLeDiff, Nat.reduceEqDiff, Int.reduceEq, Int.reduceLT, Int.reduceLE, Int.reduceNe, Int.reduceAdd, beq_self_eq_true, Option.bind_eq_bind, Option.pure_def, bind_pure_comp, Option.map_eq_map, decide_eq_true_eq, ne_eq, not_false_eq_true, not_true_eq_false, Nat.lt_irrefl, Nat.reduceBEq, if_true, if_false, ite_true, ite_false, reduceCtorEq, Bool.false_eq_true, lenB_nil, lenB_slice, lenB_oslice, lenB_str, lenB_agg, indexAddrA_slice, indexAddrA_oslice, indexAddrA_ptr, indexAddrA_optr, loadA_ptr, loadA_optr, lenK, indexK, loadK, Option.toList_some, Option.toList_none, Int.reduceBEq, Int.reduceBNe, Int.reduceMod, Int.reduceDiv, Int.reduceTDiv, Int.reduceTMod, Int.reduceFDiv, Int.reduceSub, Int.reduceNeg, Int.reduceGT, Int.reduceGE, BitVec.reduceOfInt, BitVec.reduceAnd, BitVec.reduceOr, BitVec.reduceXOr, BitVec.reduceToNat, Int.cast_ofNat_Int, Int.reduceToNat, Int.reducePow, Nat.min_eq_left, Int.reduceMul, List.mapM_cons, List.mapM_nil, hT.all, Tryd.f5, e1, g0]
    refine hS.one (heads M hM _) ?_
    simp only [gX, gM, gL, gB, List.map_cons, List.map_nil, wantedA, evOp, opv, absC, absC0, isAggT, resA, resultA, binA, eqA, eqGuardA, isConstA, isFlatScalar, shiftOp, strOp, ordB, readN, sliceCells, lenA, storeA, newA, buildA, fillA, buildSliceA, boundsA, bndA, sliceA, ptrOK, fieldAddrA, fieldA, indexA, extractA, convA, isIntT, biA, bytesOf, setAll, List.replicate, List.cons.injEq, exists_eq_left', exists_eq_left, exists_eq_right', eq_self, Option.map_some, Option.map_none, Option.bind_some, Option.bind_none, Option.some.injEq, Prod.mk.injEq, Nat.reduceAdd, Nat.reduceSub, Nat.reduceMul, Nat.reduceLT, Nat.reduceLeDiff, Nat.reduceEqDiff, Int.reduceEq, Int.reduceLT, Int.reduceLE, Int.reduceNe, Int.reduceAdd, beq_self_eq_true, Option.bind_eq_bind, Option.pure_def, bind_pure_comp, Option.map_eq_map, decide_eq_true_eq, ne_eq, not_false_eq_true, not_true_eq_false, Nat.lt_irrefl, Nat.reduceBEq, if_true, if_false, ite_true, ite_false, reduceCtorEq, Bool.false_eq_true, lenB_nil, lenB_slice, lenB_oslice, lenB_str, lenB_agg, indexAddrA_slice, indexAddrA_oslice, indexAddrA_ptr, indexAddrA_optr, loadA_ptr, loadA_optr, lenK, indexK, loadK, Option.toList_some, Option.toList_none, Int.reduceBEq, Int.reduceBNe, Int.reduceMod, Int.reduceDiv, Int.reduceTDiv, Int.reduceTMod, Int.reduceFDiv, Int.reduceSub, Int.reduceNeg, Int.reduceGT, Int.reduceGE, BitVec.reduceOfInt, BitVec.reduceAnd, BitVec.reduceOr, BitVec.reduceXOr, BitVec.reduceToNat, Int.cast_ofNat_Int, Int.reduceToNat, Int.reducePow, Nat.min_eq_left, Int.reduceMul, List.mapM_cons, List.mapM_nil, hT.all]
  have g0 : ((bs.length : Int) == 0) = false := by rw [beq_eq_false_iff_ne]; omega
  simp only [gX, gM, gL, gB, List.map_cons, List.map_nil, wantedA, evOp, opv, absC, absC0, isAggT, resA, resultA, binA, eqA, eqGuardA, isConstA, isFlatScalar, shiftOp, strOp, ordB, readN, sliceCells, lenA, storeA, newA, buildA, fillA, buildSliceA, boundsA, bndA, sliceA, ptrOK, fieldAddrA, fieldA, indexA, extractA, convA, isIntT, biA, bytesOf, setAll, List.replicate, List.cons.injEq, exists_eq_left', exists_eq_left, exists_eq_right', eq_self, Option.map_some, Option.map_none, Option.bind_some, Option.bind_none, Option.some.injEq, Prod.mk.injEq, Nat.reduceAdd, Nat.reduceSub, Nat.reduceMul, Nat.reduceLT, Nat.reduceLeDiff, Nat.reduceEqDiff, Int.reduceEq, Int.reduceLT, Int.reduceLE, Int.reduceNe, Int.reduceAdd, beq_self_eq_true, Option.bind_eq_bind, Option.pure_def, bind_pure_comp, Option.map_eq_map, decide_eq_true_eq, ne_eq, not_false_eq_true, not_true_eq_false, Nat.lt_irrefl, Nat.reduceBEq, if_true, if_false, ite_true, ite_false, reduceCtorEq, Bool.false_eq_true, lenB_nil, lenB_slice, lenB_oslice, lenB_str, lenB_agg, indexAddrA_slice, indexAddrA_oslice, indexAddrA_ptr, indexAddrA_optr, loadA_ptr, loadA_optr, lenK, indexK, loadK, Option.toList_some, Option.toList_none, Int.reduceBEq, Int.reduceBNe, Int.reduceMod, Int.reduceDiv, Int.reduceTDiv, Int.reduceTMod, Int.reduceFDiv, Int.reduceSub, Int.reduceNeg, Int.reduceGT, Int.reduceGE, BitVec.reduceOfInt, BitVec.reduceAnd, BitVec.reduceOr, BitVec.reduceXOr, BitVec.reduceToNat, Int.cast_ofNat_Int, Int.reduceToNat, Int.reducePow, Nat.min_eq_left, Int.reduceMul, List.mapM_cons, List.mapM_nil, hT.all, Tryd.f5, e1, g0]
  refine hS.call (pSeal M (hv []) (by omega)) fun dv h1 hq => ?_
  obtain ⟨o, hm⟩ := hq
  obtain ⟨n, hn⟩ : ∃ n, n = bs.length := ⟨_, rfl⟩
  have hsl := sealB_length bs
  obtain ⟨sb, ep, sep, hdv, hsb, hse⟩ : ∃ sb ep sep, dv = .slice sb ep 0 1 (n + 4) none ∧ h1[sb]? = some (.c (cellsB (sealB bs)) 5 ep sep) ∧ sep ≤ ep := by
    have hr := hm.rep
    have hl : (cellsB (sealB bs)).length = n + 4 := by simp [hsl, hn]
    generalize cellsB (sealB bs) = cs at hr hl
    cases hr with
    | nil => simp at hl
    | own b ep sep m _ k1 k2 k3 => exact ⟨b, ep, sep, by rw [show m = n + 4 by omega], k1, k2⟩
    | empty b ep sep k1 k2 => simp at hl
  subst hdv
  have w0 : IntKind.i64.wrap ((bs.length : Int) + 4) = ((n + 4 : Nat) : Int) := by rw [wrap_i64 (by omega) (by omega)]; omega
  have w1 : IntKind.u64.wrap (bs.length : Int) = (bs.length : Int) := wrap_u64 (by omega) (by omega)
  have w2 : IntKind.u64.wrap (8 * (bs.length : Int)) = 8 * (bs.length : Int) := wrap_u64 (by omega) (by omega)
  have w3 : ¬ (8 * (bs.length : Int) = 0) := by omega
  obtain ⟨p0, hp0⟩ : ∃ p0 : Nat, x.tmod (8 * (bs.length : Int)) = p0 := ⟨(x.tmod (8 * (bs.length : Int))).toNat, by
    rw [Int.tmod_eq_emod_of_nonneg hx0]
    exact (Int.toNat_of_nonneg (Int.emod_nonneg x w3)).symm⟩
  have hp1 : p0 < 8 * n := by
    rw [Int.tmod_eq_emod_of_nonneg hx0] at hp0
    have := Int.emod_lt_of_pos x (b := 8 * (bs.length : Int)) (by omega)
    omega
  simp only [gX, gM, gL, gB, List.map_cons, List.map_nil, wantedA, evOp, opv, absC, absC0, isAggT, resA, resultA, binA, eqA, eqGuardA, isConstA, isFlatScalar, shiftOp, strOp, ordB, readN, sliceCells, lenA, storeA, newA, buildA, fillA, buildSliceA, boundsA, bndA, sliceA, ptrOK, fieldAddrA, fieldA, indexA, extractA, convA, isIntT, biA, bytesOf, setAll, List.replicate, List.cons.injEq, exists_eq_left', exists_eq_left, exists_eq_right', eq_self, Option.map_some, Option.map_none, Option.bind_some, Option.bind_none, Option.some.injEq, Prod.mk.injEq, Nat.reduceAdd, Nat.reduceSub, Nat.reduceMul, Nat.reduceLT, Nat.reduceLeDiff, Nat.reduceEqDiff, Int.reduceEq, Int.reduceLT, Int.reduceLE, Int.reduceNe, Int.reduceAdd, beq_self_eq_true, Option.bind_eq_bind, Option.pure_def, bind_pure_comp, Option.map_eq_map, decide_eq_true_eq, ne_eq, not_false_eq_true, not_true_eq_false, Nat.lt_irrefl, Nat.reduceBEq, if_true, if_false, ite_true, ite_false, reduceCtorEq, Bool.false_eq_true, lenB_nil, lenB_slice, lenB_oslice, lenB_str, lenB_agg, indexAddrA_slice, indexAddrA_oslice, indexAddrA_ptr, indexAddrA_optr, loadA_ptr, loadA_optr, lenK, indexK, loadK, Option.toList_some, Option.toList_none, Int.reduceBEq, Int.reduceBNe, Int.reduceMod, Int.reduceDiv, Int.reduceTDiv, Int.reduceTMod, Int.reduceFDiv, Int.reduceSub, Int.reduceNeg, Int.reduceGT, Int.reduceGE, BitVec.reduceOfInt, BitVec.reduceAnd, BitVec.reduceOr, BitVec.reduceXOr, BitVec.reduceToNat, Int.cast_ofNat_Int, Int.reduceToNat, Int.reducePow, Nat.min_eq_left, Int.reduceMul, List.mapM_cons, List.mapM_nil, hT.all, e1, w0, w1, w2, w3, hp0, bne_self_eq_false]
  refine hS.loop (fun mm e h => ∃ (i : Nat) (tu : Bool) (cur : List UInt8) (m : BitVec 32) (sp : Nat) (j : List AV), e = v0 :: .int .u64 p0 :: .int .u32 mk.toNat :: .tup [] :: .tup [] :: .tup [] :: .bool false :: .slice sb ep 0 1 (n + 4) none :: .bool tu :: .int .u64 i :: j ∧ j.length = 70 ∧ i + mm = 32 ∧
    h[sb]? = some (.c (cellsB (cur ++ leI (crc bs).toNat 4)) 5 ep sp) ∧ sp ≤ ep ∧ cur.length = n ∧ crcRaw cur = crcRaw bs ^^^ crcSteps (8 * n - p0) m ∧ (∀ q, i ≤ q → m.getLsbD q = false) ∧ tu = !decide (m = 0#32)) 32 ⟨0, false, bs, 0#32, sep, _, rfl, rfl, by omega, hsb, hse, hn.symm, ?_, fun q _ => by simp, by simp⟩ ?_
  · have : ∀ k, crcSteps k 0#32 = 0#32 := fun k => by
      induction k with
      | zero => rfl
      | succ k ih => rw [crcSteps]; exact ih
    rw [this, BitVec.xor_zero]
  rintro mm e h ⟨i, tu, cur, m, sp, j, rfl, hj, hi, hb, hsp, hcl, hcr, hmz, htu⟩ J hJ
  obtain ⟨g, rfl⟩ : ∃ g : Nat → AV, j = [g 0, g 1, g 2, g 3, g 4, g 5, g 6, g 7, g 8, g 9, g 10, g 11, g 12, g 13, g 14, g 15, g 16, g 17, g 18, g 19, g 20, g 21, g 22, g 23, g 24, g 25, g 26, g 27, g 28, g 29, g 30, g 31, g 32, g 33, g 34, g 35, g 36, g 37, g 38, g 39, g 40, g 41, g 42, g 43, g 44, g 45, g 46, g 47, g 48, g 49, g 50, g 51, g 52, g 53, g 54, g 55, g 56, g 57, g 58, g 59, g 60, g 61, g 62, g 63, g 64, g 65, g 66, g 67, g 68, g 69] := junk 70 j hj
  by_cases hlt : i < 32
  rotate_left
  · have g1 : ¬ (i : Int) < 32 := by omega
    simp only [gX, gM, gL, gB, List.map_cons, List.map_nil, wantedA, evOp, opv, absC, absC0, isAggT, resA, resultA, binA, eqA, eqGuardA, isConstA, isFlatScalar, shiftOp, strOp, ordB, readN, sliceCells, lenA, storeA, newA, buildA, fillA, buildSliceA, boundsA, bndA, sliceA, ptrOK, fieldAddrA, fieldA, indexA, extractA, convA, isIntT, biA, bytesOf, setAll, List.replicate, List.cons.injEq, exists_eq_left', exists_eq_left, exists_eq_right', eq_self, Option.map_some, Option.map_none, Option.bind_some, Option.bind_none, Option.some.injEq, Prod.mk.injEq, Nat.reduceAdd, Nat.reduceSub, Nat.reduceMul, Nat.reduceLT, Nat.reduceLeDiff, Nat.reduceEqDiff, Int.reduceEq, Int.reduceLT, Int.reduceLE, Int.reduceNe, Int.reduceAdd, beq_self_eq_true, Option.bind_eq_bind, Option.pure_def, bind_pure_comp, Option.map_eq_map, decide_eq_true_eq, ne_eq, not_false_eq_true, not_true_eq_false, Nat.lt_irrefl, Nat.reduceBEq, if_true, if_false, ite_true, ite_false, reduceCtorEq, Bool.false_eq_true, lenB_nil, lenB_slice, lenB_oslice, lenB_str, lenB_agg, indexAddrA_slice, indexAddrA_oslice, indexAddrA_ptr, indexAddrA_optr, loadA_ptr, loadA_optr, lenK, indexK, loadK, Option.toList_some, Option.toList_none, Int.reduceBEq, Int.reduceBNe, Int.reduceMod, Int.reduceDiv, Int.reduceTDiv, Int.reduceTMod, Int.reduceFDiv, Int.reduceSub, Int.reduceNeg, Int.reduceGT, Int.reduceGE, BitVec.reduceOfInt, BitVec.reduceAnd, BitVec.reduceOr, BitVec.reduceXOr, BitVec.reduceToNat, Int.cast_ofNat_Int, Int.reduceToNat, Int.reducePow, Nat.min_eq_left, Int.reduceMul, List.mapM_cons, List.mapM_nil, hT.all, g1]
    have hse2 : Sees M h 1 (.slice sb ep 0 1 (n + 4) none) (cellsB (cur ++ leI (crc bs).toNat 4)) := .own sb ep 0 (n + 4) none _ 5 ep sp _ hb hsp (by simp [hcl, leI_length]) (by rw [List.drop_zero, List.take_of_length_le (by simp [hcl, leI_length])])
    refine hS.call (pOpen M hse2 (by intro b e off s k c hh; cases hh) (by simp [hcl, leI_length]; omega)) fun r h2 hq => ?_
    obtain ⟨w, o2, rfl, _⟩ := hq
    rw [open_turned (by omega), hcr]
    by_cases hz : m = 0#32
    · have hz2 : crcRaw bs ^^^ crcSteps (8 * n - p0) m = crcRaw bs := by
        rw [hz]
        have : ∀ k, crcSteps k 0#32 = 0#32 := fun k => by
          induction k with
          | zero => rfl
          | succ k ih => rw [crcSteps]; exact ih
        rw [this, BitVec.xor_zero]
      rw [if_pos hz2]
      simp only [hz, decide_true, Bool.not_true] at htu
      subst htu
      simp only [gX, gM, gL, gB, List.map_cons, List.map_nil, wantedA, evOp, opv, absC, absC0, isAggT, resA, resultA, binA, eqA, eqGuardA, isConstA, isFlatScalar, shiftOp, strOp, ordB, readN, sliceCells, lenA, storeA, newA, buildA, fillA, buildSliceA, boundsA, bndA, sliceA, ptrOK, fieldAddrA, fieldA, indexA, extractA, convA, isIntT, biA, bytesOf, setAll, List.replicate, List.cons.injEq, exists_eq_left', exists_eq_left, exists_eq_right', eq_self, Option.map_some, Option.map_none, Option.bind_some, Option.bind_none, Option.some.injEq, Prod.mk.injEq, Nat.reduceAdd, Nat.reduceSub, Nat.reduceMul, Nat.reduceLT, Nat.reduceLeDiff, Nat.reduceEqDiff, Int.reduceEq, Int.reduceLT, Int.reduceLE, Int.reduceNe, Int.reduceAdd, beq_self_eq_true, Option.bind_eq_bind, Option.pure_def, bind_pure_comp, Option.map_eq_map, decide_eq_true_eq, ne_eq, not_false_eq_true, not_true_eq_false, Nat.lt_irrefl, Nat.reduceBEq, if_true, if_false, ite_true, ite_false, reduceCtorEq, Bool.false_eq_true, lenB_nil, lenB_slice, lenB_oslice, lenB_str, lenB_agg, indexAddrA_slice, indexAddrA_oslice, indexAddrA_ptr, indexAddrA_optr, loadA_ptr, loadA_optr, lenK, indexK, loadK, Option.toList_some, Option.toList_none, Int.reduceBEq, Int.reduceBNe, Int.reduceMod, Int.reduceDiv, Int.reduceTDiv, Int.reduceTMod, Int.reduceFDiv, Int.reduceSub, Int.reduceNeg, Int.reduceGT, Int.reduceGE, BitVec.reduceOfInt, BitVec.reduceAnd, BitVec.reduceOr, BitVec.reduceXOr, BitVec.reduceToNat, Int.cast_ofNat_Int, Int.reduceToNat, Int.reducePow, Nat.min_eq_left, Int.reduceMul, List.mapM_cons, List.mapM_nil, hT.all]
      refine hS.one (heads M hM _) ?_
      simp only [gX, gM, gL, gB, List.map_cons, List.map_nil, wantedA, evOp, opv, absC, absC0, isAggT, resA, resultA, binA, eqA, eqGuardA, isConstA, isFlatScalar, shiftOp, strOp, ordB, readN, sliceCells, lenA, storeA, newA, buildA, fillA, buildSliceA, boundsA, bndA, sliceA, ptrOK, fieldAddrA, fieldA, indexA, extractA, convA, isIntT, biA, bytesOf, setAll, List.replicate, List.cons.injEq, exists_eq_left', exists_eq_left, exists_eq_right', eq_self, Option.map_some, Option.map_none, Option.bind_some, Option.bind_none, Option.some.injEq, Prod.mk.injEq, Nat.reduceAdd, Nat.reduceSub, Nat.reduceMul, Nat.reduceLT, Nat.reduceLeDiff, Nat.reduceEqDiff, Int.reduceEq, Int.reduceLT, Int.reduceLE, Int.reduceNe, Int.reduceAdd, beq_self_eq_true, Option.bind_eq_bind, Option.pure_def, bind_pure_comp, Option.map_eq_map, decide_eq_true_eq, ne_eq, not_false_eq_true, not_true_eq_false, Nat.lt_irrefl, Nat.reduceBEq, if_true, if_false, ite_true, ite_false, reduceCtorEq, Bool.false_eq_true, lenB_nil, lenB_slice, lenB_oslice, lenB_str, lenB_agg, indexAddrA_slice, indexAddrA_oslice, indexAddrA_ptr, indexAddrA_optr, loadA_ptr, loadA_optr, lenK, indexK, loadK, Option.toList_some, Option.toList_none, Int.reduceBEq, Int.reduceBNe, Int.reduceMod, Int.reduceDiv, Int.reduceTDiv, Int.reduceTMod, Int.reduceFDiv, Int.reduceSub, Int.reduceNeg, Int.reduceGT, Int.reduceGE, BitVec.reduceOfInt, BitVec.reduceAnd, BitVec.reduceOr, BitVec.reduceXOr, BitVec.reduceToNat, Int.cast_ofNat_Int, Int.reduceToNat, Int.reducePow, Nat.min_eq_left, Int.reduceMul, List.mapM_cons, List.mapM_nil, hT.all]
    · have hz2 : ¬ (crcRaw bs ^^^ crcSteps (8 * n - p0) m = crcRaw bs) := fun hh => by
        refine crcSteps_ne (8 * n - p0) hz ?_
        have := congrArg (crcRaw bs ^^^ ·) hh
        simp only [← BitVec.xor_assoc, BitVec.xor_self, BitVec.zero_xor] at this
        exact this
      rw [if_neg hz2]
      simp only [hz, decide_false, Bool.not_false] at htu
      subst htu
      simp only [gX, gM, gL, gB, List.map_cons, List.map_nil, wantedA, evOp, opv, absC, absC0, isAggT, resA, resultA, binA, eqA, eqGuardA, isConstA, isFlatScalar, shiftOp, strOp, ordB, readN, sliceCells, lenA, storeA, newA, buildA, fillA, buildSliceA, boundsA, bndA, sliceA, ptrOK, fieldAddrA, fieldA, indexA, extractA, convA, isIntT, biA, bytesOf, setAll, List.replicate, List.cons.injEq, exists_eq_left', exists_eq_left, exists_eq_right', eq_self, Option.map_some, Option.map_none, Option.bind_some, Option.bind_none, Option.some.injEq, Prod.mk.injEq, Nat.reduceAdd, Nat.reduceSub, Nat.reduceMul, Nat.reduceLT, Nat.reduceLeDiff, Nat.reduceEqDiff, Int.reduceEq, Int.reduceLT, Int.reduceLE, Int.reduceNe, Int.reduceAdd, beq_self_eq_true, Option.bind_eq_bind, Option.pure_def, bind_pure_comp, Option.map_eq_map, decide_eq_true_eq, ne_eq, not_false_eq_true, not_true_eq_false, Nat.lt_irrefl, Nat.reduceBEq, if_true, if_false, ite_true, ite_false, reduceCtorEq, Bool.false_eq_true, lenB_nil, lenB_slice, lenB_oslice, lenB_str, lenB_agg, indexAddrA_slice, indexAddrA_oslice, indexAddrA_ptr, indexAddrA_optr, loadA_ptr, loadA_optr, lenK, indexK, loadK, Option.toList_some, Option.toList_none, Int.reduceBEq, Int.reduceBNe, Int.reduceMod, Int.reduceDiv, Int.reduceTDiv, Int.reduceTMod, Int.reduceFDiv, Int.reduceSub, Int.reduceNeg, Int.reduceGT, Int.reduceGE, BitVec.reduceOfInt, BitVec.reduceAnd, BitVec.reduceOr, BitVec.reduceXOr, BitVec.reduceToNat, Int.cast_ofNat_Int, Int.reduceToNat, Int.reducePow, Nat.min_eq_left, Int.reduceMul, List.mapM_cons, List.mapM_nil, hT.all]
      refine hS.one (heads M hM _) ?_
      simp only [gX, gM, gL, gB, List.map_cons, List.map_nil, wantedA, evOp, opv, absC, absC0, isAggT, resA, resultA, binA, eqA, eqGuardA, isConstA, isFlatScalar, shiftOp, strOp, ordB, readN, sliceCells, lenA, storeA, newA, buildA, fillA, buildSliceA, boundsA, bndA, sliceA, ptrOK, fieldAddrA, fieldA, indexA, extractA, convA, isIntT, biA, bytesOf, setAll, List.replicate, List.cons.injEq, exists_eq_left', exists_eq_left, exists_eq_right', eq_self, Option.map_some, Option.map_none, Option.bind_some, Option.bind_none, Option.some.injEq, Prod.mk.injEq, Nat.reduceAdd, Nat.reduceSub, Nat.reduceMul, Nat.reduceLT, Nat.reduceLeDiff, Nat.reduceEqDiff, Int.reduceEq, Int.reduceLT, Int.reduceLE, Int.reduceNe, Int.reduceAdd, beq_self_eq_true, Option.bind_eq_bind, Option.pure_def, bind_pure_comp, Option.map_eq_map, decide_eq_true_eq, ne_eq, not_false_eq_true, not_true_eq_false, Nat.lt_irrefl, Nat.reduceBEq, if_true, if_false, ite_true, ite_false, reduceCtorEq, Bool.false_eq_true, lenB_nil, lenB_slice, lenB_oslice, lenB_str, lenB_agg, indexAddrA_slice, indexAddrA_oslice, indexAddrA_ptr, indexAddrA_optr, loadA_ptr, loadA_optr, lenK, indexK, loadK, Option.toList_some, Option.toList_none, Int.reduceBEq, Int.reduceBNe, Int.reduceMod, Int.reduceDiv, Int.reduceTDiv, Int.reduceTMod, Int.reduceFDiv, Int.reduceSub, Int.reduceNeg, Int.reduceGT, Int.reduceGE, BitVec.reduceOfInt, BitVec.reduceAnd, BitVec.reduceOr, BitVec.reduceXOr, BitVec.reduceToNat, Int.cast_ofNat_Int, Int.reduceToNat, Int.reducePow, Nat.min_eq_left, Int.reduceMul, List.mapM_cons, List.mapM_nil, hT.all]
  have g1 : (i : Int) < 32 := by omega
  have z0 : IntKind.u32.wrap 0 = 0 := by decide
  have z1 : IntKind.u32.wrap 1 = 1 := by decide
  have g2 : i ≤ 32 := by omega
  have g3 : ¬ (i : Int) < 0 := by omega
  have g4 := shr_mask mk i
  have g5 := lsb_and (mk >>> i)
  have g6 : (mk >>> i).getLsbD 0 = mk.getLsbD i := by simp
  rw [g6] at g5
  have wi : IntKind.u64.wrap ((i : Int) + 1) = ((i + 1 : Nat) : Int) := by rw [wrap_u64 (by omega) (by omega)]; omega
  cases hbit : mk.getLsbD i with
  | false =>
    rw [hbit, if_neg Bool.false_ne_true] at g5
    simp only [gX, gM, gL, gB, List.map_cons, List.map_nil, wantedA, evOp, opv, absC, absC0, isAggT, resA, resultA, binA, eqA, eqGuardA, isConstA, isFlatScalar, shiftOp, strOp, ordB, readN, sliceCells, lenA, storeA, newA, buildA, fillA, buildSliceA, boundsA, bndA, sliceA, ptrOK, fieldAddrA, fieldA, indexA, extractA, convA, isIntT, biA, bytesOf, setAll, List.replicate, List.cons.injEq, exists_eq_left', exists_eq_left, exists_eq_right', eq_self, Option.map_some, Option.map_none, Option.bind_some, Option.bind_none, Option.some.injEq, Prod.mk.injEq, Nat.reduceAdd, Nat.reduceSub, Nat.reduceMul, Nat.reduceLT, Nat.reduceLeDiff, Nat.reduceEqDiff, Int.reduceEq, Int.reduceLT, Int.reduceLE, Int.reduceNe, Int.reduceAdd, beq_self_eq_true, Option.bind_eq_bind, Option.pure_def, bind_pure_comp, Option.map_eq_map, decide_eq_true_eq, ne_eq, not_false_eq_true, not_true_eq_false, Nat.lt_irrefl, Nat.reduceBEq, if_true, if_false, ite_true, ite_false, reduceCtorEq, Bool.false_eq_true, lenB_nil, lenB_slice, lenB_oslice, lenB_str, lenB_agg, indexAddrA_slice, indexAddrA_oslice, indexAddrA_ptr, indexAddrA_optr, loadA_ptr, loadA_optr, lenK, indexK, loadK, Option.toList_some, Option.toList_none, Int.reduceBEq, Int.reduceBNe, Int.reduceMod, Int.reduceDiv, Int.reduceTDiv, Int.reduceTMod, Int.reduceFDiv, Int.reduceSub, Int.reduceNeg, Int.reduceGT, Int.reduceGE, BitVec.reduceOfInt, BitVec.reduceAnd, BitVec.reduceOr, BitVec.reduceXOr, BitVec.reduceToNat, Int.cast_ofNat_Int, Int.reduceToNat, Int.reducePow, Nat.min_eq_left, Int.reduceMul, List.mapM_cons, List.mapM_nil, hT.all, g1, g2, g3, g4, g5, z0, z1, ofInt_bv32, wrap_bv32, Int.toNat_natCast, wi]
    exact hJ (mm - 1) _ _ _ (by omega) (Weak.refl _) ⟨i + 1, tu, cur, m, sp, _, rfl, rfl, by omega, hb, hsp, hcl, hcr, fun q hq => hmz q (by omega), htu⟩
  | true =>
    rw [hbit, if_pos rfl] at g5
    obtain ⟨p, hp⟩ : ∃ p, p = p0 + i := ⟨_, rfl⟩
    have wp : IntKind.u64.wrap ((p0 : Int) + i) = (p : Int) := by rw [wrap_u64 (by omega) (by omega)]; omega
    have wd : (p : Int).tdiv 8 = ((p / 8 : Nat) : Int) := by rw [Int.tdiv_eq_ediv_of_nonneg (by omega)]; omega
    have wq : IntKind.u64.wrap ((p / 8 : Nat) : Int) = ((p / 8 : Nat) : Int) := wrap_u64 (by omega) (by omega)
    have wm : (p : Int).tmod 8 = ((p % 8 : Nat) : Int) := by rw [Int.tmod_eq_emod_of_nonneg (by omega)]; omega
    by_cases hin : p / 8 < n
    · have k1 : ((p / 8 : Nat) : Int) < (bs.length : Int) := by omega
      obtain ⟨k, hk⟩ : ∃ k, k = p / 8 := ⟨_, rfl⟩
      obtain ⟨jj, hjj⟩ : ∃ jj, jj = p % 8 := ⟨_, rfl⟩
      have hj8 : jj < 8 := by omega
      rw [← hk] at wd wq k1 hin
      rw [← hjj] at wm
      have hkc : k < cur.length := by omega
      obtain ⟨tl, htl⟩ : ∃ tl, tl = leI (crc bs).toNat 4 := ⟨_, rfl⟩
      have htll : tl.length = 4 := by rw [htl, leI_length]
      rw [← htl] at hb
      obtain ⟨cs, hcs⟩ : ∃ cs, cs = cellsB (cur ++ tl) := ⟨_, rfl⟩
      have hcsl : cs.length = n + 4 := by rw [hcs]; simp [hcl, htll]
      have hget : cs[k]? = some (.int .u8 cur[k].toNat) := by
        rw [hcs]
        show (List.map u8 (cur ++ tl))[k]? = _
        rw [List.getElem?_map, List.getElem?_append_left hkc, List.getElem?_eq_getElem hkc]; rfl
      rw [← hcs] at hb
      have hse2 : Sees M h 1 (.slice sb ep 0 1 (n + 4) none) cs := .own sb ep 0 (n + 4) none cs 5 ep sp cs hb hsp (by omega) (by rw [List.drop_zero, List.take_of_length_le (by omega)])
      have hld : loadA T M h 5 (.ptr sb ep k) = some (.int .u8 cur[k].toNat) := by
        have := hse2.load (T := T) (el := 5) hget hT.ty5 rfl
        simpa [placeA] using this
      have k2 : (0 : Int) ≤ k := by omega
      have k3 : (k : Int) < ((n + 4 : Nat) : Int) := by omega
      have k4 : ¬ (jj : Int) < 0 := by omega
      have k5 : jj ≤ 8 := by omega
      obtain ⟨s1, s2⟩ := one_shl jj hj8
      have k6 : k + 1 ≤ cs.length := by omega
      simp only [gX, gM, gL, gB, List.map_cons, List.map_nil, wantedA, evOp, opv, absC, absC0, isAggT, resA, resultA, binA, eqA, eqGuardA, isConstA, isFlatScalar, shiftOp, strOp, ordB, readN, sliceCells, lenA, storeA, newA, buildA, fillA, buildSliceA, boundsA, bndA, sliceA, ptrOK, fieldAddrA, fieldA, indexA, extractA, convA, isIntT, biA, bytesOf, setAll, List.replicate, List.cons.injEq, exists_eq_left', exists_eq_left, exists_eq_right', eq_self, Option.map_some, Option.map_none, Option.bind_some, Option.bind_none, Option.some.injEq, Prod.mk.injEq, Nat.reduceAdd, Nat.reduceSub, Nat.reduceMul, Nat.reduceLT, Nat.reduceLeDiff, Nat.reduceEqDiff, Int.reduceEq, Int.reduceLT, Int.reduceLE, Int.reduceNe, Int.reduceAdd, beq_self_eq_true, Option.bind_eq_bind, Option.pure_def, bind_pure_comp, Option.map_eq_map, decide_eq_true_eq, ne_eq, not_false_eq_true, not_true_eq_false, Nat.lt_irrefl, Nat.reduceBEq, if_true, if_false, ite_true, ite_false, reduceCtorEq, Bool.false_eq_true, lenB_nil, lenB_slice, lenB_oslice, lenB_str, lenB_agg, indexAddrA_slice, indexAddrA_oslice, indexAddrA_ptr, indexAddrA_optr, loadA_optr, lenK, indexK, loadK, Option.toList_some, Option.toList_none, Int.reduceBEq, Int.reduceBNe, Int.reduceMod, Int.reduceDiv, Int.reduceTDiv, Int.reduceTMod, Int.reduceFDiv, Int.reduceSub, Int.reduceNeg, Int.reduceGT, Int.reduceGE, BitVec.reduceOfInt, BitVec.reduceAnd, BitVec.reduceOr, BitVec.reduceXOr, BitVec.reduceToNat, Int.cast_ofNat_Int, Int.reduceToNat, Int.reducePow, Nat.min_eq_left, Int.reduceMul, List.mapM_cons, List.mapM_nil, hT.all, g1, g2, g3, g4, g5, z0, z1, ofInt_bv32, wrap_bv32, Int.toNat_natCast, wi, wp, wd, wq, wm, e1, w1, k1, k2, k3, k4, k5, k6, hld, s1, ofInt_bv8, wrap_bv8, ofInt_byte, hb]
      obtain ⟨b', hb'⟩ : ∃ b' : UInt8, b' = ⟨cur[k].toBitVec ^^^ 1#8 <<< jj⟩ := ⟨_, rfl⟩
      have hset : cs.set k (.int .u8 ((cur[k].toBitVec ^^^ 1#8 <<< jj).toNat : Int)) = cellsB (cur.set k b' ++ tl) := by
        have e : AV.int .u8 ((cur[k].toBitVec ^^^ 1#8 <<< jj).toNat : Int) = u8 b' := by rw [hb']; rfl
        rw [e, hcs]
        show (List.map u8 (cur ++ tl)).set k (u8 b') = List.map u8 (cur.set k b' ++ tl)
        rw [← List.map_set, List.set_append_left _ _ hkc]
      rw [hset]
      have hflip := crc_flip cur k jj hkc hj8 b' (by
        rw [hb', ← s2]
        exact BitVec.setWidth_xor)
      have hpk : 8 * k + jj = p := by omega
      have hm1 : m.getLsbD i = false := hmz i (Nat.le_refl _)
      refine hJ (mm - 1) _ _ _ (by omega) (Weak.refl _) ⟨i + 1, true, cur.set k b', m ^^^ 1#32 <<< i, ep, _, rfl, rfl, by omega, by rw [← htl, List.getElem?_set_self (lt_of_get hb)], Nat.le_refl _, by simp [hcl], ?_, fun q hq => ?_, ?_⟩
      · rw [hflip, hcr, hcl, crcSteps_xor, BitVec.xor_assoc]
        congr 2
        have : 8 * n - p0 = i + (8 * n - (8 * k + jj)) := by omega
        rw [this, crcSteps_add, crcSteps_two i hlt]
      · rw [BitVec.getLsbD_xor, hmz q (by omega), Bool.false_xor, BitVec.getLsbD_shiftLeft]
        simp
        omega
      · have hne : m ^^^ 1#32 <<< i ≠ 0#32 := fun h0 => by
          have := congrArg (fun z : BitVec 32 => z.getLsbD i) h0
          simp only [BitVec.getLsbD_xor, hm1, Bool.false_xor, BitVec.getLsbD_shiftLeft, BitVec.getLsbD_zero] at this
          simp [hlt] at this
        simp [hne]
    · have k1 : ¬ ((p / 8 : Nat) : Int) < (bs.length : Int) := by omega
      simp only [gX, gM, gL, gB, List.map_cons, List.map_nil, wantedA, evOp, opv, absC, absC0, isAggT, resA, resultA, binA, eqA, eqGuardA, isConstA, isFlatScalar, shiftOp, strOp, ordB, readN, sliceCells, lenA, storeA, newA, buildA, fillA, buildSliceA, boundsA, bndA, sliceA, ptrOK, fieldAddrA, fieldA, indexA, extractA, convA, isIntT, biA, bytesOf, setAll, List.replicate, List.cons.injEq, exists_eq_left', exists_eq_left, exists_eq_right', eq_self, Option.map_some, Option.map_none, Option.bind_some, Option.bind_none, Option.some.injEq, Prod.mk.injEq, Nat.reduceAdd, Nat.reduceSub, Nat.reduceMul, Nat.reduceLT, Nat.reduceLeDiff, Nat.reduceEqDiff, Int.reduceEq, Int.reduceLT, Int.reduceLE, Int.reduceNe, Int.reduceAdd, beq_self_eq_true, Option.bind_eq_bind, Option.pure_def, bind_pure_comp, Option.map_eq_map, decide_eq_true_eq, ne_eq, not_false_eq_true, not_true_eq_false, Nat.lt_irrefl, Nat.reduceBEq, if_true, if_false, ite_true, ite_false, reduceCtorEq, Bool.false_eq_true, lenB_nil, lenB_slice, lenB_oslice, lenB_str, lenB_agg, indexAddrA_slice, indexAddrA_oslice, indexAddrA_ptr, indexAddrA_optr, loadA_ptr, loadA_optr, lenK, indexK, loadK, Option.toList_some, Option.toList_none, Int.reduceBEq, Int.reduceBNe, Int.reduceMod, Int.reduceDiv, Int.reduceTDiv, Int.reduceTMod, Int.reduceFDiv, Int.reduceSub, Int.reduceNeg, Int.reduceGT, Int.reduceGE, BitVec.reduceOfInt, BitVec.reduceAnd, BitVec.reduceOr, BitVec.reduceXOr, BitVec.reduceToNat, Int.cast_ofNat_Int, Int.reduceToNat, Int.reducePow, Nat.min_eq_left, Int.reduceMul, List.mapM_cons, List.mapM_nil, hT.all, g1, g2, g3, g4, g5, z0, z1, ofInt_bv32, wrap_bv32, Int.toNat_natCast, wi, wp, wd, wq, wm, e1, w1, k1]
      exact hJ (mm - 1) _ _ _ (by omega) (Weak.refl _) ⟨i + 1, tu, cur, m, sp, _, rfl, rfl, by omega, hb, hsp, hcl, hcr, fun q hq => hmz q (by omega), htu⟩

end Go.Proofs.YtnmignkabcblgaaDoor.C
