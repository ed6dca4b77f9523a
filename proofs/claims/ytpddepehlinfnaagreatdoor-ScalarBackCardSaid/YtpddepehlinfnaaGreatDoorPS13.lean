/- Part of a claim: a float put together, by the library and by the document; the law ScalarJoins. -/
import Derived.Test.YtpddepehlinfnaaGreatDoorPS12
set_option linter.unusedSimpArgs false
set_option linter.unusedVariables false
set_option maxRecDepth 100000
set_option maxHeartbeats 10000000
namespace Go.Proofs.YtpddepehlinfnaaGreatDoor.B
open Go Go.RowKit Go.Proofs.YtpddepehlinfnaaGreatDoor.E Go.Proofs.YtpddepehlinfnaaGreatDoor.FL

theorem len8 : ((List.range 256).all fun i => match (List.append (List.append (0 :: 1 :: 2 :: 2 :: 3 :: 3 :: 3 :: 3 :: 4 :: 4 :: 4 :: 4 :: 4 :: 4 :: 4 :: 4 :: 5 :: 5 :: 5 :: 5 :: 5 :: 5 :: 5 :: 5 :: 5 :: 5 :: 5 :: 5 :: 5 :: 5 :: 5 :: 5 :: 6 :: 6 :: 6 :: 6 :: 6 :: 6 :: 6 :: 6 :: 6 :: 6 :: 6 :: 6 :: 6 :: 6 :: 6 :: 6 :: 6 :: 6 :: 6 :: 6 :: 6 :: 6 :: 6 :: 6 :: 6 :: 6 :: 6 :: 6 :: 6 :: 6 :: 6 :: 6 :: []) (7 :: 7 :: 7 :: 7 :: 7 :: 7 :: 7 :: 7 :: 7 :: 7 :: 7 :: 7 :: 7 :: 7 :: 7 :: 7 :: 7 :: 7 :: 7 :: 7 :: 7 :: 7 :: 7 :: 7 :: 7 :: 7 :: 7 :: 7 :: 7 :: 7 :: 7 :: 7 :: 7 :: 7 :: 7 :: 7 :: 7 :: 7 :: 7 :: 7 :: 7 :: 7 :: 7 :: 7 :: 7 :: 7 :: 7 :: 7 :: 7 :: 7 :: 7 :: 7 :: 7 :: 7 :: 7 :: 7 :: 7 :: 7 :: 7 :: 7 :: 7 :: 7 :: 7 :: 7 :: [])) (List.append (8 :: 8 :: 8 :: 8 :: 8 :: 8 :: 8 :: 8 :: 8 :: 8 :: 8 :: 8 :: 8 :: 8 :: 8 :: 8 :: 8 :: 8 :: 8 :: 8 :: 8 :: 8 :: 8 :: 8 :: 8 :: 8 :: 8 :: 8 :: 8 :: 8 :: 8 :: 8 :: 8 :: 8 :: 8 :: 8 :: 8 :: 8 :: 8 :: 8 :: 8 :: 8 :: 8 :: 8 :: 8 :: 8 :: 8 :: 8 :: 8 :: 8 :: 8 :: 8 :: 8 :: 8 :: 8 :: 8 :: 8 :: 8 :: 8 :: 8 :: 8 :: 8 :: 8 :: 8 :: []) (8 :: 8 :: 8 :: 8 :: 8 :: 8 :: 8 :: 8 :: 8 :: 8 :: 8 :: 8 :: 8 :: 8 :: 8 :: 8 :: 8 :: 8 :: 8 :: 8 :: 8 :: 8 :: 8 :: 8 :: 8 :: 8 :: 8 :: 8 :: 8 :: 8 :: 8 :: 8 :: 8 :: 8 :: 8 :: 8 :: 8 :: 8 :: 8 :: 8 :: 8 :: 8 :: 8 :: 8 :: 8 :: 8 :: 8 :: 8 :: 8 :: 8 :: 8 :: 8 :: 8 :: 8 :: 8 :: 8 :: 8 :: 8 :: 8 :: 8 :: 8 :: 8 :: 8 :: 8 :: [])) : List UInt8)[i]? with | some b => b.toNat == nb i | none => false) = true := by kernel_rfl
theorem len8_at {x : Nat} (h : x < 256) : ∃ b : UInt8, (List.append (List.append (0 :: 1 :: 2 :: 2 :: 3 :: 3 :: 3 :: 3 :: 4 :: 4 :: 4 :: 4 :: 4 :: 4 :: 4 :: 4 :: 5 :: 5 :: 5 :: 5 :: 5 :: 5 :: 5 :: 5 :: 5 :: 5 :: 5 :: 5 :: 5 :: 5 :: 5 :: 5 :: 6 :: 6 :: 6 :: 6 :: 6 :: 6 :: 6 :: 6 :: 6 :: 6 :: 6 :: 6 :: 6 :: 6 :: 6 :: 6 :: 6 :: 6 :: 6 :: 6 :: 6 :: 6 :: 6 :: 6 :: 6 :: 6 :: 6 :: 6 :: 6 :: 6 :: 6 :: 6 :: []) (7 :: 7 :: 7 :: 7 :: 7 :: 7 :: 7 :: 7 :: 7 :: 7 :: 7 :: 7 :: 7 :: 7 :: 7 :: 7 :: 7 :: 7 :: 7 :: 7 :: 7 :: 7 :: 7 :: 7 :: 7 :: 7 :: 7 :: 7 :: 7 :: 7 :: 7 :: 7 :: 7 :: 7 :: 7 :: 7 :: 7 :: 7 :: 7 :: 7 :: 7 :: 7 :: 7 :: 7 :: 7 :: 7 :: 7 :: 7 :: 7 :: 7 :: 7 :: 7 :: 7 :: 7 :: 7 :: 7 :: 7 :: 7 :: 7 :: 7 :: 7 :: 7 :: 7 :: 7 :: [])) (List.append (8 :: 8 :: 8 :: 8 :: 8 :: 8 :: 8 :: 8 :: 8 :: 8 :: 8 :: 8 :: 8 :: 8 :: 8 :: 8 :: 8 :: 8 :: 8 :: 8 :: 8 :: 8 :: 8 :: 8 :: 8 :: 8 :: 8 :: 8 :: 8 :: 8 :: 8 :: 8 :: 8 :: 8 :: 8 :: 8 :: 8 :: 8 :: 8 :: 8 :: 8 :: 8 :: 8 :: 8 :: 8 :: 8 :: 8 :: 8 :: 8 :: 8 :: 8 :: 8 :: 8 :: 8 :: 8 :: 8 :: 8 :: 8 :: 8 :: 8 :: 8 :: 8 :: 8 :: 8 :: []) (8 :: 8 :: 8 :: 8 :: 8 :: 8 :: 8 :: 8 :: 8 :: 8 :: 8 :: 8 :: 8 :: 8 :: 8 :: 8 :: 8 :: 8 :: 8 :: 8 :: 8 :: 8 :: 8 :: 8 :: 8 :: 8 :: 8 :: 8 :: 8 :: 8 :: 8 :: 8 :: 8 :: 8 :: 8 :: 8 :: 8 :: 8 :: 8 :: 8 :: 8 :: 8 :: 8 :: 8 :: 8 :: 8 :: 8 :: 8 :: 8 :: 8 :: 8 :: 8 :: 8 :: 8 :: 8 :: 8 :: 8 :: 8 :: 8 :: 8 :: 8 :: 8 :: 8 :: 8 :: [])) : List UInt8)[x]? = some b ∧ b.toNat = nb x := by
  have := List.all_eq_true.1 len8 x (List.mem_range.2 h)
  split at this
  · rename_i b e
    exact ⟨b, e, by simpa using this⟩
  · cases this

theorem nb_shift {x k : Nat} (h : 2 ^ k ≤ x) : nb x = nb (x / 2 ^ k) + k := by
  induction k generalizing x with
  | zero => simp
  | succ k ih =>
    rw [Nat.pow_succ] at h
    rw [nb_half (by have := Nat.two_pow_pos k; omega), ih (x := x / 2) (by omega), Nat.div_div_eq_div_mul, Nat.pow_succ, Nat.mul_comm 2]
    omega
theorem nb_le {x : Nat} (h : x < 18446744073709551616) : nb x ≤ 64 := by
  unfold nb
  split
  · omega
  · rename_i h0
    have := log2_small (k := 64) h0 (by omega)
    omega

/-- How many bits a number has, by the library. -/
theorem pLen64 (M : Addr → Option AV) (H : Heap) {x : Nat} (h : x < 18446744073709551616) : SemF Tryz.prog M 90 [.int .u64 x] H fun v h => v = .int .i64 (nb x : Nat) ∧ h = H := by
  have s32 := fun a : Nat => shrU (a := a) (n := 32) (by omega)
  have s16 := fun a : Nat => shrU (a := a) (n := 16) (by omega)
  have s8 := fun a : Nat => shrU (a := a) (n := 8) (by omega)
  rw [show ((32 : Nat) : Int) = 32 by rfl, show 2 ^ 32 = 4294967296 by decide] at s32
  rw [show ((16 : Nat) : Int) = 16 by rfl, show 2 ^ 16 = 65536 by decide] at s16
  rw [show ((8 : Nat) : Int) = 8 by rfl, show 2 ^ 8 = 256 by decide] at s8
  have hn := nb_le h
  have k8 : IntKind.i64.wrap 8 = 8 := by decide
  have k16 : IntKind.i64.wrap 16 = 16 := by decide
  have k24 : IntKind.i64.wrap 24 = 24 := by decide
  have k32 : IntKind.i64.wrap 32 = 32 := by decide
  have k40 : IntKind.i64.wrap 40 = 40 := by decide
  have k48 : IntKind.i64.wrap 48 = 48 := by decide
  have k56 : IntKind.i64.wrap 56 = 56 := by decide
  by_cases c1 : (x : Int) ≥ 4294967296
  · obtain ⟨z1, hz1⟩ : ∃ z, z = x / 4294967296 := ⟨_, rfl⟩
    have e1 := nb_shift (x := x) (k := 32) (by rw [show 2 ^ 32 = 4294967296 by decide]; omega)
    rw [show 2 ^ 32 = 4294967296 by decide, ← hz1] at e1
    have d1 := s32 x
    rw [← hz1] at d1
    by_cases c2 : ((z1 : Nat) : Int) ≥ 65536
    · obtain ⟨z2, hz2⟩ : ∃ z, z = z1 / 65536 := ⟨_, rfl⟩
      have e2 := nb_shift (x := z1) (k := 16) (by rw [show 2 ^ 16 = 65536 by decide]; omega)
      rw [show 2 ^ 16 = 65536 by decide, ← hz2] at e2
      have d2 := s16 z1
      rw [← hz2] at d2
      by_cases c3 : ((z2 : Nat) : Int) ≥ 256
      · obtain ⟨z3, hz3⟩ : ∃ z, z = z2 / 256 := ⟨_, rfl⟩
        have e3 := nb_shift (x := z2) (k := 8) (by rw [show 2 ^ 8 = 256 by decide]; omega)
        rw [show 2 ^ 8 = 256 by decide, ← hz3] at e3
        have d3 := s8 z2
        rw [← hz3] at d3
        obtain ⟨y, hy⟩ : ∃ y, y = z3 := ⟨_, rfl⟩
        have hyl : y < 256 := by omega
        have c0 : (0 : Int) ≤ (y : Int) := by omega
        have w0 : IntKind.u8.wrap (y : Int) = y := wrap_u8_id (by omega) (by omega)
        obtain ⟨b, hb, hb2⟩ := len8_at (x := y) (by omega)
        have hny : nb y ≤ 64 := nb_le (by omega)
        have w9 : IntKind.i64.wrap ((b.toNat : Nat) : Int) = nb y := by rw [wrap_i64 (by omega) (by omega), hb2]
        have hw : nb x = nb y + 56 := by rw [hy]; omega
        have wl : IntKind.i64.wrap (56 + (nb y : Int)) = nb x := by rw [wrap_i64 (by omega) (by omega)]; omega
        subst hy
        refine fpure rfl rfl (fw Tryz.func90 (by kernel_rfl) rfl (by kernel_rfl) fun C L T hT hS => ?_) H
        simp only [gX,gT,gM,gL,gB,wantedA,evOp,opv,absC,absC0,isAggT,resA,resultA,binA,eqA,eqGuardA,isConstA,isFlatScalar,strOp,ordB,readN,sliceCells,lenA,storeA,newA,buildA,fillA,buildSliceA,boundsA,bndA,sliceA,ptrOK,fieldAddrA,fieldA,indexA,extractA,convA,isIntT,biA,bytesOf,setAll,List.replicate,Nat.reduceAdd,Nat.reduceSub,Nat.reduceMul,Nat.reduceLT,Nat.reduceLeDiff,Nat.reduceEqDiff,Int.reduceEq,Int.reduceLT,Int.reduceLE,Int.reduceNe,Int.reduceAdd,Nat.reduceBEq,reduceCtorEq,lenB_nil,lenB_slice,lenB_oslice,lenB_str,lenB_agg,indexAddrA_slice,indexAddrA_oslice,indexAddrA_ptr,indexAddrA_optr,loadA_ptr,loadA_optr,lenK,indexK,loadK,Int.reduceBEq,Int.reduceBNe,Int.reduceMod,Int.reduceDiv,Int.reduceTDiv,Int.reduceTMod,Int.reduceFDiv,Int.reduceSub,Int.reduceNeg,Int.reduceGT,Int.reduceGE,BitVec.reduceOfInt,BitVec.reduceAnd,BitVec.reduceOr,BitVec.reduceXOr,BitVec.reduceToNat,Int.reduceToNat,Int.reducePow,Int.reduceMul,hT.all,Tryz.f90,c1,d1,c2,d2,c3,d3,c0,w0,hb,Int.toNat_natCast,w9,wl,k8,k16,k24,k32,k40,k48,k56]
      · obtain ⟨y, hy⟩ : ∃ y, y = z2 := ⟨_, rfl⟩
        have hyl : y < 256 := by omega
        have c0 : (0 : Int) ≤ (y : Int) := by omega
        have w0 : IntKind.u8.wrap (y : Int) = y := wrap_u8_id (by omega) (by omega)
        obtain ⟨b, hb, hb2⟩ := len8_at (x := y) (by omega)
        have hny : nb y ≤ 64 := nb_le (by omega)
        have w9 : IntKind.i64.wrap ((b.toNat : Nat) : Int) = nb y := by rw [wrap_i64 (by omega) (by omega), hb2]
        have hw : nb x = nb y + 48 := by rw [hy]; omega
        have wl : IntKind.i64.wrap (48 + (nb y : Int)) = nb x := by rw [wrap_i64 (by omega) (by omega)]; omega
        subst hy
        refine fpure rfl rfl (fw Tryz.func90 (by kernel_rfl) rfl (by kernel_rfl) fun C L T hT hS => ?_) H
        simp only [gX,gT,gM,gL,gB,wantedA,evOp,opv,absC,absC0,isAggT,resA,resultA,binA,eqA,eqGuardA,isConstA,isFlatScalar,strOp,ordB,readN,sliceCells,lenA,storeA,newA,buildA,fillA,buildSliceA,boundsA,bndA,sliceA,ptrOK,fieldAddrA,fieldA,indexA,extractA,convA,isIntT,biA,bytesOf,setAll,List.replicate,Nat.reduceAdd,Nat.reduceSub,Nat.reduceMul,Nat.reduceLT,Nat.reduceLeDiff,Nat.reduceEqDiff,Int.reduceEq,Int.reduceLT,Int.reduceLE,Int.reduceNe,Int.reduceAdd,Nat.reduceBEq,reduceCtorEq,lenB_nil,lenB_slice,lenB_oslice,lenB_str,lenB_agg,indexAddrA_slice,indexAddrA_oslice,indexAddrA_ptr,indexAddrA_optr,loadA_ptr,loadA_optr,lenK,indexK,loadK,Int.reduceBEq,Int.reduceBNe,Int.reduceMod,Int.reduceDiv,Int.reduceTDiv,Int.reduceTMod,Int.reduceFDiv,Int.reduceSub,Int.reduceNeg,Int.reduceGT,Int.reduceGE,BitVec.reduceOfInt,BitVec.reduceAnd,BitVec.reduceOr,BitVec.reduceXOr,BitVec.reduceToNat,Int.reduceToNat,Int.reducePow,Int.reduceMul,hT.all,Tryz.f90,c1,d1,c2,d2,c3,c0,w0,hb,Int.toNat_natCast,w9,wl,k8,k16,k24,k32,k40,k48,k56]
    · by_cases c3 : ((z1 : Nat) : Int) ≥ 256
      · obtain ⟨z3, hz3⟩ : ∃ z, z = z1 / 256 := ⟨_, rfl⟩
        have e3 := nb_shift (x := z1) (k := 8) (by rw [show 2 ^ 8 = 256 by decide]; omega)
        rw [show 2 ^ 8 = 256 by decide, ← hz3] at e3
        have d3 := s8 z1
        rw [← hz3] at d3
        obtain ⟨y, hy⟩ : ∃ y, y = z3 := ⟨_, rfl⟩
        have hyl : y < 256 := by omega
        have c0 : (0 : Int) ≤ (y : Int) := by omega
        have w0 : IntKind.u8.wrap (y : Int) = y := wrap_u8_id (by omega) (by omega)
        obtain ⟨b, hb, hb2⟩ := len8_at (x := y) (by omega)
        have hny : nb y ≤ 64 := nb_le (by omega)
        have w9 : IntKind.i64.wrap ((b.toNat : Nat) : Int) = nb y := by rw [wrap_i64 (by omega) (by omega), hb2]
        have hw : nb x = nb y + 40 := by rw [hy]; omega
        have wl : IntKind.i64.wrap (40 + (nb y : Int)) = nb x := by rw [wrap_i64 (by omega) (by omega)]; omega
        subst hy
        refine fpure rfl rfl (fw Tryz.func90 (by kernel_rfl) rfl (by kernel_rfl) fun C L T hT hS => ?_) H
        simp only [gX,gT,gM,gL,gB,wantedA,evOp,opv,absC,absC0,isAggT,resA,resultA,binA,eqA,eqGuardA,isConstA,isFlatScalar,strOp,ordB,readN,sliceCells,lenA,storeA,newA,buildA,fillA,buildSliceA,boundsA,bndA,sliceA,ptrOK,fieldAddrA,fieldA,indexA,extractA,convA,isIntT,biA,bytesOf,setAll,List.replicate,Nat.reduceAdd,Nat.reduceSub,Nat.reduceMul,Nat.reduceLT,Nat.reduceLeDiff,Nat.reduceEqDiff,Int.reduceEq,Int.reduceLT,Int.reduceLE,Int.reduceNe,Int.reduceAdd,Nat.reduceBEq,reduceCtorEq,lenB_nil,lenB_slice,lenB_oslice,lenB_str,lenB_agg,indexAddrA_slice,indexAddrA_oslice,indexAddrA_ptr,indexAddrA_optr,loadA_ptr,loadA_optr,lenK,indexK,loadK,Int.reduceBEq,Int.reduceBNe,Int.reduceMod,Int.reduceDiv,Int.reduceTDiv,Int.reduceTMod,Int.reduceFDiv,Int.reduceSub,Int.reduceNeg,Int.reduceGT,Int.reduceGE,BitVec.reduceOfInt,BitVec.reduceAnd,BitVec.reduceOr,BitVec.reduceXOr,BitVec.reduceToNat,Int.reduceToNat,Int.reducePow,Int.reduceMul,hT.all,Tryz.f90,c1,d1,c2,c3,d3,c0,w0,hb,Int.toNat_natCast,w9,wl,k8,k16,k24,k32,k40,k48,k56]
      · obtain ⟨y, hy⟩ : ∃ y, y = z1 := ⟨_, rfl⟩
        have hyl : y < 256 := by omega
        have c0 : (0 : Int) ≤ (y : Int) := by omega
        have w0 : IntKind.u8.wrap (y : Int) = y := wrap_u8_id (by omega) (by omega)
        obtain ⟨b, hb, hb2⟩ := len8_at (x := y) (by omega)
        have hny : nb y ≤ 64 := nb_le (by omega)
        have w9 : IntKind.i64.wrap ((b.toNat : Nat) : Int) = nb y := by rw [wrap_i64 (by omega) (by omega), hb2]
        have hw : nb x = nb y + 32 := by rw [hy]; omega
        have wl : IntKind.i64.wrap (32 + (nb y : Int)) = nb x := by rw [wrap_i64 (by omega) (by omega)]; omega
        subst hy
        refine fpure rfl rfl (fw Tryz.func90 (by kernel_rfl) rfl (by kernel_rfl) fun C L T hT hS => ?_) H
        simp only [gX,gT,gM,gL,gB,wantedA,evOp,opv,absC,absC0,isAggT,resA,resultA,binA,eqA,eqGuardA,isConstA,isFlatScalar,strOp,ordB,readN,sliceCells,lenA,storeA,newA,buildA,fillA,buildSliceA,boundsA,bndA,sliceA,ptrOK,fieldAddrA,fieldA,indexA,extractA,convA,isIntT,biA,bytesOf,setAll,List.replicate,Nat.reduceAdd,Nat.reduceSub,Nat.reduceMul,Nat.reduceLT,Nat.reduceLeDiff,Nat.reduceEqDiff,Int.reduceEq,Int.reduceLT,Int.reduceLE,Int.reduceNe,Int.reduceAdd,Nat.reduceBEq,reduceCtorEq,lenB_nil,lenB_slice,lenB_oslice,lenB_str,lenB_agg,indexAddrA_slice,indexAddrA_oslice,indexAddrA_ptr,indexAddrA_optr,loadA_ptr,loadA_optr,lenK,indexK,loadK,Int.reduceBEq,Int.reduceBNe,Int.reduceMod,Int.reduceDiv,Int.reduceTDiv,Int.reduceTMod,Int.reduceFDiv,Int.reduceSub,Int.reduceNeg,Int.reduceGT,Int.reduceGE,BitVec.reduceOfInt,BitVec.reduceAnd,BitVec.reduceOr,BitVec.reduceXOr,BitVec.reduceToNat,Int.reduceToNat,Int.reducePow,Int.reduceMul,hT.all,Tryz.f90,c1,d1,c2,c3,c0,w0,hb,Int.toNat_natCast,w9,wl,k8,k16,k24,k32,k40,k48,k56]
  · by_cases c2 : (x : Int) ≥ 65536
    · obtain ⟨z2, hz2⟩ : ∃ z, z = x / 65536 := ⟨_, rfl⟩
      have e2 := nb_shift (x := x) (k := 16) (by rw [show 2 ^ 16 = 65536 by decide]; omega)
      rw [show 2 ^ 16 = 65536 by decide, ← hz2] at e2
      have d2 := s16 x
      rw [← hz2] at d2
      by_cases c3 : ((z2 : Nat) : Int) ≥ 256
      · obtain ⟨z3, hz3⟩ : ∃ z, z = z2 / 256 := ⟨_, rfl⟩
        have e3 := nb_shift (x := z2) (k := 8) (by rw [show 2 ^ 8 = 256 by decide]; omega)
        rw [show 2 ^ 8 = 256 by decide, ← hz3] at e3
        have d3 := s8 z2
        rw [← hz3] at d3
        obtain ⟨y, hy⟩ : ∃ y, y = z3 := ⟨_, rfl⟩
        have hyl : y < 256 := by omega
        have c0 : (0 : Int) ≤ (y : Int) := by omega
        have w0 : IntKind.u8.wrap (y : Int) = y := wrap_u8_id (by omega) (by omega)
        obtain ⟨b, hb, hb2⟩ := len8_at (x := y) (by omega)
        have hny : nb y ≤ 64 := nb_le (by omega)
        have w9 : IntKind.i64.wrap ((b.toNat : Nat) : Int) = nb y := by rw [wrap_i64 (by omega) (by omega), hb2]
        have hw : nb x = nb y + 24 := by rw [hy]; omega
        have wl : IntKind.i64.wrap (24 + (nb y : Int)) = nb x := by rw [wrap_i64 (by omega) (by omega)]; omega
        subst hy
        refine fpure rfl rfl (fw Tryz.func90 (by kernel_rfl) rfl (by kernel_rfl) fun C L T hT hS => ?_) H
        simp only [gX,gT,gM,gL,gB,wantedA,evOp,opv,absC,absC0,isAggT,resA,resultA,binA,eqA,eqGuardA,isConstA,isFlatScalar,strOp,ordB,readN,sliceCells,lenA,storeA,newA,buildA,fillA,buildSliceA,boundsA,bndA,sliceA,ptrOK,fieldAddrA,fieldA,indexA,extractA,convA,isIntT,biA,bytesOf,setAll,List.replicate,Nat.reduceAdd,Nat.reduceSub,Nat.reduceMul,Nat.reduceLT,Nat.reduceLeDiff,Nat.reduceEqDiff,Int.reduceEq,Int.reduceLT,Int.reduceLE,Int.reduceNe,Int.reduceAdd,Nat.reduceBEq,reduceCtorEq,lenB_nil,lenB_slice,lenB_oslice,lenB_str,lenB_agg,indexAddrA_slice,indexAddrA_oslice,indexAddrA_ptr,indexAddrA_optr,loadA_ptr,loadA_optr,lenK,indexK,loadK,Int.reduceBEq,Int.reduceBNe,Int.reduceMod,Int.reduceDiv,Int.reduceTDiv,Int.reduceTMod,Int.reduceFDiv,Int.reduceSub,Int.reduceNeg,Int.reduceGT,Int.reduceGE,BitVec.reduceOfInt,BitVec.reduceAnd,BitVec.reduceOr,BitVec.reduceXOr,BitVec.reduceToNat,Int.reduceToNat,Int.reducePow,Int.reduceMul,hT.all,Tryz.f90,c1,c2,d2,c3,d3,c0,w0,hb,Int.toNat_natCast,w9,wl,k8,k16,k24,k32,k40,k48,k56]
      · obtain ⟨y, hy⟩ : ∃ y, y = z2 := ⟨_, rfl⟩
        have hyl : y < 256 := by omega
        have c0 : (0 : Int) ≤ (y : Int) := by omega
        have w0 : IntKind.u8.wrap (y : Int) = y := wrap_u8_id (by omega) (by omega)
        obtain ⟨b, hb, hb2⟩ := len8_at (x := y) (by omega)
        have hny : nb y ≤ 64 := nb_le (by omega)
        have w9 : IntKind.i64.wrap ((b.toNat : Nat) : Int) = nb y := by rw [wrap_i64 (by omega) (by omega), hb2]
        have hw : nb x = nb y + 16 := by rw [hy]; omega
        have wl : IntKind.i64.wrap (16 + (nb y : Int)) = nb x := by rw [wrap_i64 (by omega) (by omega)]; omega
        subst hy
        refine fpure rfl rfl (fw Tryz.func90 (by kernel_rfl) rfl (by kernel_rfl) fun C L T hT hS => ?_) H
        simp only [gX,gT,gM,gL,gB,wantedA,evOp,opv,absC,absC0,isAggT,resA,resultA,binA,eqA,eqGuardA,isConstA,isFlatScalar,strOp,ordB,readN,sliceCells,lenA,storeA,newA,buildA,fillA,buildSliceA,boundsA,bndA,sliceA,ptrOK,fieldAddrA,fieldA,indexA,extractA,convA,isIntT,biA,bytesOf,setAll,List.replicate,Nat.reduceAdd,Nat.reduceSub,Nat.reduceMul,Nat.reduceLT,Nat.reduceLeDiff,Nat.reduceEqDiff,Int.reduceEq,Int.reduceLT,Int.reduceLE,Int.reduceNe,Int.reduceAdd,Nat.reduceBEq,reduceCtorEq,lenB_nil,lenB_slice,lenB_oslice,lenB_str,lenB_agg,indexAddrA_slice,indexAddrA_oslice,indexAddrA_ptr,indexAddrA_optr,loadA_ptr,loadA_optr,lenK,indexK,loadK,Int.reduceBEq,Int.reduceBNe,Int.reduceMod,Int.reduceDiv,Int.reduceTDiv,Int.reduceTMod,Int.reduceFDiv,Int.reduceSub,Int.reduceNeg,Int.reduceGT,Int.reduceGE,BitVec.reduceOfInt,BitVec.reduceAnd,BitVec.reduceOr,BitVec.reduceXOr,BitVec.reduceToNat,Int.reduceToNat,Int.reducePow,Int.reduceMul,hT.all,Tryz.f90,c1,c2,d2,c3,c0,w0,hb,Int.toNat_natCast,w9,wl,k8,k16,k24,k32,k40,k48,k56]
    · by_cases c3 : (x : Int) ≥ 256
      · obtain ⟨z3, hz3⟩ : ∃ z, z = x / 256 := ⟨_, rfl⟩
        have e3 := nb_shift (x := x) (k := 8) (by rw [show 2 ^ 8 = 256 by decide]; omega)
        rw [show 2 ^ 8 = 256 by decide, ← hz3] at e3
        have d3 := s8 x
        rw [← hz3] at d3
        obtain ⟨y, hy⟩ : ∃ y, y = z3 := ⟨_, rfl⟩
        have hyl : y < 256 := by omega
        have c0 : (0 : Int) ≤ (y : Int) := by omega
        have w0 : IntKind.u8.wrap (y : Int) = y := wrap_u8_id (by omega) (by omega)
        obtain ⟨b, hb, hb2⟩ := len8_at (x := y) (by omega)
        have hny : nb y ≤ 64 := nb_le (by omega)
        have w9 : IntKind.i64.wrap ((b.toNat : Nat) : Int) = nb y := by rw [wrap_i64 (by omega) (by omega), hb2]
        have hw : nb x = nb y + 8 := by rw [hy]; omega
        have wl : IntKind.i64.wrap (8 + (nb y : Int)) = nb x := by rw [wrap_i64 (by omega) (by omega)]; omega
        subst hy
        refine fpure rfl rfl (fw Tryz.func90 (by kernel_rfl) rfl (by kernel_rfl) fun C L T hT hS => ?_) H
        simp only [gX,gT,gM,gL,gB,wantedA,evOp,opv,absC,absC0,isAggT,resA,resultA,binA,eqA,eqGuardA,isConstA,isFlatScalar,strOp,ordB,readN,sliceCells,lenA,storeA,newA,buildA,fillA,buildSliceA,boundsA,bndA,sliceA,ptrOK,fieldAddrA,fieldA,indexA,extractA,convA,isIntT,biA,bytesOf,setAll,List.replicate,Nat.reduceAdd,Nat.reduceSub,Nat.reduceMul,Nat.reduceLT,Nat.reduceLeDiff,Nat.reduceEqDiff,Int.reduceEq,Int.reduceLT,Int.reduceLE,Int.reduceNe,Int.reduceAdd,Nat.reduceBEq,reduceCtorEq,lenB_nil,lenB_slice,lenB_oslice,lenB_str,lenB_agg,indexAddrA_slice,indexAddrA_oslice,indexAddrA_ptr,indexAddrA_optr,loadA_ptr,loadA_optr,lenK,indexK,loadK,Int.reduceBEq,Int.reduceBNe,Int.reduceMod,Int.reduceDiv,Int.reduceTDiv,Int.reduceTMod,Int.reduceFDiv,Int.reduceSub,Int.reduceNeg,Int.reduceGT,Int.reduceGE,BitVec.reduceOfInt,BitVec.reduceAnd,BitVec.reduceOr,BitVec.reduceXOr,BitVec.reduceToNat,Int.reduceToNat,Int.reducePow,Int.reduceMul,hT.all,Tryz.f90,c1,c2,c3,d3,c0,w0,hb,Int.toNat_natCast,w9,wl,k8,k16,k24,k32,k40,k48,k56]
      · obtain ⟨y, hy⟩ : ∃ y, y = x := ⟨_, rfl⟩
        have hyl : y < 256 := by omega
        have c0 : (0 : Int) ≤ (y : Int) := by omega
        have w0 : IntKind.u8.wrap (y : Int) = y := wrap_u8_id (by omega) (by omega)
        obtain ⟨b, hb, hb2⟩ := len8_at (x := y) (by omega)
        have hny : nb y ≤ 64 := nb_le (by omega)
        have w9 : IntKind.i64.wrap ((b.toNat : Nat) : Int) = nb y := by rw [wrap_i64 (by omega) (by omega), hb2]
        have hw : nb x = nb y + 0 := by rw [hy]; rfl
        have wl : IntKind.i64.wrap (0 + (nb y : Int)) = nb x := by rw [wrap_i64 (by omega) (by omega)]; omega
        subst hy
        refine fpure rfl rfl (fw Tryz.func90 (by kernel_rfl) rfl (by kernel_rfl) fun C L T hT hS => ?_) H
        simp only [gX,gT,gM,gL,gB,wantedA,evOp,opv,absC,absC0,isAggT,resA,resultA,binA,eqA,eqGuardA,isConstA,isFlatScalar,strOp,ordB,readN,sliceCells,lenA,storeA,newA,buildA,fillA,buildSliceA,boundsA,bndA,sliceA,ptrOK,fieldAddrA,fieldA,indexA,extractA,convA,isIntT,biA,bytesOf,setAll,List.replicate,Nat.reduceAdd,Nat.reduceSub,Nat.reduceMul,Nat.reduceLT,Nat.reduceLeDiff,Nat.reduceEqDiff,Int.reduceEq,Int.reduceLT,Int.reduceLE,Int.reduceNe,Int.reduceAdd,Nat.reduceBEq,reduceCtorEq,lenB_nil,lenB_slice,lenB_oslice,lenB_str,lenB_agg,indexAddrA_slice,indexAddrA_oslice,indexAddrA_ptr,indexAddrA_optr,loadA_ptr,loadA_optr,lenK,indexK,loadK,Int.reduceBEq,Int.reduceBNe,Int.reduceMod,Int.reduceDiv,Int.reduceTDiv,Int.reduceTMod,Int.reduceFDiv,Int.reduceSub,Int.reduceNeg,Int.reduceGT,Int.reduceGE,BitVec.reduceOfInt,BitVec.reduceAnd,BitVec.reduceOr,BitVec.reduceXOr,BitVec.reduceToNat,Int.reduceToNat,Int.reducePow,Int.reduceMul,hT.all,Tryz.f90,c1,c2,c3,c0,w0,hb,Int.toNat_natCast,w9,wl,k8,k16,k24,k32,k40,k48,k56]

end Go.Proofs.YtpddepehlinfnaaGreatDoor.B
