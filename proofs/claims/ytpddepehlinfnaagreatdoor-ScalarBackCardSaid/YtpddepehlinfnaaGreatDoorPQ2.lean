/- Part of a claim: the library reads a float of base 16: no special text. Part of a claim: what digits of base 16 tell (plain). -/
import Derived.Test.YtpddepehlinfnaaGreatDoorPS41
set_option linter.unusedSimpArgs false
set_option linter.unusedVariables false
set_option maxRecDepth 100000
set_option maxHeartbeats 10000000
namespace Go.Proofs.YtpddepehlinfnaaGreatDoor.B
open Go Go.RowKit Go.Proofs.YtpddepehlinfnaaGreatDoor.E Go.Proofs.YtpddepehlinfnaaGreatDoor.FL

/-- Such a text is no prefix of 'infinity', in whatever case. -/
theorem pPrefix (M : Addr → Option AV) (H : Heap) {l : List UInt8} (hl : l.length ≤ 1000) : SemF Tryz.prog M 183 [.str (48 :: l), .str [105, 110, 102, 105, 110, 105, 116, 121]] H fun v h => v = .int .i64 0 ∧ h = H := by
  obtain ⟨s, hs⟩ : ∃ s : List UInt8, s = 48 :: l := ⟨_, rfl⟩
  have hsl : s.length = l.length + 1 := by rw [hs, List.length_cons]
  have g0 : s[0]? = some 48 := by rw [hs]; rfl
  rw [← hs]
  obtain ⟨k, hk, hk1⟩ : ∃ k : Int, min2A (AV.int .i64 8) (.int .i64 (s.length : Int)) = some (.int .i64 k) ∧ 0 < k := by
    by_cases c : (s.length : Int) < 8
    · exact ⟨s.length, by simp [min2A, c], by omega⟩
    · exact ⟨8, by simp [min2A, c], by omega⟩
  have hf : List.foldlM min2A (AV.int .i64 8) [AV.int .i64 (s.length : Int)] = some (.int .i64 k) := by
    simp [List.foldlM, hk]
  have b1 : decide ((0 : Int) < k) = true := decide_eq_true hk1
  refine fpure rfl rfl (fw Tryz.func183 (by kernel_rfl) rfl (by kernel_rfl) fun C L T hT hS => ?_) H
  simp only [gX,gT,gM,gL,gB,wantedA,evOp,opv,absC,absC0,isAggT,resA,resultA,binA,eqA,eqGuardA,isConstA,isFlatScalar,shiftOp,strOp,ordB,readN,sliceCells,lenA,storeA,newA,buildA,fillA,buildSliceA,boundsA,bndA,sliceA,ptrOK,fieldAddrA,fieldA,indexA,extractA,convA,isIntT,biA,bytesOf,setAll,List.replicate,Nat.reduceAdd,Nat.reduceSub,Nat.reduceMul,Nat.reduceLT,Nat.reduceLeDiff,Nat.reduceEqDiff,Int.reduceEq,Int.reduceLT,Int.reduceLE,Int.reduceNe,Int.reduceAdd,Nat.reduceBEq,reduceCtorEq,lenB_nil,lenB_slice,lenB_oslice,lenB_str,lenB_agg,indexAddrA_slice,indexAddrA_oslice,indexAddrA_ptr,indexAddrA_optr,loadA_ptr,loadA_optr,lenK,indexK,loadK,Int.reduceBEq,Int.reduceBNe,Int.reduceMod,Int.reduceDiv,Int.reduceTDiv,Int.reduceTMod,Int.reduceFDiv,Int.reduceSub,Int.reduceNeg,Int.reduceGT,Int.reduceGE,BitVec.reduceOfInt,BitVec.reduceAnd,BitVec.reduceOr,BitVec.reduceXOr,BitVec.reduceToNat,Int.reduceToNat,Int.reducePow,Int.reduceMul,hT.all,Tryz.f183,hf]
  refine hS.loop (fun m e h => ∃ (x2 x3 : AV) (j : List AV), e = .str s :: .str [105, 110, 102, 105, 110, 105, 116, 121] :: x2 :: x3 :: .int .i64 0 :: .int .i64 k :: .int .i64 0 :: j ∧ j.length = 29 ∧ h = []) 0 ⟨_, _, _, rfl, rfl, rfl⟩ ?_
  rintro m e h ⟨x2, x3, j, rfl, hj, rfl⟩ J hJ
  obtain ⟨g, rfl⟩ : ∃ g : Nat → AV, j = [g 0, g 1, g 2, g 3, g 4, g 5, g 6, g 7, g 8, g 9, g 10, g 11, g 12, g 13, g 14, g 15, g 16, g 17, g 18, g 19, g 20, g 21, g 22, g 23, g 24, g 25, g 26, g 27, g 28] := junk 29 j hj
  have c1 : decide ((65 : Int) ≤ ((UInt8.toNat 48 : Nat) : Int)) = false := rfl
  have c2 : ((((UInt8.toNat 48 : Nat) : Int)) != ((UInt8.toNat 105 : Nat) : Int)) = true := rfl
  simp only [gX,gT,gM,gL,gB,wantedA,evOp,opv,absC,absC0,isAggT,resA,resultA,binA,eqA,eqGuardA,isConstA,isFlatScalar,shiftOp,strOp,ordB,readN,sliceCells,lenA,storeA,newA,buildA,fillA,buildSliceA,boundsA,bndA,sliceA,ptrOK,fieldAddrA,fieldA,indexA,extractA,convA,isIntT,biA,bytesOf,setAll,List.replicate,Nat.reduceAdd,Nat.reduceSub,Nat.reduceMul,Nat.reduceLT,Nat.reduceLeDiff,Nat.reduceEqDiff,Int.reduceEq,Int.reduceLT,Int.reduceLE,Int.reduceNe,Int.reduceAdd,Nat.reduceBEq,reduceCtorEq,lenB_nil,lenB_slice,lenB_oslice,lenB_str,lenB_agg,indexAddrA_slice,indexAddrA_oslice,indexAddrA_ptr,indexAddrA_optr,loadA_ptr,loadA_optr,lenK,indexK,loadK,Int.reduceBEq,Int.reduceBNe,Int.reduceMod,Int.reduceDiv,Int.reduceTDiv,Int.reduceTMod,Int.reduceFDiv,Int.reduceSub,Int.reduceNeg,Int.reduceGT,Int.reduceGE,BitVec.reduceOfInt,BitVec.reduceAnd,BitVec.reduceOr,BitVec.reduceXOr,BitVec.reduceToNat,Int.reduceToNat,Int.reducePow,Int.reduceMul,hT.all,b1,g0,c1,c2]

/-- What 'special' answers at a text of base 16: nothing. -/
theorem pSpecial (M : Addr → Option AV) (H : Heap) (neg : Bool) {l : List UInt8} (hl : l.length ≤ 1000) : SemF Tryz.prog M 166 [.str ((if neg then [45] else []) ++ 48 :: l)] H fun v h => v = .tup [.float .f64 0, .int .i64 0, .bool false] ∧ h = H := by
  have hp := pPrefix M [] hl
  cases neg
  · obtain ⟨s, hs⟩ : ∃ s : List UInt8, s = 48 :: l := ⟨_, rfl⟩
    have hsl : s.length = l.length + 1 := by rw [hs, List.length_cons]
    have g0 : s[0]? = some 48 := by rw [hs]; rfl
    rw [show (if false = true then [(45 : UInt8)] else []) ++ 48 :: l = s by rw [hs]; rfl]
    have b0 : ((s.length : Int) == 0) = false := by rw [beq_eq_false_iff_ne]; omega
    have c1 : (((UInt8.toNat 48 : Nat) : Int) == 43) = false := rfl
    have c2 : (((UInt8.toNat 48 : Nat) : Int) == 45) = false := rfl
    have c3 : (((UInt8.toNat 48 : Nat) : Int) == 105) = false := rfl
    have c4 : (((UInt8.toNat 48 : Nat) : Int) == 73) = false := rfl
    have c5 : (((UInt8.toNat 48 : Nat) : Int) == 110) = false := rfl
    have c6 : (((UInt8.toNat 48 : Nat) : Int) == 78) = false := rfl
    refine fpure rfl rfl (fw Tryz.func166 (by kernel_rfl) rfl (by kernel_rfl) fun C L T hT hS => ?_) H
    simp only [gX,gT,gM,gL,gB,wantedA,evOp,opv,absC,absC0,isAggT,resA,resultA,binA,eqA,eqGuardA,isConstA,isFlatScalar,shiftOp,strOp,ordB,readN,sliceCells,lenA,storeA,newA,buildA,fillA,buildSliceA,boundsA,bndA,sliceA,ptrOK,fieldAddrA,fieldA,indexA,extractA,convA,isIntT,biA,bytesOf,setAll,List.replicate,Nat.reduceAdd,Nat.reduceSub,Nat.reduceMul,Nat.reduceLT,Nat.reduceLeDiff,Nat.reduceEqDiff,Int.reduceEq,Int.reduceLT,Int.reduceLE,Int.reduceNe,Int.reduceAdd,Nat.reduceBEq,reduceCtorEq,lenB_nil,lenB_slice,lenB_oslice,lenB_str,lenB_agg,indexAddrA_slice,indexAddrA_oslice,indexAddrA_ptr,indexAddrA_optr,loadA_ptr,loadA_optr,lenK,indexK,loadK,Int.reduceBEq,Int.reduceBNe,Int.reduceMod,Int.reduceDiv,Int.reduceTDiv,Int.reduceTMod,Int.reduceFDiv,Int.reduceSub,Int.reduceNeg,Int.reduceGT,Int.reduceGE,BitVec.reduceOfInt,BitVec.reduceAnd,BitVec.reduceOr,BitVec.reduceXOr,BitVec.reduceToNat,Int.reduceToNat,Int.reducePow,Int.reduceMul,hT.all,Tryz.f166,b0,g0,c1,c2,c3,c4,c5,c6]
    try rfl
  · obtain ⟨r, hr⟩ : ∃ r : List UInt8, r = 48 :: l := ⟨_, rfl⟩
    obtain ⟨s, hs⟩ : ∃ s : List UInt8, s = 45 :: r := ⟨_, rfl⟩
    have hsl : s.length = l.length + 2 := by rw [hs, hr, List.length_cons, List.length_cons]
    have g0 : s[0]? = some 45 := by rw [hs]; rfl
    rw [← hr] at hp ⊢
    rw [show (if true = true then [(45 : UInt8)] else []) ++ r = s by rw [hs]; rfl]
    have b0 : ((s.length : Int) == 0) = false := by rw [beq_eq_false_iff_ne]; omega
    have c1 : (((UInt8.toNat 45 : Nat) : Int) == 43) = false := rfl
    have c2 : (((UInt8.toNat 45 : Nat) : Int) == 45) = true := rfl
    refine fpure rfl rfl (fw Tryz.func166 (by kernel_rfl) rfl (by kernel_rfl) fun C L T hT hS => ?_) H
    have t1 : ∀ H, sliceA T H 9 (.str s) (some (.int .i64 1)) none none = some (.str r) := fun H => by rw [hs]; exact strFrom hT (n := 1) (by simp)
    simp only [gX,gT,gM,gL,gB,wantedA,evOp,opv,absC,absC0,isAggT,resA,resultA,binA,eqA,eqGuardA,isConstA,isFlatScalar,shiftOp,strOp,ordB,readN,sliceCells,lenA,storeA,newA,buildA,fillA,buildSliceA,boundsA,bndA,ptrOK,fieldAddrA,fieldA,indexA,extractA,convA,isIntT,biA,bytesOf,setAll,List.replicate,Nat.reduceAdd,Nat.reduceSub,Nat.reduceMul,Nat.reduceLT,Nat.reduceLeDiff,Nat.reduceEqDiff,Int.reduceEq,Int.reduceLT,Int.reduceLE,Int.reduceNe,Int.reduceAdd,Nat.reduceBEq,reduceCtorEq,lenB_nil,lenB_slice,lenB_oslice,lenB_str,lenB_agg,indexAddrA_slice,indexAddrA_oslice,indexAddrA_ptr,indexAddrA_optr,loadA_ptr,loadA_optr,lenK,indexK,loadK,Int.reduceBEq,Int.reduceBNe,Int.reduceMod,Int.reduceDiv,Int.reduceTDiv,Int.reduceTMod,Int.reduceFDiv,Int.reduceSub,Int.reduceNeg,Int.reduceGT,Int.reduceGE,BitVec.reduceOfInt,BitVec.reduceAnd,BitVec.reduceOr,BitVec.reduceXOr,BitVec.reduceToNat,Int.reduceToNat,Int.reducePow,Int.reduceMul,hT.all,Tryz.f166,b0,g0,c1,c2,t1]
    refine hS.one hp ?_
    simp only [gX,gT,gM,gL,gB,wantedA,evOp,opv,absC,absC0,isAggT,resA,resultA,binA,eqA,eqGuardA,isConstA,isFlatScalar,shiftOp,strOp,ordB,readN,sliceCells,lenA,storeA,newA,buildA,fillA,buildSliceA,boundsA,bndA,sliceA,ptrOK,fieldAddrA,fieldA,indexA,extractA,convA,isIntT,biA,bytesOf,setAll,List.replicate,Nat.reduceAdd,Nat.reduceSub,Nat.reduceMul,Nat.reduceLT,Nat.reduceLeDiff,Nat.reduceEqDiff,Int.reduceEq,Int.reduceLT,Int.reduceLE,Int.reduceNe,Int.reduceAdd,Nat.reduceBEq,reduceCtorEq,lenB_nil,lenB_slice,lenB_oslice,lenB_str,lenB_agg,indexAddrA_slice,indexAddrA_oslice,indexAddrA_ptr,indexAddrA_optr,loadA_ptr,loadA_optr,lenK,indexK,loadK,Int.reduceBEq,Int.reduceBNe,Int.reduceMod,Int.reduceDiv,Int.reduceTDiv,Int.reduceTMod,Int.reduceFDiv,Int.reduceSub,Int.reduceNeg,Int.reduceGT,Int.reduceGE,BitVec.reduceOfInt,BitVec.reduceAnd,BitVec.reduceOr,BitVec.reduceXOr,BitVec.reduceToNat,Int.reduceToNat,Int.reducePow,Int.reduceMul,hT.all]
    try rfl

end Go.Proofs.YtpddepehlinfnaaGreatDoor.B

set_option linter.unusedSimpArgs false
set_option linter.unusedVariables false
namespace Go.Proofs.YtpddepehlinfnaaGreatDoor.B
open Go Go.RowKit Go.Proofs.YtpddepehlinfnaaGreatDoor.E Go.Proofs.YtpddepehlinfnaaGreatDoor.FL

def dvl (c : Nat) : Nat := if c ≤ 57 then c - 48 else c - 87
def hval (a : Nat) (cs : List Nat) : Nat := cs.foldl (fun a c => a * 16 + dvl c) a
theorem dvl_hx {d : Nat} (h : d < 16) : dvl (hx d) = d := by 
  unfold dvl hx
  by_cases c : d < 10
  · rw [if_pos c, if_pos (by omega)]; omega
  · rw [if_neg c, if_neg (by omega)]; omega
theorem hval_hexF : ∀ (m g a c : Nat), m ≤ 13 → g < 4503599627370496 → g = c * 2 ^ (52 - 4 * m) → hval a (hexF m g) * 2 ^ (52 - 4 * (hexF m g).length) = a * 4503599627370496 + g
  | 0, g, a, c, _, hg, hc => by
    rw [show 52 - 4 * 0 = 52 by rfl, show 2 ^ 52 = 4503599627370496 by decide] at hc
    have : g = 0 := by rcases Nat.eq_zero_or_pos c with h | h <;> omega
    subst this
    simp [hexF, hval]
  | m + 1, g, a, c, hm, hg, hc => by
    by_cases h0 : g = 0
    · subst h0
      simp [hexF, hval]
    · have hd : g / 281474976710656 < 16 := by omega
      have hh : hexF (m + 1) g = hx (g / 281474976710656) :: hexF m (g * 16 % 4503599627370496) := by rw [hexF, if_neg h0]
      have e5 : g * 16 % 4503599627370496 = c % 2 ^ (4 * m) * 2 ^ (52 - 4 * m) := by
        have e1 : (2 : Nat) ^ (52 - 4 * m) = 16 * 2 ^ (52 - 4 * (m + 1)) := by rw [show 52 - 4 * m = 4 + (52 - 4 * (m + 1)) by omega, Nat.pow_add]
        have e2 : (4503599627370496 : Nat) = 2 ^ (52 - 4 * m) * 2 ^ (4 * m) := by rw [← Nat.pow_add, show 52 - 4 * m + 4 * m = 52 by omega]
        have e3 : g * 16 = 2 ^ (52 - 4 * m) * c := by rw [hc, e1, Nat.mul_comm, ← Nat.mul_assoc, Nat.mul_comm]; rw [Nat.mul_left_comm, Nat.mul_assoc]
        rw [e3, e2, Nat.mul_mod_mul_left, Nat.mul_comm]
      have ih := hval_hexF m (g * 16 % 4503599627370496) (a * 16 + g / 281474976710656) _ (by omega) (by omega) e5
      have hl := hexF_len m (g * 16 % 4503599627370496)
      rw [hh]
      have e6 : hval a (hx (g / 281474976710656) :: hexF m (g * 16 % 4503599627370496)) = hval (a * 16 + g / 281474976710656) (hexF m (g * 16 % 4503599627370496)) := by
        show hval (a * 16 + dvl _) _ = _
        rw [dvl_hx hd]
      rw [e6, List.length_cons]
      obtain ⟨L, hL⟩ : ∃ L, L = (hexF m (g * 16 % 4503599627370496)).length := ⟨_, rfl⟩
      rw [← hL] at ih hl ⊢
      have e7 : (2 : Nat) ^ (52 - 4 * L) = 16 * 2 ^ (52 - 4 * (L + 1)) := by rw [show 52 - 4 * L = 4 + (52 - 4 * (L + 1)) by omega, Nat.pow_add]
      rw [e7, Nat.mul_left_comm] at ih
      omega

end Go.Proofs.YtpddepehlinfnaaGreatDoor.B

