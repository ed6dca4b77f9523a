/- Part of a claim: the program rounds a carried sum. -/
import Derived.Test.YtpddepehlinfnaaGreatDoorYS22
set_option linter.unusedSimpArgs false
set_option linter.unusedVariables false
set_option maxRecDepth 100000
set_option maxHeartbeats 10000000
namespace Go.Proofs.YtpddepehlinfnaaGreatDoor.B
open Go Go.RowKit Go.Proofs.YtpddepehlinfnaaGreatDoor.E Go.Proofs.YtpddepehlinfnaaGreatDoor.FL

theorem pLead (M : Addr → Option AV) (H : Heap) {x : Nat} (h : x < 18446744073709551616) : SemF Tryz.prog M 87 [.int .u64 x] H fun v h => v = .int .i64 ((64 - nb x : Nat) : Int) ∧ h = H := by
  have hn := nb_le h
  have w1 : IntKind.i64.wrap (64 - ((nb x : Nat) : Int)) = ((64 - nb x : Nat) : Int) := by rw [wrap_i64 (by omega) (by omega)]; omega
  refine fpure rfl rfl (fw Tryz.func87 (by kernel_rfl) rfl (by kernel_rfl) fun C L T hT hS => ?_) H
  simp only [gX,gT,gM,gL,gB,wantedA,evOp,opv,absC,absC0,isAggT,resA,resultA,binA,eqA,eqGuardA,isConstA,isFlatScalar,shiftOp,strOp,ordB,readN,sliceCells,lenA,storeA,newA,buildA,fillA,buildSliceA,boundsA,bndA,sliceA,ptrOK,fieldAddrA,fieldA,indexA,extractA,convA,isIntT,biA,bytesOf,setAll,List.replicate,Nat.reduceAdd,Nat.reduceSub,Nat.reduceMul,Nat.reduceLT,Nat.reduceLeDiff,Nat.reduceEqDiff,Int.reduceEq,Int.reduceLT,Int.reduceLE,Int.reduceNe,Int.reduceAdd,Nat.reduceBEq,reduceCtorEq,lenB_nil,lenB_slice,lenB_oslice,lenB_str,lenB_agg,indexAddrA_slice,indexAddrA_oslice,indexAddrA_ptr,indexAddrA_optr,loadA_ptr,loadA_optr,lenK,indexK,loadK,Int.reduceBEq,Int.reduceBNe,Int.reduceMod,Int.reduceDiv,Int.reduceTDiv,Int.reduceTMod,Int.reduceFDiv,Int.reduceSub,Int.reduceNeg,Int.reduceGT,Int.reduceGE,BitVec.reduceOfInt,BitVec.reduceAnd,BitVec.reduceOr,BitVec.reduceXOr,BitVec.reduceToNat,Int.reduceToNat,Int.reducePow,Int.reduceMul,hT.all,Tryz.f87]
  refine hS.one (pLen64 M _ h) ?_
  simp only [gX,gT,gM,gL,gB,wantedA,evOp,opv,absC,absC0,isAggT,resA,resultA,binA,eqA,eqGuardA,isConstA,isFlatScalar,shiftOp,strOp,ordB,readN,sliceCells,lenA,storeA,newA,buildA,fillA,buildSliceA,boundsA,bndA,sliceA,ptrOK,fieldAddrA,fieldA,indexA,extractA,convA,isIntT,biA,bytesOf,setAll,List.replicate,Nat.reduceAdd,Nat.reduceSub,Nat.reduceMul,Nat.reduceLT,Nat.reduceLeDiff,Nat.reduceEqDiff,Int.reduceEq,Int.reduceLT,Int.reduceLE,Int.reduceNe,Int.reduceAdd,Nat.reduceBEq,reduceCtorEq,lenB_nil,lenB_slice,lenB_oslice,lenB_str,lenB_agg,indexAddrA_slice,indexAddrA_oslice,indexAddrA_ptr,indexAddrA_optr,loadA_ptr,loadA_optr,lenK,indexK,loadK,Int.reduceBEq,Int.reduceBNe,Int.reduceMod,Int.reduceDiv,Int.reduceTDiv,Int.reduceTMod,Int.reduceFDiv,Int.reduceSub,Int.reduceNeg,Int.reduceGT,Int.reduceGE,BitVec.reduceOfInt,BitVec.reduceAnd,BitVec.reduceOr,BitVec.reduceXOr,BitVec.reduceToNat,Int.reduceToNat,Int.reducePow,Int.reduceMul,hT.all,w1]

theorem and3 {n : Nat} (h : n < 18446744073709551616) : IntKind.u64.wrap (((BitVec.ofInt 64 (n : Int)) &&& 3#64).toNat : Int) = (n % 4 : Nat) := by
  have h2 := and64 (a := n) (b := 3) h (by omega)
  have e : n &&& 3 = n % 4 := Nat.and_two_pow_sub_one_eq_mod n 2
  rw [e] at h2
  exact h2

theorem or1 {n : Nat} (h : n < 18446744073709551615) : IntKind.u64.wrap (((BitVec.ofInt 64 (n : Int)) ||| 1#64).toNat : Int) = (sticky n true : Nat) := by
  have e : n ||| 1 = sticky n true := by
    unfold sticky
    rw [Bool.true_and]
    rcases Nat.mod_two_eq_zero_or_one n with c | c
    · rw [c, if_pos (by decide)]
      have := Nat.two_pow_add_eq_or_of_lt (i := 1) (b := 1) (by omega) (n / 2)
      rw [show 2 ^ 1 * (n / 2) = n by rw [Nat.pow_one]; omega] at this
      exact this.symm
    · rw [c, if_neg (by decide)]
      have := Nat.two_pow_add_eq_or_of_lt (i := 1) (b := 1) (by omega) (n / 2)
      rw [show 2 ^ 1 * (n / 2) = n - 1 by rw [Nat.pow_one]; omega] at this
      have e2 : n = (n - 1) ||| 1 := by omega
      conv => lhs; rw [e2]
      rw [Nat.or_assoc, Nat.or_self, ← e2]
  rw [ofInt_nat, BitVec.toNat_or, BitVec.toNat_ofNat, show (1#64).toNat = 1 by decide, Nat.mod_eq_of_lt (by rw [show 2 ^ 64 = 18446744073709551616 by decide]; omega), e, wU]
  have : sticky n true ≤ n + 1 := by unfold sticky; split <;> omega
  omega

/-- What holds while the highest word is sought. -/
def Above (w : List Int) (top : Nat) : Prop := ∀ k x, top < k → w[k]? = some x → x = 0

/-- The program rounds. -/
theorem sRound (M : Addr → Option AV) {H : Heap} {b ep : Nat} {el : TypeId} {w : List Int} {Tn : Nat} (hw : Wd H b ep el w) (hl : w.length = 76) (hd : Dig w) (hv : nl w = Tn * 2 ^ 78) :
    SemF Tryz.prog M 61 [.ptr b ep 0] H fun v h => v = .float .f64 (rung Tn (-1074)) ∧ h = H := by
  refine fw Tryz.func61 (by kernel_rfl) rfl (by kernel_rfl) fun C L T hT hS => ?_
  have nx : ∀ n : Nat, n < 76 → indexAddrA T H 66 (.ptr b ep 0) (.int .i64 (n : Int)) = some (.ptr b ep n) := fun n hn => hw.ix hl hT.ty66 rfl hT.ty2 rfl hn
  have ox : ∀ n : Nat, n < 76 → loadA T M H 2 (.ptr b ep n) = some (.int .i64 (w.getD n 0)) := fun n hn => hw.ld (by omega) hT.ty2 rfl
  simp only [gX,gT,gM,gL,gB,wantedA,evOp,opv,absC,absC0,isAggT,resA,resultA,binA,eqA,eqGuardA,isConstA,isFlatScalar,shiftOp,strOp,ordB,readN,sliceCells,lenA,storeA,newA,buildA,fillA,buildSliceA,boundsA,bndA,sliceA,ptrOK,fieldAddrA,fieldA,indexA,extractA,convA,isIntT,biA,bytesOf,setAll,List.replicate,Nat.reduceAdd,Nat.reduceSub,Nat.reduceMul,Nat.reduceLT,Nat.reduceLeDiff,Nat.reduceEqDiff,Int.reduceEq,Int.reduceLT,Int.reduceLE,Int.reduceNe,Int.reduceAdd,Nat.reduceBEq,reduceCtorEq,lenB_nil,lenB_slice,lenB_oslice,lenB_str,lenB_agg,indexAddrA_slice,indexAddrA_oslice,indexAddrA_ptr,indexAddrA_optr,loadA_ptr,loadA_optr,lenK,indexK,loadK,Int.reduceBEq,Int.reduceBNe,Int.reduceMod,Int.reduceDiv,Int.reduceTDiv,Int.reduceTMod,Int.reduceFDiv,Int.reduceSub,Int.reduceNeg,Int.reduceGT,Int.reduceGE,BitVec.reduceOfInt,BitVec.reduceAnd,BitVec.reduceOr,BitVec.reduceXOr,BitVec.reduceToNat,Int.reduceToNat,Int.reducePow,Int.reduceMul,hT.all,Tryz.f61]
  refine hS.loop (fun m e h => ∃ (top : Nat) (j1 : AV) (j : List AV), e = .ptr b ep 0 :: j1 :: .float .f64 0 :: .int .i64 top :: j ∧ j.length = 98 ∧ top = m ∧ top < 76 ∧ Above w top ∧ h = H) 75 ⟨75, _, _, rfl, rfl, rfl, by omega, fun k x hk hx => by
    have := (List.getElem?_eq_some_iff.1 hx).1
    omega, rfl⟩ ?_
  rintro m e h ⟨top, j1, j, rfl, hj, rfl, ht, hab, rfl⟩ J hJ
  obtain ⟨g, rfl⟩ : ∃ g : Nat → AV, j = [g 0, g 1, g 2, g 3, g 4, g 5, g 6, g 7, g 8, g 9, g 10, g 11, g 12, g 13, g 14, g 15, g 16, g 17, g 18, g 19, g 20, g 21, g 22, g 23, g 24, g 25, g 26, g 27, g 28, g 29, g 30, g 31, g 32, g 33, g 34, g 35, g 36, g 37, g 38, g 39, g 40, g 41, g 42, g 43, g 44, g 45, g 46, g 47, g 48, g 49, g 50, g 51, g 52, g 53, g 54, g 55, g 56, g 57, g 58, g 59, g 60, g 61, g 62, g 63, g 64, g 65, g 66, g 67, g 68, g 69, g 70, g 71, g 72, g 73, g 74, g 75, g 76, g 77, g 78, g 79, g 80, g 81, g 82, g 83, g 84, g 85, g 86, g 87, g 88, g 89, g 90, g 91, g 92, g 93, g 94, g 95, g 96, g 97] := junk 98 j hj
  have o1 := ox top ht
  have n1 := nx top ht
  obtain ⟨c, hc⟩ : ∃ c, c = (w.getD top 0).toNat := ⟨_, rfl⟩
  have hdc := hd.at_ top
  have hcw : w.getD top 0 = (c : Int) := by omega
  rw [hcw] at o1
  by_cases h0 : top = 0
  · subst h0
    have hT0 : Tn = 0 := low_words hd (show 0 < 2 by omega) (by omega) hab hv
    subst hT0
    rw [rung_0]
    have b2 : ((0 : Int) < 2) = True := by simp
    simp only [gX,gT,gM,gL,gB,wantedA,evOp,opv,absC,absC0,isAggT,resA,resultA,binA,eqA,eqGuardA,isConstA,isFlatScalar,shiftOp,strOp,ordB,readN,sliceCells,lenA,storeA,newA,buildA,fillA,buildSliceA,boundsA,bndA,sliceA,ptrOK,fieldAddrA,fieldA,indexA,extractA,convA,isIntT,biA,bytesOf,setAll,List.replicate,Nat.reduceAdd,Nat.reduceSub,Nat.reduceMul,Nat.reduceLT,Nat.reduceLeDiff,Nat.reduceEqDiff,Int.reduceEq,Int.reduceLT,Int.reduceLE,Int.reduceNe,Int.reduceAdd,Nat.reduceBEq,reduceCtorEq,lenB_nil,lenB_slice,lenB_oslice,lenB_str,lenB_agg,indexAddrA_slice,indexAddrA_oslice,indexAddrA_ptr,indexAddrA_optr,loadA_ptr,loadA_optr,lenK,indexK,loadK,Int.reduceBEq,Int.reduceBNe,Int.reduceMod,Int.reduceDiv,Int.reduceTDiv,Int.reduceTMod,Int.reduceFDiv,Int.reduceSub,Int.reduceNeg,Int.reduceGT,Int.reduceGE,BitVec.reduceOfInt,BitVec.reduceAnd,BitVec.reduceOr,BitVec.reduceXOr,BitVec.reduceToNat,Int.reduceToNat,Int.reducePow,Int.reduceMul,hT.all]
  have g1 : (top : Int) > 0 := by omega
  by_cases hc0 : c = 0
  · have b1 : ((c : Int) == 0) = true := by rw [beq_iff_eq]; omega
    have i1 : IntKind.i64.wrap ((top : Int) - 1) = ((top - 1 : Nat) : Int) := by rw [wrap_i64 (by omega) (by omega)]; omega
    simp only [gX,gT,gM,gL,gB,wantedA,evOp,opv,absC,absC0,isAggT,resA,resultA,binA,eqA,eqGuardA,isConstA,isFlatScalar,shiftOp,strOp,ordB,readN,sliceCells,lenA,storeA,newA,buildA,fillA,buildSliceA,boundsA,bndA,sliceA,ptrOK,fieldAddrA,fieldA,indexA,extractA,convA,isIntT,biA,bytesOf,setAll,List.replicate,Nat.reduceAdd,Nat.reduceSub,Nat.reduceMul,Nat.reduceLT,Nat.reduceLeDiff,Nat.reduceEqDiff,Int.reduceEq,Int.reduceLT,Int.reduceLE,Int.reduceNe,Int.reduceAdd,Nat.reduceBEq,reduceCtorEq,lenB_nil,lenB_slice,lenB_oslice,lenB_str,lenB_agg,indexAddrA_slice,indexAddrA_oslice,indexAddrA_optr,loadA_optr,lenK,indexK,loadK,Int.reduceBEq,Int.reduceBNe,Int.reduceMod,Int.reduceDiv,Int.reduceTDiv,Int.reduceTMod,Int.reduceFDiv,Int.reduceSub,Int.reduceNeg,Int.reduceGT,Int.reduceGE,BitVec.reduceOfInt,BitVec.reduceAnd,BitVec.reduceOr,BitVec.reduceXOr,BitVec.reduceToNat,Int.reduceToNat,Int.reducePow,Int.reduceMul,hT.all,g1,n1,o1,b1,i1]
    refine hJ (top - 1) _ _ _ (by omega) (Weak.refl _) ⟨top - 1, _, _, rfl, rfl, rfl, by omega, fun k x hk hx => ?_, rfl⟩
    by_cases hkt : k = top
    · subst hkt
      rw [getD_some (by omega), hcw, hc0] at hx
      exact (Option.some.inj hx).symm
    · exact hab k x (by omega) hx
  have b1 : ((c : Int) == 0) = false := by rw [beq_eq_false_iff_ne]; omega
  by_cases h2 : top < 2
  · have hT0 : Tn = 0 := low_words hd h2 (by omega) hab hv
    subst hT0
    rw [rung_0]
    have g2 : (top : Int) < 2 := by omega
    simp only [gX,gT,gM,gL,gB,wantedA,evOp,opv,absC,absC0,isAggT,resA,resultA,binA,eqA,eqGuardA,isConstA,isFlatScalar,shiftOp,strOp,ordB,readN,sliceCells,lenA,storeA,newA,buildA,fillA,buildSliceA,boundsA,bndA,sliceA,ptrOK,fieldAddrA,fieldA,indexA,extractA,convA,isIntT,biA,bytesOf,setAll,List.replicate,Nat.reduceAdd,Nat.reduceSub,Nat.reduceMul,Nat.reduceLT,Nat.reduceLeDiff,Nat.reduceEqDiff,Int.reduceEq,Int.reduceLT,Int.reduceLE,Int.reduceNe,Int.reduceAdd,Nat.reduceBEq,reduceCtorEq,lenB_nil,lenB_slice,lenB_oslice,lenB_str,lenB_agg,indexAddrA_slice,indexAddrA_oslice,indexAddrA_optr,loadA_optr,lenK,indexK,loadK,Int.reduceBEq,Int.reduceBNe,Int.reduceMod,Int.reduceDiv,Int.reduceTDiv,Int.reduceTMod,Int.reduceFDiv,Int.reduceSub,Int.reduceNeg,Int.reduceGT,Int.reduceGE,BitVec.reduceOfInt,BitVec.reduceAnd,BitVec.reduceOr,BitVec.reduceXOr,BitVec.reduceToNat,Int.reduceToNat,Int.reducePow,Int.reduceMul,hT.all,g1,n1,o1,b1,g2]
  have g2 : ¬ (top : Int) < 2 := by omega
  obtain ⟨b', hb'⟩ : ∃ c, c = (w.getD (top - 1) 0).toNat := ⟨_, rfl⟩
  obtain ⟨a, ha⟩ : ∃ c, c = (w.getD (top - 2) 0).toNat := ⟨_, rfl⟩
  have hda := hd.at_ (top - 2)
  have hdb := hd.at_ (top - 1)
  have hbw : w.getD (top - 1) 0 = (b' : Int) := by omega
  have haw : w.getD (top - 2) 0 = (a : Int) := by omega
  obtain ⟨hi, hhi⟩ : ∃ hi, hi = c * 4294967296 + b' := ⟨_, rfl⟩
  obtain ⟨n, hn⟩ : ∃ n, n = 64 - nb hi := ⟨_, rfl⟩
  have hhi0 : hi ≠ 0 := by omega
  have hhi64 : hi < 18446744073709551616 := by omega
  have hnb1 : 33 ≤ nb hi := by
    unfold nb; rw [if_neg hhi0]
    have : 32 ≤ hi.log2 := by rw [Nat.le_log2 hhi0, show 2 ^ 32 = 4294967296 by decide]; omega
    omega
  have hnb2 := nb_le hhi64
  have hnb : nb hi = 64 - n := by omega
  have hn2 : n ≤ 31 := by omega
  have hpr := prog_round hd (show 2 ≤ top by omega) (by omega) hab hv haw.symm hbw.symm hcw.symm hc0 hhi hnb hn2
  have hth := top_high hhi0 hnb hn2
  have hpm := prog_mag (hi := hi) hn2 (a := a) (by omega)
  have hlz := pLead M h hhi64
  have hpn := Nat.two_pow_pos n
  rw [← hn] at hlz
  have o2 := ox (top - 1) (by omega)
  have n2 := nx (top - 1) (by omega)
  have o3 := ox (top - 2) (by omega)
  have n3 := nx (top - 2) (by omega)
  rw [hbw] at o2
  rw [haw] at o3
  have i1 : IntKind.i64.wrap ((top : Int) - 1) = ((top - 1 : Nat) : Int) := by rw [wrap_i64 (by omega) (by omega)]; omega
  have i2 : IntKind.i64.wrap ((top : Int) - 2) = ((top - 2 : Nat) : Int) := by rw [wrap_i64 (by omega) (by omega)]; omega
  have u1 : IntKind.u64.wrap (c : Int) = c := by rw [wU]; omega
  have u2 : IntKind.u64.wrap (b' : Int) = b' := by rw [wU]; omega
  have u3 : IntKind.u64.wrap (a : Int) = a := by rw [wU]; omega
  have v1 : shiftOp .shl .u64 (c : Int) 32 = some (.int .u64 ((c * 2 ^ 32 : Nat) : Int)) := shlU (a := c) (n := 32) (by omega) (by rw [show 2 ^ 32 = 4294967296 by decide]; omega)
  have q1 := or64 (k := 32) (a := c) (b := b') (by rw [show 2 ^ 32 = 4294967296 by decide]; omega) (by rw [show 2 ^ 32 = 4294967296 by decide]; omega) (by omega)
  have e32 : c * 2 ^ 32 + b' = hi := by rw [hhi, show 2 ^ 32 = 4294967296 by decide]
  rw [e32] at q1
  obtain ⟨c32, hc32⟩ : ∃ x, x = c * 2 ^ 32 := ⟨_, rfl⟩
  rw [← hc32] at v1 q1
  -- the middle: hi * 2^n and the bits of the third word
  have v2 := shlM (a := hi) (n := n) (by omega)
  rw [Nat.mod_eq_of_lt (by omega)] at v2
  have v3 : shiftOp .shl .u64 (a : Int) 32 = some (.int .u64 ((a * 4294967296 : Nat) : Int)) := by
    have := shlU (a := a) (n := 32) (by omega) (by rw [show 2 ^ 32 = 4294967296 by decide]; omega)
    rw [show 2 ^ 32 = 4294967296 by decide] at this
    exact this
  have i3 : IntKind.i64.wrap (64 - (n : Int)) = ((64 - n : Nat) : Int) := by rw [wrap_i64 (by omega) (by omega)]; omega
  have v4 := shrU (a := a * 4294967296) (n := 64 - n) (by omega)
  rw [hpm.2.2.2.1] at v4
  have q2 := or64 (k := n) (a := hi) (b := a / 2 ^ (32 - n)) (by omega) hpm.2.2.1 (by omega)
  have i4 : IntKind.i64.wrap (32 + (n : Int)) = ((32 + n : Nat) : Int) := by rw [wrap_i64 (by omega) (by omega)]; omega
  have v5 := shlM (a := a) (n := 32 + n) (by omega)
  rw [hpm.2.2.2.2] at v5
  obtain ⟨β0, hβ0⟩ : ∃ β, β = decide (a % 2 ^ (32 - n) ≠ 0) := ⟨_, rfl⟩
  have b5 : (((2 ^ (32 + n) * (a % 2 ^ (32 - n)) : Nat) : Int) != 0) = β0 := by
    have hp := Nat.two_pow_pos (32 + n)
    rw [hβ0]
    by_cases z : a % 2 ^ (32 - n) = 0
    · rw [z, Nat.mul_zero]; rfl
    · rw [decide_eq_true z]
      have := Nat.mul_pos hp (Nat.pos_of_ne_zero z)
      rw [bne_iff_ne]; omega
  obtain ⟨y5, hy5⟩ : ∃ y, y = 2 ^ (32 + n) * (a % 2 ^ (32 - n)) := ⟨_, rfl⟩
  rw [← hy5] at v5 b5
  obtain ⟨a4, ha4⟩ : ∃ y, y = a * 4294967296 := ⟨_, rfl⟩
  rw [← ha4] at v3 v4
  obtain ⟨a', ha'⟩ : ∃ y, y = a / 2 ^ (32 - n) := ⟨_, rfl⟩
  rw [← ha'] at v4 q2 hpr hpm
  obtain ⟨x, hx⟩ : ∃ x, x = hi * 2 ^ n := ⟨_, rfl⟩
  rw [← hx] at v2 q2 hpr hth
  obtain ⟨mg, hmg⟩ : ∃ y, y = x + a' := ⟨_, rfl⟩
  rw [← hmg] at q2 hpr
  rw [← hβ0] at hpr
  have hmg64 : mg < 18446744073709551616 := by have := hpm.2.2.1; omega
  simp only [gX,gT,gM,gL,gB,wantedA,evOp,opv,absC,absC0,isAggT,resA,resultA,binA,eqA,eqGuardA,isConstA,isFlatScalar,strOp,ordB,readN,sliceCells,lenA,storeA,newA,buildA,fillA,buildSliceA,boundsA,bndA,sliceA,ptrOK,fieldAddrA,fieldA,indexA,extractA,convA,isIntT,biA,bytesOf,setAll,List.replicate,Nat.reduceAdd,Nat.reduceSub,Nat.reduceMul,Nat.reduceLT,Nat.reduceLeDiff,Nat.reduceEqDiff,Int.reduceEq,Int.reduceLT,Int.reduceLE,Int.reduceNe,Int.reduceAdd,Nat.reduceBEq,reduceCtorEq,lenB_nil,lenB_slice,lenB_oslice,lenB_str,lenB_agg,indexAddrA_slice,indexAddrA_oslice,indexAddrA_optr,loadA_optr,lenK,indexK,loadK,Int.reduceBEq,Int.reduceBNe,Int.reduceMod,Int.reduceDiv,Int.reduceTDiv,Int.reduceTMod,Int.reduceFDiv,Int.reduceSub,Int.reduceNeg,Int.reduceGT,Int.reduceGE,BitVec.reduceOfInt,BitVec.reduceAnd,BitVec.reduceOr,BitVec.reduceXOr,BitVec.reduceToNat,Int.reduceToNat,Int.reducePow,Int.reduceMul,hT.all,g1,n1,o1,b1,g2,i1,i2,n2,o2,n3,o3,u1,u2,u3,v1,q1]
  refine hS.one hlz ?_
  simp only [gX,gT,gM,gL,gB,wantedA,evOp,opv,absC,absC0,isAggT,resA,resultA,binA,eqA,eqGuardA,isConstA,isFlatScalar,strOp,ordB,readN,sliceCells,lenA,storeA,newA,buildA,fillA,buildSliceA,boundsA,bndA,sliceA,ptrOK,fieldAddrA,fieldA,indexA,extractA,convA,isIntT,biA,bytesOf,setAll,List.replicate,Nat.reduceAdd,Nat.reduceSub,Nat.reduceMul,Nat.reduceLT,Nat.reduceLeDiff,Nat.reduceEqDiff,Int.reduceEq,Int.reduceLT,Int.reduceLE,Int.reduceNe,Int.reduceAdd,Nat.reduceBEq,reduceCtorEq,lenB_nil,lenB_slice,lenB_oslice,lenB_str,lenB_agg,indexAddrA_slice,indexAddrA_oslice,indexAddrA_optr,loadA_optr,lenK,indexK,loadK,Int.reduceBEq,Int.reduceBNe,Int.reduceMod,Int.reduceDiv,Int.reduceTDiv,Int.reduceTMod,Int.reduceFDiv,Int.reduceSub,Int.reduceNeg,Int.reduceGT,Int.reduceGE,BitVec.reduceOfInt,BitVec.reduceAnd,BitVec.reduceOr,BitVec.reduceXOr,BitVec.reduceToNat,Int.reduceToNat,Int.reducePow,Int.reduceMul,hT.all,i1,i2,n2,o2,n3,o3,u1,u2,u3,v2,v3,i3,v4,q2,i4,v5,b5]
  refine hS.loop (fun m e h' => ∃ (k : Nat) (β : Bool) (jm j : List AV), e = .ptr b ep 0 :: j1 :: .float .f64 0 :: .int .i64 top :: .int .u64 hi :: .int .i64 n :: .int .u64 mg :: .bool β :: (jm ++ .int .i64 ((top - 2 : Nat) : Int) :: .int .i64 k :: j) ∧ jm.length = 59 ∧ j.length = 33 ∧ β = (β0 || decide (lim (w.take k) ≠ 0)) ∧ k + m = top - 2 ∧ h' = h) (top - 2) ⟨0, β0, [_, _, _, _, _, _, _, _, _, _, _, _, _, _, _, _, _, _, _, _, _, _, _, _, _, _, _, _, _, _, _, _, _, _, _, _, _, _, _, _, _, _, _, _, _, _, _, _, _, _, _, _, _, _, _, _, _, _, _], _, rfl, rfl, rfl, by simp [lim], by omega, rfl⟩ ?_
  clear hj
  rintro m' e h' ⟨k, β, jm, j, rfl, hjm, hj, hβ, hk, rfl⟩ J' hJ'
  obtain ⟨g, rfl⟩ : ∃ g : Nat → AV, j = [g 0, g 1, g 2, g 3, g 4, g 5, g 6, g 7, g 8, g 9, g 10, g 11, g 12, g 13, g 14, g 15, g 16, g 17, g 18, g 19, g 20, g 21, g 22, g 23, g 24, g 25, g 26, g 27, g 28, g 29, g 30, g 31, g 32] := junk 33 j hj
  obtain ⟨gm, rfl⟩ : ∃ g : Nat → AV, jm = [g 0, g 1, g 2, g 3, g 4, g 5, g 6, g 7, g 8, g 9, g 10, g 11, g 12, g 13, g 14, g 15, g 16, g 17, g 18, g 19, g 20, g 21, g 22, g 23, g 24, g 25, g 26, g 27, g 28, g 29, g 30, g 31, g 32, g 33, g 34, g 35, g 36, g 37, g 38, g 39, g 40, g 41, g 42, g 43, g 44, g 45, g 46, g 47, g 48, g 49, g 50, g 51, g 52, g 53, g 54, g 55, g 56, g 57, g 58] := junk 59 jm hjm
  simp only [List.cons_append, List.nil_append]
  by_cases hkt : k < top - 2
  · have g3 : (k : Int) < ((top - 2 : Nat) : Int) := by omega
    have i5 : IntKind.i64.wrap ((k : Int) + 1) = ((k + 1 : Nat) : Int) := by rw [wrap_i64 (by omega) (by omega)]; omega
    have hts := take_step hd (k := k) (by omega)
    have o4 := ox k (by omega)
    have n4 := nx k (by omega)
    obtain ⟨γ, hγ⟩ : ∃ γ, γ = decide (w.getD k 0 ≠ 0) := ⟨_, rfl⟩
    have b6 : (w.getD k 0 != 0) = γ := by
      rw [hγ]
      by_cases z : w.getD k 0 = 0
      · rw [z]; rfl
      · rw [decide_eq_true z, bne_iff_ne]; exact z
    rw [← hγ] at hts
    obtain ⟨wk, hwk⟩ : ∃ x, x = w.getD k 0 := ⟨_, rfl⟩
    rw [← hwk] at o4 b6
    cases β
    · simp only [gX,gT,gM,gL,gB,wantedA,evOp,opv,absC,absC0,isAggT,resA,resultA,binA,eqA,eqGuardA,isConstA,isFlatScalar,shiftOp,strOp,ordB,readN,sliceCells,lenA,storeA,newA,buildA,fillA,buildSliceA,boundsA,bndA,sliceA,ptrOK,fieldAddrA,fieldA,indexA,extractA,convA,isIntT,biA,bytesOf,setAll,List.replicate,Nat.reduceAdd,Nat.reduceSub,Nat.reduceMul,Nat.reduceLT,Nat.reduceLeDiff,Nat.reduceEqDiff,Int.reduceEq,Int.reduceLT,Int.reduceLE,Int.reduceNe,Int.reduceAdd,Nat.reduceBEq,reduceCtorEq,lenB_nil,lenB_slice,lenB_oslice,lenB_str,lenB_agg,indexAddrA_slice,indexAddrA_oslice,indexAddrA_optr,loadA_optr,lenK,indexK,loadK,Int.reduceBEq,Int.reduceBNe,Int.reduceMod,Int.reduceDiv,Int.reduceTDiv,Int.reduceTMod,Int.reduceFDiv,Int.reduceSub,Int.reduceNeg,Int.reduceGT,Int.reduceGE,BitVec.reduceOfInt,BitVec.reduceAnd,BitVec.reduceOr,BitVec.reduceXOr,BitVec.reduceToNat,Int.reduceToNat,Int.reducePow,Int.reduceMul,hT.all,g3,i5,n4,o4,b6]
      exact hJ' (m' - 1) _ _ _ (by omega) (Weak.refl _) ⟨k + 1, γ, [_, _, _, _, _, _, _, _, _, _, _, _, _, _, _, _, _, _, _, _, _, _, _, _, _, _, _, _, _, _, _, _, _, _, _, _, _, _, _, _, _, _, _, _, _, _, _, _, _, _, _, _, _, _, _, _, _, _, _], _, rfl, rfl, rfl, by rw [hts, ← Bool.or_assoc, ← hβ, Bool.false_or], by omega, rfl⟩
    · simp only [gX,gT,gM,gL,gB,wantedA,evOp,opv,absC,absC0,isAggT,resA,resultA,binA,eqA,eqGuardA,isConstA,isFlatScalar,shiftOp,strOp,ordB,readN,sliceCells,lenA,storeA,newA,buildA,fillA,buildSliceA,boundsA,bndA,sliceA,ptrOK,fieldAddrA,fieldA,indexA,extractA,convA,isIntT,biA,bytesOf,setAll,List.replicate,Nat.reduceAdd,Nat.reduceSub,Nat.reduceMul,Nat.reduceLT,Nat.reduceLeDiff,Nat.reduceEqDiff,Int.reduceEq,Int.reduceLT,Int.reduceLE,Int.reduceNe,Int.reduceAdd,Nat.reduceBEq,reduceCtorEq,lenB_nil,lenB_slice,lenB_oslice,lenB_str,lenB_agg,indexAddrA_slice,indexAddrA_oslice,indexAddrA_optr,loadA_optr,lenK,indexK,loadK,Int.reduceBEq,Int.reduceBNe,Int.reduceMod,Int.reduceDiv,Int.reduceTDiv,Int.reduceTMod,Int.reduceFDiv,Int.reduceSub,Int.reduceNeg,Int.reduceGT,Int.reduceGE,BitVec.reduceOfInt,BitVec.reduceAnd,BitVec.reduceOr,BitVec.reduceXOr,BitVec.reduceToNat,Int.reduceToNat,Int.reducePow,Int.reduceMul,hT.all,g3,i5,n4,o4,b6]
      exact hJ' (m' - 1) _ _ _ (by omega) (Weak.refl _) ⟨k + 1, true, [_, _, _, _, _, _, _, _, _, _, _, _, _, _, _, _, _, _, _, _, _, _, _, _, _, _, _, _, _, _, _, _, _, _, _, _, _, _, _, _, _, _, _, _, _, _, _, _, _, _, _, _, _, _, _, _, _, _, _], _, rfl, rfl, rfl, by rw [hts, ← Bool.or_assoc, ← hβ, Bool.true_or], by omega, rfl⟩
  have g3 : ¬ (k : Int) < ((top - 2 : Nat) : Int) := by omega
  obtain rfl : k = top - 2 := by omega
  rw [← hβ] at hpr
  have l3 := and3 hmg64
  obtain ⟨m3, hm3⟩ : ∃ y, y = mg % 4 := ⟨_, rfl⟩
  rw [← hm3] at l3 hpr
  obtain ⟨δ, hδ⟩ : ∃ δ, δ = decide (m3 ≠ 0) := ⟨_, rfl⟩
  have b7 : ((m3 : Int) != 0) = δ := by
    rw [hδ]
    by_cases z : m3 = 0
    · subst z; rfl
    · rw [decide_eq_true z, bne_iff_ne]; omega
  rw [← hδ] at hpr
  have v6 : shiftOp .shr .u64 (mg : Int) 2 = some (.int .u64 ((mg / 4 : Nat) : Int)) := shrU (a := mg) (n := 2) (by omega)
  obtain ⟨m4, hm4⟩ : ∃ y, y = mg / 4 := ⟨_, rfl⟩
  rw [← hm4] at v6 hpr
  have hm4b : m4 < 4611686018427387904 := by omega
  have q3 := or1 (n := m4) (by omega)
  have i6 : IntKind.i64.wrap (32 * ((top - 1 : Nat) : Int)) = ((32 * (top - 1) : Nat) : Int) := by rw [wrap_i64 (by omega) (by omega)]; omega
  have i7 : IntKind.i64.wrap (-1152 + ((32 * (top - 1) : Nat) : Int)) = -1152 + ((32 * (top - 1) : Nat) : Int) := wrap_i64 (by omega) (by omega)
  have i8 : IntKind.i64.wrap (-1152 + ((32 * (top - 1) : Nat) : Int) - (n : Int)) = -1152 + ((32 * (top - 1) : Nat) : Int) - (n : Int) := wrap_i64 (by omega) (by omega)
  obtain ⟨E, hE⟩ : ∃ E : Int, E = -1152 + ((32 * (top - 2) + (34 - n) : Nat) : Int) := ⟨_, rfl⟩
  have i9 : IntKind.i64.wrap (-1152 + ((32 * (top - 1) : Nat) : Int) - (n : Int) + 2) = E := by rw [wrap_i64 (by omega) (by omega)]; omega
  rw [← hE] at hpr
  have hst : sticky m4 true < 4611686018427387905 := by unfold sticky; split <;> omega
  obtain ⟨m5, hm5⟩ : ∃ y, y = sticky m4 (β || δ) := ⟨_, rfl⟩
  have hm5b : m5 < 4611686018427387905 := by rw [hm5]; cases β || δ <;> first | exact hst | (unfold sticky; simp; omega)
  rw [← hm5] at hpr
  have hj := sJoin M h' (m := (m5 : Int)) (e := E) (by unfold I64; omega) (by unfold I64; omega)
  rw [decide_eq_false (by omega), Int.natAbs_natCast, word_false, hpr] at hj
  have i10 : IntKind.i64.wrap (m5 : Int) = m5 := wrap_i64 (by omega) (by omega)
  have s0 : sticky m4 false = m4 := by simp [sticky]
  cases β
  · cases δ
    · rw [Bool.or_self, s0] at hm5
      subst hm5
      simp only [gX,gT,gM,gL,gB,wantedA,evOp,opv,absC,absC0,isAggT,resA,resultA,binA,eqA,eqGuardA,isConstA,isFlatScalar,strOp,ordB,readN,sliceCells,lenA,storeA,newA,buildA,fillA,buildSliceA,boundsA,bndA,sliceA,ptrOK,fieldAddrA,fieldA,indexA,extractA,convA,isIntT,biA,bytesOf,setAll,List.replicate,Nat.reduceAdd,Nat.reduceSub,Nat.reduceMul,Nat.reduceLT,Nat.reduceLeDiff,Nat.reduceEqDiff,Int.reduceEq,Int.reduceLT,Int.reduceLE,Int.reduceNe,Int.reduceAdd,Nat.reduceBEq,reduceCtorEq,lenB_nil,lenB_slice,lenB_oslice,lenB_str,lenB_agg,indexAddrA_slice,indexAddrA_oslice,indexAddrA_ptr,indexAddrA_optr,loadA_ptr,loadA_optr,lenK,indexK,loadK,Int.reduceBEq,Int.reduceBNe,Int.reduceMod,Int.reduceDiv,Int.reduceTDiv,Int.reduceTMod,Int.reduceFDiv,Int.reduceSub,Int.reduceNeg,Int.reduceGT,Int.reduceGE,BitVec.reduceOfInt,BitVec.reduceAnd,BitVec.reduceOr,BitVec.reduceXOr,BitVec.reduceToNat,Int.reduceToNat,Int.reducePow,Int.reduceMul,hT.all,g3,l3,b7,v6,i1,i6,i7,i8,i9,i10]
      refine hS.one hj ?_
      simp only [gX,gT,gM,gL,gB,wantedA,evOp,opv,absC,absC0,isAggT,resA,resultA,binA,eqA,eqGuardA,isConstA,isFlatScalar,shiftOp,strOp,ordB,readN,sliceCells,lenA,storeA,newA,buildA,fillA,buildSliceA,boundsA,bndA,sliceA,ptrOK,fieldAddrA,fieldA,indexA,extractA,convA,isIntT,biA,bytesOf,setAll,List.replicate,Nat.reduceAdd,Nat.reduceSub,Nat.reduceMul,Nat.reduceLT,Nat.reduceLeDiff,Nat.reduceEqDiff,Int.reduceEq,Int.reduceLT,Int.reduceLE,Int.reduceNe,Int.reduceAdd,Nat.reduceBEq,reduceCtorEq,lenB_nil,lenB_slice,lenB_oslice,lenB_str,lenB_agg,indexAddrA_slice,indexAddrA_oslice,indexAddrA_ptr,indexAddrA_optr,loadA_ptr,loadA_optr,lenK,indexK,loadK,Int.reduceBEq,Int.reduceBNe,Int.reduceMod,Int.reduceDiv,Int.reduceTDiv,Int.reduceTMod,Int.reduceFDiv,Int.reduceSub,Int.reduceNeg,Int.reduceGT,Int.reduceGE,BitVec.reduceOfInt,BitVec.reduceAnd,BitVec.reduceOr,BitVec.reduceXOr,BitVec.reduceToNat,Int.reduceToNat,Int.reducePow,Int.reduceMul,hT.all]
    · rw [Bool.or_true] at hm5
      rw [← hm5] at q3
      simp only [gX,gT,gM,gL,gB,wantedA,evOp,opv,absC,absC0,isAggT,resA,resultA,binA,eqA,eqGuardA,isConstA,isFlatScalar,strOp,ordB,readN,sliceCells,lenA,storeA,newA,buildA,fillA,buildSliceA,boundsA,bndA,sliceA,ptrOK,fieldAddrA,fieldA,indexA,extractA,convA,isIntT,biA,bytesOf,setAll,List.replicate,Nat.reduceAdd,Nat.reduceSub,Nat.reduceMul,Nat.reduceLT,Nat.reduceLeDiff,Nat.reduceEqDiff,Int.reduceEq,Int.reduceLT,Int.reduceLE,Int.reduceNe,Int.reduceAdd,Nat.reduceBEq,reduceCtorEq,lenB_nil,lenB_slice,lenB_oslice,lenB_str,lenB_agg,indexAddrA_slice,indexAddrA_oslice,indexAddrA_ptr,indexAddrA_optr,loadA_ptr,loadA_optr,lenK,indexK,loadK,Int.reduceBEq,Int.reduceBNe,Int.reduceMod,Int.reduceDiv,Int.reduceTDiv,Int.reduceTMod,Int.reduceFDiv,Int.reduceSub,Int.reduceNeg,Int.reduceGT,Int.reduceGE,BitVec.reduceOfInt,BitVec.reduceAnd,BitVec.reduceOr,BitVec.reduceXOr,BitVec.reduceToNat,Int.reduceToNat,Int.reducePow,Int.reduceMul,hT.all,g3,l3,b7,v6,q3,i1,i6,i7,i8,i9,i10]
      refine hS.one hj ?_
      simp only [gX,gT,gM,gL,gB,wantedA,evOp,opv,absC,absC0,isAggT,resA,resultA,binA,eqA,eqGuardA,isConstA,isFlatScalar,shiftOp,strOp,ordB,readN,sliceCells,lenA,storeA,newA,buildA,fillA,buildSliceA,boundsA,bndA,sliceA,ptrOK,fieldAddrA,fieldA,indexA,extractA,convA,isIntT,biA,bytesOf,setAll,List.replicate,Nat.reduceAdd,Nat.reduceSub,Nat.reduceMul,Nat.reduceLT,Nat.reduceLeDiff,Nat.reduceEqDiff,Int.reduceEq,Int.reduceLT,Int.reduceLE,Int.reduceNe,Int.reduceAdd,Nat.reduceBEq,reduceCtorEq,lenB_nil,lenB_slice,lenB_oslice,lenB_str,lenB_agg,indexAddrA_slice,indexAddrA_oslice,indexAddrA_ptr,indexAddrA_optr,loadA_ptr,loadA_optr,lenK,indexK,loadK,Int.reduceBEq,Int.reduceBNe,Int.reduceMod,Int.reduceDiv,Int.reduceTDiv,Int.reduceTMod,Int.reduceFDiv,Int.reduceSub,Int.reduceNeg,Int.reduceGT,Int.reduceGE,BitVec.reduceOfInt,BitVec.reduceAnd,BitVec.reduceOr,BitVec.reduceXOr,BitVec.reduceToNat,Int.reduceToNat,Int.reducePow,Int.reduceMul,hT.all]
  · rw [Bool.true_or] at hm5
    rw [← hm5] at q3
    simp only [gX,gT,gM,gL,gB,wantedA,evOp,opv,absC,absC0,isAggT,resA,resultA,binA,eqA,eqGuardA,isConstA,isFlatScalar,strOp,ordB,readN,sliceCells,lenA,storeA,newA,buildA,fillA,buildSliceA,boundsA,bndA,sliceA,ptrOK,fieldAddrA,fieldA,indexA,extractA,convA,isIntT,biA,bytesOf,setAll,List.replicate,Nat.reduceAdd,Nat.reduceSub,Nat.reduceMul,Nat.reduceLT,Nat.reduceLeDiff,Nat.reduceEqDiff,Int.reduceEq,Int.reduceLT,Int.reduceLE,Int.reduceNe,Int.reduceAdd,Nat.reduceBEq,reduceCtorEq,lenB_nil,lenB_slice,lenB_oslice,lenB_str,lenB_agg,indexAddrA_slice,indexAddrA_oslice,indexAddrA_ptr,indexAddrA_optr,loadA_ptr,loadA_optr,lenK,indexK,loadK,Int.reduceBEq,Int.reduceBNe,Int.reduceMod,Int.reduceDiv,Int.reduceTDiv,Int.reduceTMod,Int.reduceFDiv,Int.reduceSub,Int.reduceNeg,Int.reduceGT,Int.reduceGE,BitVec.reduceOfInt,BitVec.reduceAnd,BitVec.reduceOr,BitVec.reduceXOr,BitVec.reduceToNat,Int.reduceToNat,Int.reducePow,Int.reduceMul,hT.all,g3,l3,b7,v6,q3,i1,i6,i7,i8,i9,i10]
    refine hS.one hj ?_
    simp only [gX,gT,gM,gL,gB,wantedA,evOp,opv,absC,absC0,isAggT,resA,resultA,binA,eqA,eqGuardA,isConstA,isFlatScalar,shiftOp,strOp,ordB,readN,sliceCells,lenA,storeA,newA,buildA,fillA,buildSliceA,boundsA,bndA,sliceA,ptrOK,fieldAddrA,fieldA,indexA,extractA,convA,isIntT,biA,bytesOf,setAll,List.replicate,Nat.reduceAdd,Nat.reduceSub,Nat.reduceMul,Nat.reduceLT,Nat.reduceLeDiff,Nat.reduceEqDiff,Int.reduceEq,Int.reduceLT,Int.reduceLE,Int.reduceNe,Int.reduceAdd,Nat.reduceBEq,reduceCtorEq,lenB_nil,lenB_slice,lenB_oslice,lenB_str,lenB_agg,indexAddrA_slice,indexAddrA_oslice,indexAddrA_ptr,indexAddrA_optr,loadA_ptr,loadA_optr,lenK,indexK,loadK,Int.reduceBEq,Int.reduceBNe,Int.reduceMod,Int.reduceDiv,Int.reduceTDiv,Int.reduceTMod,Int.reduceFDiv,Int.reduceSub,Int.reduceNeg,Int.reduceGT,Int.reduceGE,BitVec.reduceOfInt,BitVec.reduceAnd,BitVec.reduceOr,BitVec.reduceXOr,BitVec.reduceToNat,Int.reduceToNat,Int.reducePow,Int.reduceMul,hT.all]

end Go.Proofs.YtpddepehlinfnaaGreatDoor.B
