/- Part of a claim: the law ScalarWhole. -/
import Derived.Test.YtpddepehlinfnaaGreatDoorYS30
set_option linter.unusedSimpArgs false
set_option linter.unusedVariables false
set_option maxRecDepth 100000
set_option maxHeartbeats 10000000
namespace Go.Proofs.YtpddepehlinfnaaGreatDoor.B
open Go Go.RowKit Go.Proofs.YtpddepehlinfnaaGreatDoor.E Go.Proofs.YtpddepehlinfnaaGreatDoor.FL

/-- What sPlus answers. -/
def plW (n : Nat) : Nat := if isNaN .f64 n = true then aNaN .f64 else plusW n
theorem plW_tell (n : Nat) : Bw (plW n) = tellW n := by
  unfold plW tellW Bw plusW
  rw [nan_same n]
  by_cases h : nanW n = true
  · rw [if_pos h, if_pos h, nan_same, if_pos (show nanW (aNaN .f64) = true by decide)]
  · rw [if_neg h, if_neg h, nan_same]
    by_cases c : n = 9223372036854775808
    · rw [if_pos c, if_neg (by decide)]
    · rw [if_neg c, if_neg h]

theorem whole_lt (l : List Nat) : wholeW l < 18446744073709551616 := by
  unfold wholeW
  split
  · omega
  · split
    · omega
    · split
      · omega
      · split
        · omega
        · exact sumW_lt (tot l)

theorem negF_eq {n : Nat} (h : n < 18446744073709551616) : negF .f64 n = negW n := neg_word n h

theorem turned_step {l : List Nat} {a i x : Nat} (ha : a < l.length) (hi : i < l.length) (hx : l[l.length - 1 - (a + i) % l.length]? = some x) : (turned l a).take i ++ [x] = (turned l a).take (i + 1) := by
  have := turned_get ha hi
  rw [hx] at this
  rw [List.take_add_one, this]; rfl

theorem neg_step {l : List Nat} {i x : Nat} (hx : l[i]? = some x) : (l.map negW).take i ++ [negW x] = (l.map negW).take (i + 1) := by
  rw [List.take_add_one, List.getElem?_map, hx]; rfl

theorem remU {a n : Nat} : (a : Int).tmod (n : Int) = ((a % n : Nat) : Int) := by
  rw [Int.tmod_eq_emod_of_nonneg (by omega)]; rfl

theorem sPl (M : Addr → Option AV) (H : Heap) {n : Nat} (h : n < 18446744073709551616) : SemF Tryz.prog M 19 [.float .f64 n] H fun v h => v = .float .f64 (plW n) ∧ h = H := sPlus M H h

/-- Two rows of a call's own that do not meet. -/
def Apart (o p : Option Nat) : Prop := ∀ b, o = some b → p ≠ some b

theorem lawWhole (M : Addr → Option AV) (hM : ∀ a v, tabM a = some v → M a = some v) {v : AV} {l : List Nat} {at_ : Int} {y : Nat} (hv : ∀ G, Sees M G 1 v (uCs l)) (hl : l.length ≤ 1048574) (hlt : ∀ x ∈ l, x < 18446744073709551616) (hat : I64 at_) (hy : y < 18446744073709551616) :
    SemF Tryz.prog M 3 [v, .int .i64 at_, .int .u64 y] [] fun r _ => r = .bool true := by
  refine fw Tryz.func3 (by kernel_rfl) rfl (by kernel_rfl) fun C L T hT hS => ?_
  simp only [gX,gT,gM,gL,gB,wantedA,evOp,opv,absC,absC0,isAggT,resA,resultA,binA,eqA,eqGuardA,isConstA,isFlatScalar,shiftOp,strOp,ordB,readN,sliceCells,lenA,storeA,newA,buildA,fillA,buildSliceA,boundsA,bndA,sliceA,ptrOK,fieldAddrA,fieldA,indexA,extractA,convA,isIntT,biA,bytesOf,setAll,List.replicate,Nat.reduceAdd,Nat.reduceSub,Nat.reduceMul,Nat.reduceLT,Nat.reduceLeDiff,Nat.reduceEqDiff,Int.reduceEq,Int.reduceLT,Int.reduceLE,Int.reduceNe,Int.reduceAdd,Nat.reduceBEq,reduceCtorEq,lenB_nil,lenB_slice,lenB_oslice,lenB_str,lenB_agg,indexAddrA_slice,indexAddrA_oslice,indexAddrA_ptr,indexAddrA_optr,loadA_ptr,loadA_optr,lenK,indexK,loadK,Int.reduceBEq,Int.reduceBNe,Int.reduceMod,Int.reduceDiv,Int.reduceTDiv,Int.reduceTMod,Int.reduceFDiv,Int.reduceSub,Int.reduceNeg,Int.reduceGT,Int.reduceGE,BitVec.reduceOfInt,BitVec.reduceAnd,BitVec.reduceOr,BitVec.reduceXOr,BitVec.reduceToNat,Int.reduceToNat,Int.reducePow,Int.reduceMul,hT.all,Tryz.f3]
  refine hS.call (lFloats M (hv _) (by omega)) ?_
  rintro vi h1 ⟨o1, k1, f1⟩
  have s1 : ∀ h', Fr [] h1 h' → Sees M h' 1 vi (fCs l) := fun h' hf => k1.sees hf
  have e2 : ∀ ts, lenB T (24 :: ts) vi = some (.int .i64 l.length) := fun ts => (s1 h1 (Fr.refl _ _)).lenB (by rw [fCs_length]; omega) (by omega) hT.ty24 rfl
  simp only [gX,gT,gM,gL,gB,wantedA,evOp,opv,absC,absC0,isAggT,resA,resultA,binA,eqA,eqGuardA,isConstA,isFlatScalar,shiftOp,strOp,ordB,readN,sliceCells,lenA,storeA,newA,buildA,fillA,buildSliceA,boundsA,bndA,sliceA,ptrOK,fieldAddrA,fieldA,indexA,extractA,convA,isIntT,biA,bytesOf,setAll,List.replicate,Nat.reduceAdd,Nat.reduceSub,Nat.reduceMul,Nat.reduceLT,Nat.reduceLeDiff,Nat.reduceEqDiff,Int.reduceEq,Int.reduceLT,Int.reduceLE,Int.reduceNe,Int.reduceAdd,Nat.reduceBEq,reduceCtorEq,lenB_nil,lenB_slice,lenB_oslice,lenB_str,lenB_agg,indexAddrA_slice,indexAddrA_oslice,indexAddrA_ptr,indexAddrA_optr,loadA_ptr,loadA_optr,lenK,indexK,loadK,Int.reduceBEq,Int.reduceBNe,Int.reduceMod,Int.reduceDiv,Int.reduceTDiv,Int.reduceTMod,Int.reduceFDiv,Int.reduceSub,Int.reduceNeg,Int.reduceGT,Int.reduceGE,BitVec.reduceOfInt,BitVec.reduceAnd,BitVec.reduceOr,BitVec.reduceXOr,BitVec.reduceToNat,Int.reduceToNat,Int.reducePow,Int.reduceMul,hT.all]
  refine hS.call (sWhole M hM (s1 _ (Fr.refl _ _)) (by omega) hlt) ?_
  rintro _ h2 ⟨rfl, f2⟩
  obtain ⟨X, hX⟩ : ∃ X, X = wholeW l := ⟨_, rfl⟩
  have hX64 : X < 18446744073709551616 := by rw [hX]; exact whole_lt l
  rw [← hX]
  simp only [gX,gT,gM,gL,gB,wantedA,evOp,opv,absC,absC0,isAggT,resA,resultA,binA,eqA,eqGuardA,isConstA,isFlatScalar,shiftOp,strOp,ordB,readN,sliceCells,lenA,storeA,newA,buildA,fillA,buildSliceA,boundsA,bndA,sliceA,ptrOK,fieldAddrA,fieldA,indexA,extractA,convA,isIntT,biA,bytesOf,setAll,List.replicate,Nat.reduceAdd,Nat.reduceSub,Nat.reduceMul,Nat.reduceLT,Nat.reduceLeDiff,Nat.reduceEqDiff,Int.reduceEq,Int.reduceLT,Int.reduceLE,Int.reduceNe,Int.reduceAdd,Nat.reduceBEq,reduceCtorEq,lenB_nil,lenB_slice,lenB_oslice,lenB_str,lenB_agg,indexAddrA_slice,indexAddrA_oslice,indexAddrA_ptr,indexAddrA_optr,loadA_ptr,loadA_optr,lenK,indexK,loadK,Int.reduceBEq,Int.reduceBNe,Int.reduceMod,Int.reduceDiv,Int.reduceTDiv,Int.reduceTMod,Int.reduceFDiv,Int.reduceSub,Int.reduceNeg,Int.reduceGT,Int.reduceGE,BitVec.reduceOfInt,BitVec.reduceAnd,BitVec.reduceOr,BitVec.reduceXOr,BitVec.reduceToNat,Int.reduceToNat,Int.reducePow,Int.reduceMul,hT.all,e2]
  obtain ⟨u, hu⟩ : ∃ u : Nat, u = (at_ % 18446744073709551616).toNat := ⟨_, rfl⟩
  have hu64 : u < 18446744073709551616 := by omega
  obtain ⟨a, ha⟩ : ∃ a, a = u % l.length := ⟨_, rfl⟩
  refine hS.loop (fun m e h => ∃ (i : Nat) (vr vm : AV) (or om : Option Nat) (j3 j4 j5 : AV) (j : List AV), e = v :: .int .i64 at_ :: .int .u64 y :: j3 :: j4 :: j5 :: .bool false :: vi :: .float .f64 X :: vr :: vm :: .int .i64 l.length :: .int .i64 i :: j ∧ j.length = 83 ∧ i + m = l.length ∧
    Own h2 h vr or ((turned l a).take i) ∧ Own h2 h vm om ((l.map negW).take i) ∧ Apart or om ∧ Fr [] h2 h) l.length
    ⟨0, .nilslice, .nilslice, none, none, _, _, _, _, rfl, rfl, by omega, ⟨.nil, fun b hb => by cases hb⟩, ⟨.nil, fun b hb => by cases hb⟩, (by intro b hb; cases hb), Fr.refl _ _⟩ ?_
  rintro m e h ⟨i, vr, vm, or, om, j3, j4, j5, j, rfl, hj, hi, kr, km, hap, hf⟩ J hJ
  obtain ⟨g, rfl⟩ : ∃ g : Nat → AV, j = [g 0, g 1, g 2, g 3, g 4, g 5, g 6, g 7, g 8, g 9, g 10, g 11, g 12, g 13, g 14, g 15, g 16, g 17, g 18, g 19, g 20, g 21, g 22, g 23, g 24, g 25, g 26, g 27, g 28, g 29, g 30, g 31, g 32, g 33, g 34, g 35, g 36, g 37, g 38, g 39, g 40, g 41, g 42, g 43, g 44, g 45, g 46, g 47, g 48, g 49, g 50, g 51, g 52, g 53, g 54, g 55, g 56, g 57, g 58, g 59, g 60, g 61, g 62, g 63, g 64, g 65, g 66, g 67, g 68, g 69, g 70, g 71, g 72, g 73, g 74, g 75, g 76, g 77, g 78, g 79, g 80, g 81, g 82] := junk 83 j hj
  have f12 : Fr [] h1 h := f2.trans hf (by simp)
  by_cases hlti : i < l.length
  · have g1 : (i : Int) < l.length := by omega
    have han : a < l.length := by rw [ha]; exact Nat.mod_lt _ (by omega)
    have w1 : IntKind.u64.wrap at_ = (u : Int) := by rw [wU]; omega
    have w2 : IntKind.u64.wrap (l.length : Int) = (l.length : Int) := by rw [wU]; omega
    have d1 : (u : Int).tmod (l.length : Int) = (a : Int) := by rw [remU, ha]
    have w3 : IntKind.i64.wrap (a : Int) = a := wrap_i64 (by omega) (by omega)
    have w4 : IntKind.i64.wrap ((a : Int) + (i : Int)) = ((a + i : Nat) : Int) := by rw [wrap_i64 (by omega) (by omega)]; omega
    have d2 := remU (a := a + i) (n := l.length)
    obtain ⟨k, hk⟩ : ∃ k, k = (a + i) % l.length := ⟨_, rfl⟩
    have hkl : k < l.length := by rw [hk]; exact Nat.mod_lt _ (by omega)
    rw [← hk] at d2
    have w5 : IntKind.i64.wrap ((l.length : Int) - 1) = ((l.length - 1 : Nat) : Int) := by rw [wrap_i64 (by omega) (by omega)]; omega
    have w6 : IntKind.i64.wrap (((l.length - 1 : Nat) : Int) - (k : Int)) = ((l.length - 1 - k : Nat) : Int) := by rw [wrap_i64 (by omega) (by omega)]; omega
    have nz : ((l.length : Int) = 0) = False := eq_false (by omega)
    obtain ⟨x, hx⟩ : ∃ x, l[l.length - 1 - k]? = some x := ⟨_, List.getElem?_eq_getElem (by omega)⟩
    obtain ⟨z, hz⟩ : ∃ x, l[i]? = some x := ⟨_, List.getElem?_eq_getElem hlti⟩
    have hz64 := hlt z (List.mem_of_getElem? hz)
    have ix : ∀ (h' : Heap) (n x : Nat), Fr [] h1 h' → l[n]? = some x → indexAddrA T h' 24 vi (.int .i64 (n : Int)) = some (placeA vi n 1) ∧ loadA T M h' 26 (placeA vi n 1) = some (.float .f64 x) := by
      intro h' n x hf' hx'
      have hn := (List.getElem?_eq_some_iff.1 hx').1
      have s := s1 h' hf'
      constructor
      · have := s.index (T := T) (k := .i64) (n := (n : Int)) (by omega) (by rw [fCs_length]; omega) (by omega) hT.ty24 rfl hT.ty26 rfl
        simpa using this
      · exact s.load (fCs_get hx') hT.ty26 rfl
    obtain ⟨n1, o1⟩ := ix h _ x f12 hx
    have htk : ((turned l a).take i).length + 1 ≤ 1000000000000 := by simp; omega
    obtain ⟨vr', or', h3, ap1, kr', f3, f3', nw1⟩ := kr.push hT (M := M) hf x htk
    rw [hk] at hx
    rw [turned_step han hlti hx] at kr'
    have km' : Own h2 h3 vm om ((l.map negW).take i) := ⟨km.rep.mono f3' (by
      intro b hb hb2
      cases or with
      | none => simp at hb2
      | some b' =>
        simp at hb2; subst hb2
        exact hap b rfl hb), km.new⟩
    have hap' : Apart or' om := by
      intro b hb hb2
      rcases nw1 with e | ⟨c, e, hc⟩
      · rw [e] at hb; exact hap b hb hb2
      · rw [e] at hb; cases hb
        have := km.rep.lt hb2
        omega
    have f13 : Fr [] h1 h3 := f2.trans f3 (by simp)
    obtain ⟨n2, o2⟩ := ix h3 i z f13 hz
    have ng : unA .neg (.float .f64 z) = some (.float .f64 (negW z)) := by rw [un_negf, negF_eq hz64]
    obtain ⟨vm', om', h4, ap2, km'', f4, f4', nw2⟩ := km'.push hT (M := M) f3 (negW z) (by simp; omega)
    rw [neg_step hz] at km''
    have kr'' : Own h2 h4 vr' or' ((turned l a).take (i + 1)) := ⟨kr'.rep.mono f4' (by
      intro b hb hb2
      cases om with
      | none => simp at hb2
      | some b' =>
        simp at hb2; subst hb2
        exact hap' b hb rfl), kr'.new⟩
    have hap'' : Apart or' om' := by
      intro b hb hb2
      rcases nw2 with e | ⟨c, e, hc⟩
      · rw [e] at hb2; exact hap' b hb hb2
      · rw [e] at hb2; cases hb2
        have := kr'.rep.lt hb
        omega
    have hwi : IntKind.i64.wrap ((i : Int) + 1) = ((i + 1 : Nat) : Int) := by rw [wrap_i64 (by omega) (by omega)]; omega
    simp only [gX,gT,gM,gL,gB,wantedA,evOp,opv,absC,absC0,isAggT,resA,resultA,binA,eqA,eqGuardA,isConstA,isFlatScalar,shiftOp,strOp,ordB,readN,sliceCells,lenA,storeA,newA,buildA,fillA,buildSliceA,boundsA,bndA,sliceA,ptrOK,fieldAddrA,fieldA,indexA,extractA,convA,isIntT,biA,bytesOf,setAll,List.replicate,Nat.reduceAdd,Nat.reduceSub,Nat.reduceMul,Nat.reduceLT,Nat.reduceLeDiff,Nat.reduceEqDiff,Int.reduceEq,Int.reduceLT,Int.reduceLE,Int.reduceNe,Int.reduceAdd,Nat.reduceBEq,reduceCtorEq,lenB_nil,lenB_slice,lenB_oslice,lenB_str,lenB_agg,indexAddrA_slice,indexAddrA_oslice,indexAddrA_ptr,indexAddrA_optr,loadA_ptr,loadA_optr,lenK,indexK,loadK,Int.reduceBEq,Int.reduceBNe,Int.reduceMod,Int.reduceDiv,Int.reduceTDiv,Int.reduceTMod,Int.reduceFDiv,Int.reduceSub,Int.reduceNeg,Int.reduceGT,Int.reduceGE,BitVec.reduceOfInt,BitVec.reduceAnd,BitVec.reduceOr,BitVec.reduceXOr,BitVec.reduceToNat,Int.reduceToNat,Int.reducePow,Int.reduceMul,hT.all,g1,w1,w2,nz,d1,w3,w4,d2,w5,w6,n1,o1,ap1,n2,o2,ng,ap2,hwi]
    exact hJ (m - 1) _ _ _ (by omega) (Weak.refl _) ⟨i + 1, vr', vm', or', om', _, _, _, _, rfl, rfl, by omega, kr'', km'', hap'', f4⟩
  have g1 : ¬ (i : Int) < l.length := by omega
  clear hJ
  have tl : (turned l a).take i = turned l a := List.take_of_length_le (by rw [turned_length]; omega)
  have ml : (l.map negW).take i = l.map negW := List.take_of_length_le (by rw [List.length_map]; omega)
  rw [tl] at kr
  rw [ml] at km
  have tp := turned_perm l a
  have tlt : ∀ x ∈ turned l a, x < 18446744073709551616 := fun x hx => hlt x (tp.mem_iff.1 hx)
  have mlt : ∀ x ∈ l.map negW, x < 18446744073709551616 := fun x hx => by
    obtain ⟨z, hz, rfl⟩ := List.mem_map.1 hx
    exact negW_lt (hlt z hz)
  have q1 : sameW (wholeW (turned l a)) X = true := sameW_of (by rw [hX, whole_perm tp])
  have ngX : unA .neg (.float .f64 X) = some (.float .f64 (negW X)) := by rw [un_negf, negF_eq hX64]
  have q2 : sameW (plW (wholeW (l.map negW))) (plW (negW X)) = true := sameW_of (by rw [plW_tell, plW_tell, hX, whole_neg hlt])
  simp only [gX,gT,gM,gL,gB,wantedA,evOp,opv,absC,absC0,isAggT,resA,resultA,binA,eqA,eqGuardA,isConstA,isFlatScalar,shiftOp,strOp,ordB,readN,sliceCells,lenA,storeA,newA,buildA,fillA,buildSliceA,boundsA,bndA,sliceA,ptrOK,fieldAddrA,fieldA,indexA,extractA,convA,isIntT,biA,bytesOf,setAll,List.replicate,Nat.reduceAdd,Nat.reduceSub,Nat.reduceMul,Nat.reduceLT,Nat.reduceLeDiff,Nat.reduceEqDiff,Int.reduceEq,Int.reduceLT,Int.reduceLE,Int.reduceNe,Int.reduceAdd,Nat.reduceBEq,reduceCtorEq,lenB_nil,lenB_slice,lenB_oslice,lenB_str,lenB_agg,indexAddrA_slice,indexAddrA_oslice,indexAddrA_ptr,indexAddrA_optr,loadA_ptr,loadA_optr,lenK,indexK,loadK,Int.reduceBEq,Int.reduceBNe,Int.reduceMod,Int.reduceDiv,Int.reduceTDiv,Int.reduceTMod,Int.reduceFDiv,Int.reduceSub,Int.reduceNeg,Int.reduceGT,Int.reduceGE,BitVec.reduceOfInt,BitVec.reduceAnd,BitVec.reduceOr,BitVec.reduceXOr,BitVec.reduceToNat,Int.reduceToNat,Int.reducePow,Int.reduceMul,hT.all,g1]
  refine hS.one (sOf M _ y) ?_
  simp only [gX,gT,gM,gL,gB,wantedA,evOp,opv,absC,absC0,isAggT,resA,resultA,binA,eqA,eqGuardA,isConstA,isFlatScalar,shiftOp,strOp,ordB,readN,sliceCells,lenA,storeA,newA,buildA,fillA,buildSliceA,boundsA,bndA,sliceA,ptrOK,fieldAddrA,fieldA,indexA,extractA,convA,isIntT,biA,bytesOf,setAll,List.replicate,Nat.reduceAdd,Nat.reduceSub,Nat.reduceMul,Nat.reduceLT,Nat.reduceLeDiff,Nat.reduceEqDiff,Int.reduceEq,Int.reduceLT,Int.reduceLE,Int.reduceNe,Int.reduceAdd,Nat.reduceBEq,reduceCtorEq,lenB_nil,lenB_slice,lenB_oslice,lenB_str,lenB_agg,indexAddrA_slice,indexAddrA_oslice,indexAddrA_ptr,indexAddrA_optr,loadA_ptr,loadA_optr,lenK,indexK,loadK,Int.reduceBEq,Int.reduceBNe,Int.reduceMod,Int.reduceDiv,Int.reduceTDiv,Int.reduceTMod,Int.reduceFDiv,Int.reduceSub,Int.reduceNeg,Int.reduceGT,Int.reduceGE,BitVec.reduceOfInt,BitVec.reduceAnd,BitVec.reduceOr,BitVec.reduceXOr,BitVec.reduceToNat,Int.reduceToNat,Int.reducePow,Int.reduceMul,hT.all]
  refine hS.one (sClass M _ hy) ?_
  simp only [gX,gT,gM,gL,gB,wantedA,evOp,opv,absC,absC0,isAggT,resA,resultA,binA,eqA,eqGuardA,isConstA,isFlatScalar,shiftOp,strOp,ordB,readN,sliceCells,lenA,storeA,newA,buildA,fillA,buildSliceA,boundsA,bndA,sliceA,ptrOK,fieldAddrA,fieldA,indexA,extractA,convA,isIntT,biA,bytesOf,setAll,List.replicate,Nat.reduceAdd,Nat.reduceSub,Nat.reduceMul,Nat.reduceLT,Nat.reduceLeDiff,Nat.reduceEqDiff,Int.reduceEq,Int.reduceLT,Int.reduceLE,Int.reduceNe,Int.reduceAdd,Nat.reduceBEq,reduceCtorEq,lenB_nil,lenB_slice,lenB_oslice,lenB_str,lenB_agg,indexAddrA_slice,indexAddrA_oslice,indexAddrA_ptr,indexAddrA_optr,loadA_ptr,loadA_optr,lenK,indexK,loadK,Int.reduceBEq,Int.reduceBNe,Int.reduceMod,Int.reduceDiv,Int.reduceTDiv,Int.reduceTMod,Int.reduceFDiv,Int.reduceSub,Int.reduceNeg,Int.reduceGT,Int.reduceGE,BitVec.reduceOfInt,BitVec.reduceAnd,BitVec.reduceOr,BitVec.reduceXOr,BitVec.reduceToNat,Int.reduceToNat,Int.reducePow,Int.reduceMul,hT.all]
  refine hS.call (sWhole M hM (kr.rep.sees) (by rw [turned_length]; omega) tlt) ?_
  rintro _ h5 ⟨rfl, f5⟩
  simp only [gX,gT,gM,gL,gB,wantedA,evOp,opv,absC,absC0,isAggT,resA,resultA,binA,eqA,eqGuardA,isConstA,isFlatScalar,shiftOp,strOp,ordB,readN,sliceCells,lenA,storeA,newA,buildA,fillA,buildSliceA,boundsA,bndA,sliceA,ptrOK,fieldAddrA,fieldA,indexA,extractA,convA,isIntT,biA,bytesOf,setAll,List.replicate,Nat.reduceAdd,Nat.reduceSub,Nat.reduceMul,Nat.reduceLT,Nat.reduceLeDiff,Nat.reduceEqDiff,Int.reduceEq,Int.reduceLT,Int.reduceLE,Int.reduceNe,Int.reduceAdd,Nat.reduceBEq,reduceCtorEq,lenB_nil,lenB_slice,lenB_oslice,lenB_str,lenB_agg,indexAddrA_slice,indexAddrA_oslice,indexAddrA_ptr,indexAddrA_optr,loadA_ptr,loadA_optr,lenK,indexK,loadK,Int.reduceBEq,Int.reduceBNe,Int.reduceMod,Int.reduceDiv,Int.reduceTDiv,Int.reduceTMod,Int.reduceFDiv,Int.reduceSub,Int.reduceNeg,Int.reduceGT,Int.reduceGE,BitVec.reduceOfInt,BitVec.reduceAnd,BitVec.reduceOr,BitVec.reduceXOr,BitVec.reduceToNat,Int.reduceToNat,Int.reducePow,Int.reduceMul,hT.all]
  refine hS.one (sSame M _ _ _) ?_
  simp only [gX,gT,gM,gL,gB,wantedA,evOp,opv,absC,absC0,isAggT,resA,resultA,binA,eqA,eqGuardA,isConstA,isFlatScalar,shiftOp,strOp,ordB,readN,sliceCells,lenA,storeA,newA,buildA,fillA,buildSliceA,boundsA,bndA,sliceA,ptrOK,fieldAddrA,fieldA,indexA,extractA,convA,isIntT,biA,bytesOf,setAll,List.replicate,Nat.reduceAdd,Nat.reduceSub,Nat.reduceMul,Nat.reduceLT,Nat.reduceLeDiff,Nat.reduceEqDiff,Int.reduceEq,Int.reduceLT,Int.reduceLE,Int.reduceNe,Int.reduceAdd,Nat.reduceBEq,reduceCtorEq,lenB_nil,lenB_slice,lenB_oslice,lenB_str,lenB_agg,indexAddrA_slice,indexAddrA_oslice,indexAddrA_ptr,indexAddrA_optr,loadA_ptr,loadA_optr,lenK,indexK,loadK,Int.reduceBEq,Int.reduceBNe,Int.reduceMod,Int.reduceDiv,Int.reduceTDiv,Int.reduceTMod,Int.reduceFDiv,Int.reduceSub,Int.reduceNeg,Int.reduceGT,Int.reduceGE,BitVec.reduceOfInt,BitVec.reduceAnd,BitVec.reduceOr,BitVec.reduceXOr,BitVec.reduceToNat,Int.reduceToNat,Int.reducePow,Int.reduceMul,hT.all,q1]
  refine hS.call (sWhole M hM ((km.rep.mono f5 (by simp)).sees) (by rw [List.length_map]; omega) mlt) ?_
  rintro _ h6 ⟨rfl, f6⟩
  simp only [gX,gT,gM,gL,gB,wantedA,evOp,opv,absC,absC0,isAggT,resA,resultA,binA,eqA,eqGuardA,isConstA,isFlatScalar,shiftOp,strOp,ordB,readN,sliceCells,lenA,storeA,newA,buildA,fillA,buildSliceA,boundsA,bndA,sliceA,ptrOK,fieldAddrA,fieldA,indexA,extractA,convA,isIntT,biA,bytesOf,setAll,List.replicate,Nat.reduceAdd,Nat.reduceSub,Nat.reduceMul,Nat.reduceLT,Nat.reduceLeDiff,Nat.reduceEqDiff,Int.reduceEq,Int.reduceLT,Int.reduceLE,Int.reduceNe,Int.reduceAdd,Nat.reduceBEq,reduceCtorEq,lenB_nil,lenB_slice,lenB_oslice,lenB_str,lenB_agg,indexAddrA_slice,indexAddrA_oslice,indexAddrA_ptr,indexAddrA_optr,loadA_ptr,loadA_optr,lenK,indexK,loadK,Int.reduceBEq,Int.reduceBNe,Int.reduceMod,Int.reduceDiv,Int.reduceTDiv,Int.reduceTMod,Int.reduceFDiv,Int.reduceSub,Int.reduceNeg,Int.reduceGT,Int.reduceGE,BitVec.reduceOfInt,BitVec.reduceAnd,BitVec.reduceOr,BitVec.reduceXOr,BitVec.reduceToNat,Int.reduceToNat,Int.reducePow,Int.reduceMul,hT.all]
  refine hS.one (sPl M _ (whole_lt _)) ?_
  simp only [gX,gT,gM,gL,gB,wantedA,evOp,opv,absC,absC0,isAggT,resA,resultA,binA,eqA,eqGuardA,isConstA,isFlatScalar,shiftOp,strOp,ordB,readN,sliceCells,lenA,storeA,newA,buildA,fillA,buildSliceA,boundsA,bndA,sliceA,ptrOK,fieldAddrA,fieldA,indexA,extractA,convA,isIntT,biA,bytesOf,setAll,List.replicate,Nat.reduceAdd,Nat.reduceSub,Nat.reduceMul,Nat.reduceLT,Nat.reduceLeDiff,Nat.reduceEqDiff,Int.reduceEq,Int.reduceLT,Int.reduceLE,Int.reduceNe,Int.reduceAdd,Nat.reduceBEq,reduceCtorEq,lenB_nil,lenB_slice,lenB_oslice,lenB_str,lenB_agg,indexAddrA_slice,indexAddrA_oslice,indexAddrA_ptr,indexAddrA_optr,loadA_ptr,loadA_optr,lenK,indexK,loadK,Int.reduceBEq,Int.reduceBNe,Int.reduceMod,Int.reduceDiv,Int.reduceTDiv,Int.reduceTMod,Int.reduceFDiv,Int.reduceSub,Int.reduceNeg,Int.reduceGT,Int.reduceGE,BitVec.reduceOfInt,BitVec.reduceAnd,BitVec.reduceOr,BitVec.reduceXOr,BitVec.reduceToNat,Int.reduceToNat,Int.reducePow,Int.reduceMul,hT.all,ngX]
  refine hS.one (sPl M _ (negW_lt hX64)) ?_
  simp only [gX,gT,gM,gL,gB,wantedA,evOp,opv,absC,absC0,isAggT,resA,resultA,binA,eqA,eqGuardA,isConstA,isFlatScalar,shiftOp,strOp,ordB,readN,sliceCells,lenA,storeA,newA,buildA,fillA,buildSliceA,boundsA,bndA,sliceA,ptrOK,fieldAddrA,fieldA,indexA,extractA,convA,isIntT,biA,bytesOf,setAll,List.replicate,Nat.reduceAdd,Nat.reduceSub,Nat.reduceMul,Nat.reduceLT,Nat.reduceLeDiff,Nat.reduceEqDiff,Int.reduceEq,Int.reduceLT,Int.reduceLE,Int.reduceNe,Int.reduceAdd,Nat.reduceBEq,reduceCtorEq,lenB_nil,lenB_slice,lenB_oslice,lenB_str,lenB_agg,indexAddrA_slice,indexAddrA_oslice,indexAddrA_ptr,indexAddrA_optr,loadA_ptr,loadA_optr,lenK,indexK,loadK,Int.reduceBEq,Int.reduceBNe,Int.reduceMod,Int.reduceDiv,Int.reduceTDiv,Int.reduceTMod,Int.reduceFDiv,Int.reduceSub,Int.reduceNeg,Int.reduceGT,Int.reduceGE,BitVec.reduceOfInt,BitVec.reduceAnd,BitVec.reduceOr,BitVec.reduceXOr,BitVec.reduceToNat,Int.reduceToNat,Int.reducePow,Int.reduceMul,hT.all]
  refine hS.one (sSame M _ _ _) ?_
  simp only [gXs,gT,gM,gL,gB,wantedA,evOp,opv,absC,absC0,isAggT,resA,resultA,binA,eqA,eqGuardA,isConstA,isFlatScalar,shiftOp,strOp,ordB,readN,sliceCells,lenA,storeA,newA,buildA,fillA,buildSliceA,boundsA,bndA,sliceA,ptrOK,fieldAddrA,fieldA,indexA,extractA,convA,isIntT,biA,bytesOf,setAll,List.replicate,Nat.reduceAdd,Nat.reduceSub,Nat.reduceMul,Nat.reduceLT,Nat.reduceLeDiff,Nat.reduceEqDiff,Int.reduceEq,Int.reduceLT,Int.reduceLE,Int.reduceNe,Int.reduceAdd,Nat.reduceBEq,reduceCtorEq,lenB_nil,lenB_slice,lenB_oslice,lenB_str,lenB_agg,indexAddrA_slice,indexAddrA_oslice,indexAddrA_ptr,indexAddrA_optr,loadA_ptr,loadA_optr,lenK,indexK,loadK,Int.reduceBEq,Int.reduceBNe,Int.reduceMod,Int.reduceDiv,Int.reduceTDiv,Int.reduceTMod,Int.reduceFDiv,Int.reduceSub,Int.reduceNeg,Int.reduceGT,Int.reduceGE,BitVec.reduceOfInt,BitVec.reduceAnd,BitVec.reduceOr,BitVec.reduceXOr,BitVec.reduceToNat,Int.reduceToNat,Int.reducePow,Int.reduceMul,hT.all,q2]
  by_cases cf : y % 9223372036854775808 < 9218868437227405312
  rotate_left
  · by_cases hn : isNaN .f64 y = true
    · have hc : clsW y = 1 := if_pos hn
      rw [hc]
      simp only [gX,gT,gM,gL,gB,wantedA,evOp,opv,absC,absC0,isAggT,resA,resultA,binA,eqA,eqGuardA,isConstA,isFlatScalar,shiftOp,strOp,ordB,readN,sliceCells,lenA,storeA,newA,buildA,fillA,buildSliceA,boundsA,bndA,sliceA,ptrOK,fieldAddrA,fieldA,indexA,extractA,convA,isIntT,biA,bytesOf,setAll,List.replicate,Nat.reduceAdd,Nat.reduceSub,Nat.reduceMul,Nat.reduceLT,Nat.reduceLeDiff,Nat.reduceEqDiff,Int.reduceEq,Int.reduceLT,Int.reduceLE,Int.reduceNe,Int.reduceAdd,Nat.reduceBEq,reduceCtorEq,lenB_nil,lenB_slice,lenB_oslice,lenB_str,lenB_agg,indexAddrA_slice,indexAddrA_oslice,indexAddrA_ptr,indexAddrA_optr,loadA_ptr,loadA_optr,lenK,indexK,loadK,Int.reduceBEq,Int.reduceBNe,Int.reduceMod,Int.reduceDiv,Int.reduceTDiv,Int.reduceTMod,Int.reduceFDiv,Int.reduceSub,Int.reduceNeg,Int.reduceGT,Int.reduceGE,BitVec.reduceOfInt,BitVec.reduceAnd,BitVec.reduceOr,BitVec.reduceXOr,BitVec.reduceToNat,Int.reduceToNat,Int.reducePow,Int.reduceMul,hT.all]
      refine hS.one (alive M hM _) ?_
      simp only [gX,gT,gM,gL,gB,wantedA,evOp,opv,absC,absC0,isAggT,resA,resultA,binA,eqA,eqGuardA,isConstA,isFlatScalar,shiftOp,strOp,ordB,readN,sliceCells,lenA,storeA,newA,buildA,fillA,buildSliceA,boundsA,bndA,sliceA,ptrOK,fieldAddrA,fieldA,indexA,extractA,convA,isIntT,biA,bytesOf,setAll,List.replicate,Nat.reduceAdd,Nat.reduceSub,Nat.reduceMul,Nat.reduceLT,Nat.reduceLeDiff,Nat.reduceEqDiff,Int.reduceEq,Int.reduceLT,Int.reduceLE,Int.reduceNe,Int.reduceAdd,Nat.reduceBEq,reduceCtorEq,lenB_nil,lenB_slice,lenB_oslice,lenB_str,lenB_agg,indexAddrA_slice,indexAddrA_oslice,indexAddrA_ptr,indexAddrA_optr,loadA_ptr,loadA_optr,lenK,indexK,loadK,Int.reduceBEq,Int.reduceBNe,Int.reduceMod,Int.reduceDiv,Int.reduceTDiv,Int.reduceTMod,Int.reduceFDiv,Int.reduceSub,Int.reduceNeg,Int.reduceGT,Int.reduceGE,BitVec.reduceOfInt,BitVec.reduceAnd,BitVec.reduceOr,BitVec.reduceXOr,BitVec.reduceToNat,Int.reduceToNat,Int.reducePow,Int.reduceMul,hT.all]
    · have hc : clsW y = 2 := by
        unfold clsW
        have := num_lt (n := y) (by simpa using hn)
        rw [if_neg hn, if_pos (by omega)]
      rw [hc]
      simp only [gX,gT,gM,gL,gB,wantedA,evOp,opv,absC,absC0,isAggT,resA,resultA,binA,eqA,eqGuardA,isConstA,isFlatScalar,shiftOp,strOp,ordB,readN,sliceCells,lenA,storeA,newA,buildA,fillA,buildSliceA,boundsA,bndA,sliceA,ptrOK,fieldAddrA,fieldA,indexA,extractA,convA,isIntT,biA,bytesOf,setAll,List.replicate,Nat.reduceAdd,Nat.reduceSub,Nat.reduceMul,Nat.reduceLT,Nat.reduceLeDiff,Nat.reduceEqDiff,Int.reduceEq,Int.reduceLT,Int.reduceLE,Int.reduceNe,Int.reduceAdd,Nat.reduceBEq,reduceCtorEq,lenB_nil,lenB_slice,lenB_oslice,lenB_str,lenB_agg,indexAddrA_slice,indexAddrA_oslice,indexAddrA_ptr,indexAddrA_optr,loadA_ptr,loadA_optr,lenK,indexK,loadK,Int.reduceBEq,Int.reduceBNe,Int.reduceMod,Int.reduceDiv,Int.reduceTDiv,Int.reduceTMod,Int.reduceFDiv,Int.reduceSub,Int.reduceNeg,Int.reduceGT,Int.reduceGE,BitVec.reduceOfInt,BitVec.reduceAnd,BitVec.reduceOr,BitVec.reduceXOr,BitVec.reduceToNat,Int.reduceToNat,Int.reducePow,Int.reduceMul,hT.all]
      refine hS.one (alive M hM _) ?_
      simp only [gX,gT,gM,gL,gB,wantedA,evOp,opv,absC,absC0,isAggT,resA,resultA,binA,eqA,eqGuardA,isConstA,isFlatScalar,shiftOp,strOp,ordB,readN,sliceCells,lenA,storeA,newA,buildA,fillA,buildSliceA,boundsA,bndA,sliceA,ptrOK,fieldAddrA,fieldA,indexA,extractA,convA,isIntT,biA,bytesOf,setAll,List.replicate,Nat.reduceAdd,Nat.reduceSub,Nat.reduceMul,Nat.reduceLT,Nat.reduceLeDiff,Nat.reduceEqDiff,Int.reduceEq,Int.reduceLT,Int.reduceLE,Int.reduceNe,Int.reduceAdd,Nat.reduceBEq,reduceCtorEq,lenB_nil,lenB_slice,lenB_oslice,lenB_str,lenB_agg,indexAddrA_slice,indexAddrA_oslice,indexAddrA_ptr,indexAddrA_optr,loadA_ptr,loadA_optr,lenK,indexK,loadK,Int.reduceBEq,Int.reduceBNe,Int.reduceMod,Int.reduceDiv,Int.reduceTDiv,Int.reduceTMod,Int.reduceFDiv,Int.reduceSub,Int.reduceNeg,Int.reduceGT,Int.reduceGE,BitVec.reduceOfInt,BitVec.reduceAnd,BitVec.reduceOr,BitVec.reduceXOr,BitVec.reduceToNat,Int.reduceToNat,Int.reducePow,Int.reduceMul,hT.all]
  have hn : isNaN .f64 y = false := by rw [isNaN_of, decide_eq_false_iff_not]; omega
  have c1 : (clsW y == 1) = false := by
    rw [beq_eq_false_iff_ne]; unfold clsW
    rw [if_neg (by rw [hn]; decide), if_neg (by omega)]
    split
    · decide
    · split <;> decide
  have c2 : (clsW y == 2) = false := by
    rw [beq_eq_false_iff_ne]; unfold clsW
    rw [if_neg (by rw [hn]; decide), if_neg (by omega)]
    split
    · decide
    · split <;> decide
  have ngy : unA .neg (.float .f64 y) = some (.float .f64 (negW y)) := by rw [un_negf, negF_eq hy]
  have f16 : Fr [] h h6 := f5.trans f6 (by simp)
  have hF : Fr [] h6 (h6 ++ [.c [.float .f64 y, .float .f64 (negW y)] 26 0 0]) := Fr.app _ _
  obtain ⟨v7, o7, h7, ap7, r7, f7, nw7⟩ := appF hT (M := M) ((kr.rep.mono f16 (by simp)).mono hF (by simp)) (x := .slice h6.length 0 0 1 2 (some 2)) (new := [y, negW y]) rfl (by simp [sliceCells, fCs]) (by rw [turned_length]; simp; omega)
  have hall : ∀ x ∈ turned l a ++ [y, negW y], x < 18446744073709551616 := by
    intro x hx
    rcases List.mem_append.1 hx with hx | hx
    · exact tlt x hx
    · simp at hx
      rcases hx with rfl | rfl
      · exact hy
      · exact negW_lt hy
  have q3 : sameW (plW (wholeW (turned l a ++ [y, negW y]))) (plW X) = true := sameW_of (by rw [plW_tell, plW_tell, hX, whole_both cf hy, whole_perm tp])
  simp only [gX,gT,gM,gL,gB,wantedA,evOp,opv,absC,absC0,isAggT,resA,resultA,binA,eqA,eqGuardA,isConstA,isFlatScalar,shiftOp,strOp,ordB,readN,sliceCells,lenA,storeA,newA,buildA,fillA,buildSliceA,boundsA,bndA,sliceA,ptrOK,fieldAddrA,fieldA,indexA,extractA,convA,isIntT,biA,bytesOf,setAll,List.replicate,Nat.reduceAdd,Nat.reduceSub,Nat.reduceMul,Nat.reduceLT,Nat.reduceLeDiff,Nat.reduceEqDiff,Int.reduceEq,Int.reduceLT,Int.reduceLE,Int.reduceNe,Int.reduceAdd,Nat.reduceBEq,reduceCtorEq,lenB_nil,lenB_slice,lenB_oslice,lenB_str,lenB_agg,indexAddrA_slice,indexAddrA_oslice,indexAddrA_ptr,indexAddrA_optr,loadA_ptr,loadA_optr,lenK,indexK,loadK,Int.reduceBEq,Int.reduceBNe,Int.reduceMod,Int.reduceDiv,Int.reduceTDiv,Int.reduceTMod,Int.reduceFDiv,Int.reduceSub,Int.reduceNeg,Int.reduceGT,Int.reduceGE,BitVec.reduceOfInt,BitVec.reduceAnd,BitVec.reduceOr,BitVec.reduceXOr,BitVec.reduceToNat,Int.reduceToNat,Int.reducePow,Int.reduceMul,hT.all,c1,c2,ngy,ap7]
  refine hS.call (sWhole M hM r7.sees (by rw [List.length_append, turned_length]; simp; omega) hall) ?_
  rintro _ h8 ⟨rfl, f8⟩
  simp only [gX,gT,gM,gL,gB,wantedA,evOp,opv,absC,absC0,isAggT,resA,resultA,binA,eqA,eqGuardA,isConstA,isFlatScalar,shiftOp,strOp,ordB,readN,sliceCells,lenA,storeA,newA,buildA,fillA,buildSliceA,boundsA,bndA,sliceA,ptrOK,fieldAddrA,fieldA,indexA,extractA,convA,isIntT,biA,bytesOf,setAll,List.replicate,Nat.reduceAdd,Nat.reduceSub,Nat.reduceMul,Nat.reduceLT,Nat.reduceLeDiff,Nat.reduceEqDiff,Int.reduceEq,Int.reduceLT,Int.reduceLE,Int.reduceNe,Int.reduceAdd,Nat.reduceBEq,reduceCtorEq,lenB_nil,lenB_slice,lenB_oslice,lenB_str,lenB_agg,indexAddrA_slice,indexAddrA_oslice,indexAddrA_ptr,indexAddrA_optr,loadA_ptr,loadA_optr,lenK,indexK,loadK,Int.reduceBEq,Int.reduceBNe,Int.reduceMod,Int.reduceDiv,Int.reduceTDiv,Int.reduceTMod,Int.reduceFDiv,Int.reduceSub,Int.reduceNeg,Int.reduceGT,Int.reduceGE,BitVec.reduceOfInt,BitVec.reduceAnd,BitVec.reduceOr,BitVec.reduceXOr,BitVec.reduceToNat,Int.reduceToNat,Int.reducePow,Int.reduceMul,hT.all]
  refine hS.one (sPl M _ (whole_lt _)) ?_
  simp only [gX,gT,gM,gL,gB,wantedA,evOp,opv,absC,absC0,isAggT,resA,resultA,binA,eqA,eqGuardA,isConstA,isFlatScalar,shiftOp,strOp,ordB,readN,sliceCells,lenA,storeA,newA,buildA,fillA,buildSliceA,boundsA,bndA,sliceA,ptrOK,fieldAddrA,fieldA,indexA,extractA,convA,isIntT,biA,bytesOf,setAll,List.replicate,Nat.reduceAdd,Nat.reduceSub,Nat.reduceMul,Nat.reduceLT,Nat.reduceLeDiff,Nat.reduceEqDiff,Int.reduceEq,Int.reduceLT,Int.reduceLE,Int.reduceNe,Int.reduceAdd,Nat.reduceBEq,reduceCtorEq,lenB_nil,lenB_slice,lenB_oslice,lenB_str,lenB_agg,indexAddrA_slice,indexAddrA_oslice,indexAddrA_ptr,indexAddrA_optr,loadA_ptr,loadA_optr,lenK,indexK,loadK,Int.reduceBEq,Int.reduceBNe,Int.reduceMod,Int.reduceDiv,Int.reduceTDiv,Int.reduceTMod,Int.reduceFDiv,Int.reduceSub,Int.reduceNeg,Int.reduceGT,Int.reduceGE,BitVec.reduceOfInt,BitVec.reduceAnd,BitVec.reduceOr,BitVec.reduceXOr,BitVec.reduceToNat,Int.reduceToNat,Int.reducePow,Int.reduceMul,hT.all]
  refine hS.one (sPl M _ hX64) ?_
  simp only [gX,gT,gM,gL,gB,wantedA,evOp,opv,absC,absC0,isAggT,resA,resultA,binA,eqA,eqGuardA,isConstA,isFlatScalar,shiftOp,strOp,ordB,readN,sliceCells,lenA,storeA,newA,buildA,fillA,buildSliceA,boundsA,bndA,sliceA,ptrOK,fieldAddrA,fieldA,indexA,extractA,convA,isIntT,biA,bytesOf,setAll,List.replicate,Nat.reduceAdd,Nat.reduceSub,Nat.reduceMul,Nat.reduceLT,Nat.reduceLeDiff,Nat.reduceEqDiff,Int.reduceEq,Int.reduceLT,Int.reduceLE,Int.reduceNe,Int.reduceAdd,Nat.reduceBEq,reduceCtorEq,lenB_nil,lenB_slice,lenB_oslice,lenB_str,lenB_agg,indexAddrA_slice,indexAddrA_oslice,indexAddrA_ptr,indexAddrA_optr,loadA_ptr,loadA_optr,lenK,indexK,loadK,Int.reduceBEq,Int.reduceBNe,Int.reduceMod,Int.reduceDiv,Int.reduceTDiv,Int.reduceTMod,Int.reduceFDiv,Int.reduceSub,Int.reduceNeg,Int.reduceGT,Int.reduceGE,BitVec.reduceOfInt,BitVec.reduceAnd,BitVec.reduceOr,BitVec.reduceXOr,BitVec.reduceToNat,Int.reduceToNat,Int.reducePow,Int.reduceMul,hT.all]
  refine hS.one (sSame M _ _ _) ?_
  simp only [gX,gT,gM,gL,gB,wantedA,evOp,opv,absC,absC0,isAggT,resA,resultA,binA,eqA,eqGuardA,isConstA,isFlatScalar,shiftOp,strOp,ordB,readN,sliceCells,lenA,storeA,newA,buildA,fillA,buildSliceA,boundsA,bndA,sliceA,ptrOK,fieldAddrA,fieldA,indexA,extractA,convA,isIntT,biA,bytesOf,setAll,List.replicate,Nat.reduceAdd,Nat.reduceSub,Nat.reduceMul,Nat.reduceLT,Nat.reduceLeDiff,Nat.reduceEqDiff,Int.reduceEq,Int.reduceLT,Int.reduceLE,Int.reduceNe,Int.reduceAdd,Nat.reduceBEq,reduceCtorEq,lenB_nil,lenB_slice,lenB_oslice,lenB_str,lenB_agg,indexAddrA_slice,indexAddrA_oslice,indexAddrA_ptr,indexAddrA_optr,loadA_ptr,loadA_optr,lenK,indexK,loadK,Int.reduceBEq,Int.reduceBNe,Int.reduceMod,Int.reduceDiv,Int.reduceTDiv,Int.reduceTMod,Int.reduceFDiv,Int.reduceSub,Int.reduceNeg,Int.reduceGT,Int.reduceGE,BitVec.reduceOfInt,BitVec.reduceAnd,BitVec.reduceOr,BitVec.reduceXOr,BitVec.reduceToNat,Int.reduceToNat,Int.reducePow,Int.reduceMul,hT.all,q3]
  refine hS.one (alive M hM _) ?_
  simp only [gX,gT,gM,gL,gB,wantedA,evOp,opv,absC,absC0,isAggT,resA,resultA,binA,eqA,eqGuardA,isConstA,isFlatScalar,shiftOp,strOp,ordB,readN,sliceCells,lenA,storeA,newA,buildA,fillA,buildSliceA,boundsA,bndA,sliceA,ptrOK,fieldAddrA,fieldA,indexA,extractA,convA,isIntT,biA,bytesOf,setAll,List.replicate,Nat.reduceAdd,Nat.reduceSub,Nat.reduceMul,Nat.reduceLT,Nat.reduceLeDiff,Nat.reduceEqDiff,Int.reduceEq,Int.reduceLT,Int.reduceLE,Int.reduceNe,Int.reduceAdd,Nat.reduceBEq,reduceCtorEq,lenB_nil,lenB_slice,lenB_oslice,lenB_str,lenB_agg,indexAddrA_slice,indexAddrA_oslice,indexAddrA_ptr,indexAddrA_optr,loadA_ptr,loadA_optr,lenK,indexK,loadK,Int.reduceBEq,Int.reduceBNe,Int.reduceMod,Int.reduceDiv,Int.reduceTDiv,Int.reduceTMod,Int.reduceFDiv,Int.reduceSub,Int.reduceNeg,Int.reduceGT,Int.reduceGE,BitVec.reduceOfInt,BitVec.reduceAnd,BitVec.reduceOr,BitVec.reduceXOr,BitVec.reduceToNat,Int.reduceToNat,Int.reducePow,Int.reduceMul,hT.all]

end Go.Proofs.YtpddepehlinfnaaGreatDoor.B
