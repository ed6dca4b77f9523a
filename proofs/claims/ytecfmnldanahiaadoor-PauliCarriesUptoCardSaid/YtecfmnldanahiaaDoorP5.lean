/- Part of a claim: Pauli strings: products. -/
import Derived.Test.YtecfmnldanahiaaDoorP4
set_option linter.unusedSimpArgs false
set_option linter.unusedVariables false
set_option maxRecDepth 100000
set_option maxHeartbeats 10000000
namespace Go.Proofs.YtecfmnldanahiaaDoor.B
open Go Go.RowKit Go.Proofs.YtecfmnldanahiaaDoor.E Go.Proofs.YtecfmnldanahiaaDoor.PC

theorem deBruijn : ((List.range 64).all fun k => isU8 (tabM ⟨0, 2 ^ k * 285870213051353865 % 18446744073709551616 / 288230376151711744, none⟩) k && decide (2 ^ k * 285870213051353865 % 18446744073709551616 / 288230376151711744 < 64)) = true := by kernel_rfl

theorem pTrail (M : Addr → Option AV) (hM : ∀ a v, tabM a = some v → M a = some v) (H : Heap) {x k : Nat} (h0 : x ≠ 0) (h : x < 18446744073709551616) (hk : x &&& (18446744073709551616 - x) = 2 ^ k) (hk2 : k < 64) :
    SemF Tryd.prog M 53 [.int .u64 x] H fun v h => v = .int .i64 k ∧ h = H := by
  have b0 : ((x : Int) == 0) = false := by rw [beq_eq_false_iff_ne]; omega
  have w1 : IntKind.u64.wrap (0 - (x : Int)) = (18446744073709551616 - x : Nat) := by rw [wU]; omega
  have w2 := and64 (a := x) (b := 18446744073709551616 - x) h (by omega)
  rw [hk] at w2
  have hd := List.all_eq_true.1 deBruijn k (List.mem_range.2 hk2)
  simp only [Bool.and_eq_true, decide_eq_true_eq] at hd
  have hld := hM _ _ (isU8_eq hd.1)
  have hlt := hd.2
  have w3 : IntKind.u64.wrap (((2 ^ k : Nat) : Int) * 285870213051353865) = ((2 ^ k * 285870213051353865 % 18446744073709551616 : Nat) : Int) := by rw [wU]; omega
  have w4 := shrU (a := 2 ^ k * 285870213051353865 % 18446744073709551616) (n := 58) (by omega)
  rw [show ((58 : Nat) : Int) = 58 by rfl, show 2 ^ 58 = 288230376151711744 by decide] at w4
  have w5 : IntKind.i64.wrap ((k : Nat) : Int) = k := wrap_i64 (by omega) (by omega)
  obtain ⟨y, hy⟩ : ∃ y, y = 18446744073709551616 - x := ⟨_, rfl⟩
  obtain ⟨z, hz⟩ : ∃ z, z = 2 ^ k := ⟨_, rfl⟩
  rw [← hy] at w1 w2
  rw [← hz] at w2 w3 w4 hld hlt
  obtain ⟨q, hq⟩ : ∃ q, q = z * 285870213051353865 % 18446744073709551616 := ⟨_, rfl⟩
  rw [← hq] at w3 w4 hld hlt
  obtain ⟨i, hi⟩ : ∃ i, i = q / 288230376151711744 := ⟨_, rfl⟩
  rw [← hi] at w4 hld hlt
  have c1 : (0 : Int) ≤ (i : Int) ∧ (i : Int) < 64 := by omega
  have ha := addr_add 0 i
  have hlc := load_cell hld
  refine fpure rfl rfl (fw Tryd.func53 (by kernel_rfl) rfl (by kernel_rfl) fun C L T hT hS => ?_) H
  simp only [gX,gM,gL,gB,List.map_cons,List.map_nil,wantedA,evOp,opv,absC,absC0,isAggT,resA,resultA,binA,eqA,eqGuardA,isConstA,isFlatScalar,strOp,ordB,readN,sliceCells,lenA,storeA,newA,buildA,fillA,buildSliceA,boundsA,bndA,sliceA,ptrOK,fieldAddrA,fieldA,indexA,extractA,convA,isIntT,biA,bytesOf,setAll,List.replicate,List.cons.injEq,exists_eq_left',exists_eq_left,exists_eq_right',eq_self,Option.map_some,Option.map_none,Option.bind_some,Option.bind_none,Option.some.injEq,Prod.mk.injEq,Nat.reduceAdd,Nat.reduceSub,Nat.reduceMul,Nat.reduceLT,Nat.reduceLeDiff,Nat.reduceEqDiff,Int.reduceEq,Int.reduceLT,Int.reduceLE,Int.reduceNe,Int.reduceAdd,beq_self_eq_true,Option.bind_eq_bind,Option.pure_def,bind_pure_comp,Option.map_eq_map,decide_eq_true_eq,ne_eq,not_false_eq_true,not_true_eq_false,Nat.lt_irrefl,Nat.reduceBEq,if_true,if_false,ite_true,ite_false,reduceCtorEq,Bool.false_eq_true,lenB_nil,lenB_slice,lenB_oslice,lenB_str,lenB_agg,indexAddrA_slice,indexAddrA_oslice,indexAddrA_ptr,indexAddrA_optr,loadA_ptr,loadA_optr,lenK,indexK,loadK,Option.toList_some,Option.toList_none,Int.reduceBEq,Int.reduceBNe,Int.reduceMod,Int.reduceDiv,Int.reduceTDiv,Int.reduceTMod,Int.reduceFDiv,Int.reduceSub,Int.reduceNeg,Int.reduceGT,Int.reduceGE,BitVec.reduceOfInt,BitVec.reduceAnd,BitVec.reduceOr,BitVec.reduceXOr,BitVec.reduceToNat,Int.cast_ofNat_Int,Int.reduceToNat,Int.reducePow,Nat.min_eq_left,Int.reduceMul,List.mapM_cons,List.mapM_nil,hT.all,Tryd.f53,b0,w1,w2,w3,w4,w5,c1,ha,hlc]

/-- The power of i of two letters' product. -/
def oneN (c d : Nat) : Nat := if c = 0 ∨ d = 0 ∨ c = d then 0 else if (d + 3 - c) % 3 = 1 then 1 else 3
theorem oneN_le (c d : Nat) : oneN c d ≤ 3 := by unfold oneN; split <;> (try split) <;> omega
def sg (xa za xb zb q : Nat) : Nat := oneN (cd xa za q) (cd xb zb q)

/-- The product's phase. -/
def phs (xa za xb zb : Nat) : Nat := sumTo (sg xa za xb zb) 64
theorem phs_le (xa za xb zb : Nat) : phs xa za xb zb ≤ 192 := sumTo_le 64 fun _ _ => oneN_le _ _

theorem sum_none (g : Nat → Nat) (h : ∀ q, g q = 0) : ∀ k, sumTo g k = 0
  | 0 => rfl
  | k + 1 => by rw [sumTo, sum_none g h k, h]

theorem pTimes (M : Addr → Option AV) (hM : ∀ a v, tabM a = some v → M a = some v) (H : Heap) {na nb : Int} {xa za xb zb pa pb : Nat} (hxa : xa < 18446744073709551616) (hza : za < 18446744073709551616) (hxb : xb < 18446744073709551616) (hzb : zb < 18446744073709551616) (hpa : pa ≤ 3) (hpb : pb ≤ 3) :
    SemF Tryd.prog M 34 [pl na xa za pa, pl nb xb zb pb] H fun v h => v = pl na (xa ^^^ xb) (za ^^^ zb) (((pa + pb + phs xa za xb zb) % 4 : Nat) : Int) ∧ h = H := by
  refine fpure rfl rfl (fq Tryd.func34 (by kernel_rfl) rfl (by kernel_rfl) fun C L T hT hS => ?_) H
  have hca := fun H q h => pCode M H (n := na) (p := pa) (q := q) hxa hza h
  have hcb := fun H q h => pCode M H (n := nb) (p := pb) (q := q) hxb hzb h
  unfold pl at hca hcb ⊢
  have hps := phs_le xa za xb zb
  have w0 : IntKind.i64.wrap ((pa : Int) + (pb : Int)) = ((pa + pb : Nat) : Int) := by rw [wrap_i64 (by omega) (by omega)]; omega
  obtain ⟨o1, o2⟩ := or64 hxa hza
  obtain ⟨o3, o4⟩ := or64 hxb hzb
  have o5 := and64 o2 o4
  obtain ⟨x1, x2⟩ := xor64 hxa hxb
  obtain ⟨z1, z2⟩ := xor64 hza hzb
  have hB0 : (xa ||| za) &&& (xb ||| zb) < 18446744073709551616 := Nat.lt_of_le_of_lt Nat.and_le_left o2
  have hsum0 : sumTo (fun q => bt ((xa ||| za) &&& (xb ||| zb)) q * sg xa za xb zb q) 64 = phs xa za xb zb := by
    refine sumTo_congr fun q _ => ?_
    rw [bt_and]
    by_cases c : bt (xa ||| za) q = 1 ∧ bt (xb ||| zb) q = 1
    · rw [if_pos c, Nat.one_mul]
    · rw [if_neg c, Nat.zero_mul]
      have l1 := bt_lt (xa ||| za) q
      have l2 := bt_lt (xb ||| zb) q
      unfold sg oneN
      rw [if_pos]
      by_cases c1 : bt (xa ||| za) q = 0
      · exact .inl ((cd_zero _ _ _).2 c1)
      · exact .inr (.inl ((cd_zero _ _ _).2 (by omega)))
  have hsub0 : ∀ q, bt ((xa ||| za) &&& (xb ||| zb)) q = 1 → cd xa za q ≠ 0 ∧ cd xb zb q ≠ 0 := by
    intro q hq
    rw [bt_and] at hq
    split at hq
    · rename_i c
      exact ⟨fun h => by rw [cd_zero] at h; omega, fun h => by rw [cd_zero] at h; omega⟩
    · cases hq
  obtain ⟨B0, hB⟩ : ∃ B, B = (xa ||| za) &&& (xb ||| zb) := ⟨_, rfl⟩
  obtain ⟨u1, hu1⟩ : ∃ u, u = xa ||| za := ⟨_, rfl⟩
  obtain ⟨u2, hu2⟩ : ∃ u, u = xb ||| zb := ⟨_, rfl⟩
  obtain ⟨xx, hxx⟩ : ∃ u, u = xa ^^^ xb := ⟨_, rfl⟩
  obtain ⟨zz, hzz⟩ : ∃ u, u = za ^^^ zb := ⟨_, rfl⟩
  rw [← hB] at hB0 hsum0 hsub0 o5
  rw [← hu1] at o1 o5
  rw [← hu2] at o3 o5
  rw [← hxx] at x1 ⊢
  rw [← hzz] at z1 ⊢
  obtain ⟨tot, htot⟩ : ∃ t, t = phs xa za xb zb := ⟨_, rfl⟩
  rw [← htot] at hsum0 hps ⊢
  simp only [gX,gM,gL,gB,List.map_cons,List.map_nil,wantedA,evOp,opv,absC,absC0,isAggT,resA,resultA,binA,eqA,eqGuardA,isConstA,isFlatScalar,shiftOp,strOp,ordB,readN,sliceCells,lenA,storeA,newA,buildA,fillA,buildSliceA,boundsA,bndA,sliceA,ptrOK,fieldAddrA,fieldA,indexA,extractA,convA,isIntT,biA,bytesOf,setAll,List.replicate,List.cons.injEq,exists_eq_left',exists_eq_left,exists_eq_right',eq_self,Option.map_some,Option.map_none,Option.bind_some,Option.bind_none,Option.some.injEq,Prod.mk.injEq,Nat.reduceAdd,Nat.reduceSub,Nat.reduceMul,Nat.reduceLT,Nat.reduceLeDiff,Nat.reduceEqDiff,Int.reduceEq,Int.reduceLT,Int.reduceLE,Int.reduceNe,Int.reduceAdd,beq_self_eq_true,Option.bind_eq_bind,Option.pure_def,bind_pure_comp,Option.map_eq_map,decide_eq_true_eq,ne_eq,not_false_eq_true,not_true_eq_false,Nat.lt_irrefl,Nat.reduceBEq,if_true,if_false,ite_true,ite_false,reduceCtorEq,Bool.false_eq_true,lenB_nil,lenB_slice,lenB_oslice,lenB_str,lenB_agg,indexAddrA_slice,indexAddrA_oslice,indexAddrA_ptr,indexAddrA_optr,loadA_ptr,loadA_optr,lenK,indexK,loadK,Option.toList_some,Option.toList_none,Int.reduceBEq,Int.reduceBNe,Int.reduceMod,Int.reduceDiv,Int.reduceTDiv,Int.reduceTMod,Int.reduceFDiv,Int.reduceSub,Int.reduceNeg,Int.reduceGT,Int.reduceGE,BitVec.reduceOfInt,BitVec.reduceAnd,BitVec.reduceOr,BitVec.reduceXOr,BitVec.reduceToNat,Int.cast_ofNat_Int,Int.reduceToNat,Int.reducePow,Nat.min_eq_left,Int.reduceMul,List.mapM_cons,List.mapM_nil,hT.all,Tryd.f34,w0,o1,o3,o5]
  refine hS.loop (fun k e h => ∃ (φ B : Nat) (j : List AV), e = .agg [.int .i64 na, .int .u64 xa, .int .u64 za, .int .i64 pa] :: .agg [.int .i64 nb, .int .u64 xb, .int .u64 zb, .int .i64 pb] :: .ptr 0 0 0 :: .ptr 1 0 0 :: .ptr 2 0 0 :: .int .i64 φ :: .int .u64 B :: j ∧ j.length = 57 ∧ B < 18446744073709551616 ∧ k = B ∧ φ + sumTo (fun q => bt B q * sg xa za xb zb q) 64 = pa + pb + tot ∧ (∀ q, bt B q = 1 → cd xa za q ≠ 0 ∧ cd xb zb q ≠ 0) ∧
    h = [.c [.int .i64 na, .int .u64 xa, .int .u64 za, .int .i64 pa] 24 0 0, .c [.int .i64 nb, .int .u64 xb, .int .u64 zb, .int .i64 pb] 24 0 0, .c [.int .i64 0, .int .u64 0, .int .u64 0, .int .i64 0] 24 0 0]) B0 ⟨pa + pb, B0, _, rfl, rfl, hB0, rfl, by rw [hsum0], hsub0, rfl⟩ ?_
  rintro k e h ⟨φ, B, j, rfl, hj, hBl, rfl, hsum, hsub, rfl⟩ J hJ
  obtain ⟨g, rfl⟩ : ∃ g : Nat → AV, j = [g 0, g 1, g 2, g 3, g 4, g 5, g 6, g 7, g 8, g 9, g 10, g 11, g 12, g 13, g 14, g 15, g 16, g 17, g 18, g 19, g 20, g 21, g 22, g 23, g 24, g 25, g 26, g 27, g 28, g 29, g 30, g 31, g 32, g 33, g 34, g 35, g 36, g 37, g 38, g 39, g 40, g 41, g 42, g 43, g 44, g 45, g 46, g 47, g 48, g 49, g 50, g 51, g 52, g 53, g 54, g 55, g 56] := junk 57 j hj
  by_cases c0 : k = 0
  · subst c0
    have e0 : sumTo (fun q => bt 0 q * sg xa za xb zb q) 64 = 0 := sum_none _ (fun q => by show bt 0 q * _ = 0; rw [show bt 0 q = 0 by unfold bt; rw [Nat.zero_div], Nat.zero_mul]) 64
    rw [e0, Nat.add_zero] at hsum
    subst hsum
    have w1 := tmod4 (pa + pb + tot)
    simp only [gX,gM,gL,gB,List.map_cons,List.map_nil,wantedA,evOp,opv,absC,absC0,isAggT,resA,resultA,binA,eqA,eqGuardA,isConstA,isFlatScalar,shiftOp,strOp,ordB,readN,sliceCells,lenA,storeA,newA,buildA,fillA,buildSliceA,boundsA,bndA,sliceA,ptrOK,fieldAddrA,fieldA,indexA,extractA,convA,isIntT,biA,bytesOf,setAll,List.replicate,List.cons.injEq,exists_eq_left',exists_eq_left,exists_eq_right',eq_self,Option.map_some,Option.map_none,Option.bind_some,Option.bind_none,Option.some.injEq,Prod.mk.injEq,Nat.reduceAdd,Nat.reduceSub,Nat.reduceMul,Nat.reduceLT,Nat.reduceLeDiff,Nat.reduceEqDiff,Int.reduceEq,Int.reduceLT,Int.reduceLE,Int.reduceNe,Int.reduceAdd,beq_self_eq_true,Option.bind_eq_bind,Option.pure_def,bind_pure_comp,Option.map_eq_map,decide_eq_true_eq,ne_eq,not_false_eq_true,not_true_eq_false,Nat.lt_irrefl,Nat.reduceBEq,if_true,if_false,ite_true,ite_false,reduceCtorEq,Bool.false_eq_true,lenB_nil,lenB_slice,lenB_oslice,lenB_str,lenB_agg,indexAddrA_slice,indexAddrA_oslice,indexAddrA_ptr,indexAddrA_optr,loadA_ptr,loadA_optr,lenK,indexK,loadK,Option.toList_some,Option.toList_none,Int.reduceBEq,Int.reduceBNe,Int.reduceMod,Int.reduceDiv,Int.reduceTDiv,Int.reduceTMod,Int.reduceFDiv,Int.reduceSub,Int.reduceNeg,Int.reduceGT,Int.reduceGE,BitVec.reduceOfInt,BitVec.reduceAnd,BitVec.reduceOr,BitVec.reduceXOr,BitVec.reduceToNat,Int.cast_ofNat_Int,Int.reduceToNat,Int.reducePow,Nat.min_eq_left,Int.reduceMul,List.mapM_cons,List.mapM_nil,hT.all,x1,z1,w1]
  · have b0 : ((k : Int) != 0) = true := by rw [bne_iff_ne]; omega
    obtain ⟨t1, t2⟩ := tzF_lt 64 k c0 hBl
    have tl := low_bit 64 k c0 hBl
    have tc := fun q => bt_clear 64 k q c0 hBl
    have hlt := clear_lt c0
    obtain ⟨t, ht⟩ : ∃ t, t = tzF 64 k := ⟨_, rfl⟩
    rw [← ht] at t1 t2 tl
    simp only [← ht] at tc
    rw [show 2 ^ 64 = 18446744073709551616 by decide] at tl
    have htr := pTrail M hM [.c [.int .i64 na, .int .u64 xa, .int .u64 za, .int .i64 pa] 24 0 0, .c [.int .i64 nb, .int .u64 xb, .int .u64 zb, .int .i64 pb] 24 0 0, .c [.int .i64 0, .int .u64 0, .int .u64 0, .int .i64 0] 24 0 0] c0 hBl tl t1
    have v1 : IntKind.u64.wrap ((k : Int) - 1) = ((k - 1 : Nat) : Int) := by rw [wU]; omega
    have v2 := and64 (a := k) (b := k - 1) hBl (by omega)
    obtain ⟨y, hy⟩ : ∃ y, y = k - 1 := ⟨_, rfl⟩
    rw [← hy] at v1 v2 tc hlt
    obtain ⟨B', hB'⟩ : ∃ y', y' = k &&& y := ⟨_, rfl⟩
    rw [← hB'] at v2 hlt
    simp only [← hB'] at tc
    have hsub' : ∀ q, bt B' q = 1 → cd xa za q ≠ 0 ∧ cd xb zb q ≠ 0 := by
      intro q hq
      rw [tc] at hq
      split at hq
      · cases hq
      · exact hsub q hq
    have hstep := sumTo_at (g := fun q => bt k q * sg xa za xb zb q) (h := fun q => bt B' q * sg xa za xb zb q) (t := t) (a := sg xa za xb zb t) (fun q hq => by simp only [tc, if_neg hq]) (by simp only [tc, if_pos, t2]; omega) 64
    rw [if_pos t1] at hstep
    rw [hstep] at hsum
    obtain ⟨n1, n2⟩ := hsub t t2
    have l1 := cd_lt xa za t
    have l2 := cd_lt xb zb t
    have hcA := hca [.c [.int .i64 na, .int .u64 xa, .int .u64 za, .int .i64 pa] 24 0 0, .c [.int .i64 nb, .int .u64 xb, .int .u64 zb, .int .i64 pb] 24 0 0, .c [.int .i64 0, .int .u64 0, .int .u64 0, .int .i64 0] 24 0 0] t t1
    have hcB := hcb [.c [.int .i64 na, .int .u64 xa, .int .u64 za, .int .i64 pa] 24 0 0, .c [.int .i64 nb, .int .u64 xb, .int .u64 zb, .int .i64 pb] 24 0 0, .c [.int .i64 0, .int .u64 0, .int .u64 0, .int .i64 0] 24 0 0] t t1
    have hsg : sg xa za xb zb t = if (cd xb zb t + 3 - cd xa za t) % 3 = 1 then 1 else if (cd xb zb t + 3 - cd xa za t) % 3 = 2 then 3 else 0 := by
      unfold sg oneN
      by_cases c : cd xa za t = cd xb zb t
      · rw [if_pos (.inr (.inr c)), if_neg (by omega), if_neg (by omega)]
      · rw [if_neg (by omega)]
        by_cases c2 : (cd xb zb t + 3 - cd xa za t) % 3 = 1
        · rw [if_pos c2, if_pos c2]
        · rw [if_neg c2, if_neg c2, if_pos (by omega)]
    rw [hsg] at hsum
    obtain ⟨a, haa⟩ : ∃ a, a = cd xa za t := ⟨_, rfl⟩
    obtain ⟨b, hbb⟩ : ∃ b, b = cd xb zb t := ⟨_, rfl⟩
    rw [← haa] at hcA l1 n1 hsum
    rw [← hbb] at hcB l2 n2 hsum
    have u1' : IntKind.i64.wrap ((b : Int) - (a : Int)) = (b : Int) - a := wrap_i64 (by omega) (by omega)
    have u2' : IntKind.i64.wrap ((b : Int) - (a : Int) + 3) = ((b + 3 - a : Nat) : Int) := by rw [wrap_i64 (by omega) (by omega)]; omega
    have u3' : ((b + 3 - a : Nat) : Int).tmod 3 = (((b + 3 - a) % 3 : Nat) : Int) := by rw [Int.tmod_eq_emod_of_nonneg (by omega)]; omega
    obtain ⟨d, hd⟩ : ∃ d, d = b + 3 - a := ⟨_, rfl⟩
    rw [← hd] at u2' u3' hsum
    obtain ⟨m, hm⟩ : ∃ m, m = d % 3 := ⟨_, rfl⟩
    rw [← hm] at u3' hsum
    have p1 : IntKind.i64.wrap ((φ : Int) + 1) = ((φ + 1 : Nat) : Int) := by rw [wrap_i64 (by omega) (by omega)]; omega
    have p3 : IntKind.i64.wrap ((φ : Int) + 3) = ((φ + 3 : Nat) : Int) := by rw [wrap_i64 (by omega) (by omega)]; omega
    by_cases m1 : m = 1
    · have c1 : ((m : Int) == 1) = true := by rw [m1]; rfl
      rw [if_pos m1] at hsum
      simp only [gX,gM,gL,gB,List.map_cons,List.map_nil,wantedA,evOp,opv,absC,absC0,isAggT,resA,resultA,binA,eqA,eqGuardA,isConstA,isFlatScalar,shiftOp,strOp,ordB,readN,sliceCells,lenA,storeA,newA,buildA,fillA,buildSliceA,boundsA,bndA,sliceA,ptrOK,fieldAddrA,fieldA,indexA,extractA,convA,isIntT,biA,bytesOf,setAll,List.replicate,List.cons.injEq,exists_eq_left',exists_eq_left,exists_eq_right',eq_self,Option.map_some,Option.map_none,Option.bind_some,Option.bind_none,Option.some.injEq,Prod.mk.injEq,Nat.reduceAdd,Nat.reduceSub,Nat.reduceMul,Nat.reduceLT,Nat.reduceLeDiff,Nat.reduceEqDiff,Int.reduceEq,Int.reduceLT,Int.reduceLE,Int.reduceNe,Int.reduceAdd,beq_self_eq_true,Option.bind_eq_bind,Option.pure_def,bind_pure_comp,Option.map_eq_map,decide_eq_true_eq,ne_eq,not_false_eq_true,not_true_eq_false,Nat.lt_irrefl,Nat.reduceBEq,if_true,if_false,ite_true,ite_false,reduceCtorEq,Bool.false_eq_true,lenB_nil,lenB_slice,lenB_oslice,lenB_str,lenB_agg,indexAddrA_slice,indexAddrA_oslice,indexAddrA_ptr,indexAddrA_optr,loadA_ptr,loadA_optr,lenK,indexK,loadK,Option.toList_some,Option.toList_none,Int.reduceBEq,Int.reduceBNe,Int.reduceMod,Int.reduceDiv,Int.reduceTDiv,Int.reduceTMod,Int.reduceFDiv,Int.reduceSub,Int.reduceNeg,Int.reduceGT,Int.reduceGE,BitVec.reduceOfInt,BitVec.reduceAnd,BitVec.reduceOr,BitVec.reduceXOr,BitVec.reduceToNat,Int.cast_ofNat_Int,Int.reduceToNat,Int.reducePow,Nat.min_eq_left,Int.reduceMul,List.mapM_cons,List.mapM_nil,hT.all,b0]
      refine hS.one htr ?_
      simp only [gX,gM,gL,gB,List.map_cons,List.map_nil,wantedA,evOp,opv,absC,absC0,isAggT,resA,resultA,binA,eqA,eqGuardA,isConstA,isFlatScalar,shiftOp,strOp,ordB,readN,sliceCells,lenA,storeA,newA,buildA,fillA,buildSliceA,boundsA,bndA,sliceA,ptrOK,fieldAddrA,fieldA,indexA,extractA,convA,isIntT,biA,bytesOf,setAll,List.replicate,List.cons.injEq,exists_eq_left',exists_eq_left,exists_eq_right',eq_self,Option.map_some,Option.map_none,Option.bind_some,Option.bind_none,Option.some.injEq,Prod.mk.injEq,Nat.reduceAdd,Nat.reduceSub,Nat.reduceMul,Nat.reduceLT,Nat.reduceLeDiff,Nat.reduceEqDiff,Int.reduceEq,Int.reduceLT,Int.reduceLE,Int.reduceNe,Int.reduceAdd,beq_self_eq_true,Option.bind_eq_bind,Option.pure_def,bind_pure_comp,Option.map_eq_map,decide_eq_true_eq,ne_eq,not_false_eq_true,not_true_eq_false,Nat.lt_irrefl,Nat.reduceBEq,if_true,if_false,ite_true,ite_false,reduceCtorEq,Bool.false_eq_true,lenB_nil,lenB_slice,lenB_oslice,lenB_str,lenB_agg,indexAddrA_slice,indexAddrA_oslice,indexAddrA_ptr,indexAddrA_optr,loadA_ptr,loadA_optr,lenK,indexK,loadK,Option.toList_some,Option.toList_none,Int.reduceBEq,Int.reduceBNe,Int.reduceMod,Int.reduceDiv,Int.reduceTDiv,Int.reduceTMod,Int.reduceFDiv,Int.reduceSub,Int.reduceNeg,Int.reduceGT,Int.reduceGE,BitVec.reduceOfInt,BitVec.reduceAnd,BitVec.reduceOr,BitVec.reduceXOr,BitVec.reduceToNat,Int.cast_ofNat_Int,Int.reduceToNat,Int.reducePow,Nat.min_eq_left,Int.reduceMul,List.mapM_cons,List.mapM_nil,hT.all]
      refine hS.ex hcB ?_
      simp only [gX,gM,gL,gB,List.map_cons,List.map_nil,wantedA,evOp,opv,absC,absC0,isAggT,resA,resultA,binA,eqA,eqGuardA,isConstA,isFlatScalar,shiftOp,strOp,ordB,readN,sliceCells,lenA,storeA,newA,buildA,fillA,buildSliceA,boundsA,bndA,sliceA,ptrOK,fieldAddrA,fieldA,indexA,extractA,convA,isIntT,biA,bytesOf,setAll,List.replicate,List.cons.injEq,exists_eq_left',exists_eq_left,exists_eq_right',eq_self,Option.map_some,Option.map_none,Option.bind_some,Option.bind_none,Option.some.injEq,Prod.mk.injEq,Nat.reduceAdd,Nat.reduceSub,Nat.reduceMul,Nat.reduceLT,Nat.reduceLeDiff,Nat.reduceEqDiff,Int.reduceEq,Int.reduceLT,Int.reduceLE,Int.reduceNe,Int.reduceAdd,beq_self_eq_true,Option.bind_eq_bind,Option.pure_def,bind_pure_comp,Option.map_eq_map,decide_eq_true_eq,ne_eq,not_false_eq_true,not_true_eq_false,Nat.lt_irrefl,Nat.reduceBEq,if_true,if_false,ite_true,ite_false,reduceCtorEq,Bool.false_eq_true,lenB_nil,lenB_slice,lenB_oslice,lenB_str,lenB_agg,indexAddrA_slice,indexAddrA_oslice,indexAddrA_ptr,indexAddrA_optr,loadA_ptr,loadA_optr,lenK,indexK,loadK,Option.toList_some,Option.toList_none,Int.reduceBEq,Int.reduceBNe,Int.reduceMod,Int.reduceDiv,Int.reduceTDiv,Int.reduceTMod,Int.reduceFDiv,Int.reduceSub,Int.reduceNeg,Int.reduceGT,Int.reduceGE,BitVec.reduceOfInt,BitVec.reduceAnd,BitVec.reduceOr,BitVec.reduceXOr,BitVec.reduceToNat,Int.cast_ofNat_Int,Int.reduceToNat,Int.reducePow,Nat.min_eq_left,Int.reduceMul,List.mapM_cons,List.mapM_nil,hT.all]
      refine hS.ex hcA ?_
      simp only [gX,gM,gL,gB,List.map_cons,List.map_nil,wantedA,evOp,opv,absC,absC0,isAggT,resA,resultA,binA,eqA,eqGuardA,isConstA,isFlatScalar,shiftOp,strOp,ordB,readN,sliceCells,lenA,storeA,newA,buildA,fillA,buildSliceA,boundsA,bndA,sliceA,ptrOK,fieldAddrA,fieldA,indexA,extractA,convA,isIntT,biA,bytesOf,setAll,List.replicate,List.cons.injEq,exists_eq_left',exists_eq_left,exists_eq_right',eq_self,Option.map_some,Option.map_none,Option.bind_some,Option.bind_none,Option.some.injEq,Prod.mk.injEq,Nat.reduceAdd,Nat.reduceSub,Nat.reduceMul,Nat.reduceLT,Nat.reduceLeDiff,Nat.reduceEqDiff,Int.reduceEq,Int.reduceLT,Int.reduceLE,Int.reduceNe,Int.reduceAdd,beq_self_eq_true,Option.bind_eq_bind,Option.pure_def,bind_pure_comp,Option.map_eq_map,decide_eq_true_eq,ne_eq,not_false_eq_true,not_true_eq_false,Nat.lt_irrefl,Nat.reduceBEq,if_true,if_false,ite_true,ite_false,reduceCtorEq,Bool.false_eq_true,lenB_nil,lenB_slice,lenB_oslice,lenB_str,lenB_agg,indexAddrA_slice,indexAddrA_oslice,indexAddrA_ptr,indexAddrA_optr,loadA_ptr,loadA_optr,lenK,indexK,loadK,Option.toList_some,Option.toList_none,Int.reduceBEq,Int.reduceBNe,Int.reduceMod,Int.reduceDiv,Int.reduceTDiv,Int.reduceTMod,Int.reduceFDiv,Int.reduceSub,Int.reduceNeg,Int.reduceGT,Int.reduceGE,BitVec.reduceOfInt,BitVec.reduceAnd,BitVec.reduceOr,BitVec.reduceXOr,BitVec.reduceToNat,Int.cast_ofNat_Int,Int.reduceToNat,Int.reducePow,Nat.min_eq_left,Int.reduceMul,List.mapM_cons,List.mapM_nil,hT.all,u1',u2',u3',c1,p1,v1,v2]
      exact hJ B' _ _ _ hlt (Weak.refl _) ⟨φ + 1, B', _, rfl, rfl, by omega, rfl, by omega, hsub', rfl⟩
    · have c1 : ((m : Int) == 1) = false := by rw [beq_eq_false_iff_ne]; omega
      rw [if_neg m1] at hsum
      by_cases m2 : m = 2
      · have c2 : ((m : Int) == 2) = true := by rw [m2]; rfl
        rw [if_pos m2] at hsum
        simp only [gX,gM,gL,gB,List.map_cons,List.map_nil,wantedA,evOp,opv,absC,absC0,isAggT,resA,resultA,binA,eqA,eqGuardA,isConstA,isFlatScalar,shiftOp,strOp,ordB,readN,sliceCells,lenA,storeA,newA,buildA,fillA,buildSliceA,boundsA,bndA,sliceA,ptrOK,fieldAddrA,fieldA,indexA,extractA,convA,isIntT,biA,bytesOf,setAll,List.replicate,List.cons.injEq,exists_eq_left',exists_eq_left,exists_eq_right',eq_self,Option.map_some,Option.map_none,Option.bind_some,Option.bind_none,Option.some.injEq,Prod.mk.injEq,Nat.reduceAdd,Nat.reduceSub,Nat.reduceMul,Nat.reduceLT,Nat.reduceLeDiff,Nat.reduceEqDiff,Int.reduceEq,Int.reduceLT,Int.reduceLE,Int.reduceNe,Int.reduceAdd,beq_self_eq_true,Option.bind_eq_bind,Option.pure_def,bind_pure_comp,Option.map_eq_map,decide_eq_true_eq,ne_eq,not_false_eq_true,not_true_eq_false,Nat.lt_irrefl,Nat.reduceBEq,if_true,if_false,ite_true,ite_false,reduceCtorEq,Bool.false_eq_true,lenB_nil,lenB_slice,lenB_oslice,lenB_str,lenB_agg,indexAddrA_slice,indexAddrA_oslice,indexAddrA_ptr,indexAddrA_optr,loadA_ptr,loadA_optr,lenK,indexK,loadK,Option.toList_some,Option.toList_none,Int.reduceBEq,Int.reduceBNe,Int.reduceMod,Int.reduceDiv,Int.reduceTDiv,Int.reduceTMod,Int.reduceFDiv,Int.reduceSub,Int.reduceNeg,Int.reduceGT,Int.reduceGE,BitVec.reduceOfInt,BitVec.reduceAnd,BitVec.reduceOr,BitVec.reduceXOr,BitVec.reduceToNat,Int.cast_ofNat_Int,Int.reduceToNat,Int.reducePow,Nat.min_eq_left,Int.reduceMul,List.mapM_cons,List.mapM_nil,hT.all,b0]
        refine hS.one htr ?_
        simp only [gX,gM,gL,gB,List.map_cons,List.map_nil,wantedA,evOp,opv,absC,absC0,isAggT,resA,resultA,binA,eqA,eqGuardA,isConstA,isFlatScalar,shiftOp,strOp,ordB,readN,sliceCells,lenA,storeA,newA,buildA,fillA,buildSliceA,boundsA,bndA,sliceA,ptrOK,fieldAddrA,fieldA,indexA,extractA,convA,isIntT,biA,bytesOf,setAll,List.replicate,List.cons.injEq,exists_eq_left',exists_eq_left,exists_eq_right',eq_self,Option.map_some,Option.map_none,Option.bind_some,Option.bind_none,Option.some.injEq,Prod.mk.injEq,Nat.reduceAdd,Nat.reduceSub,Nat.reduceMul,Nat.reduceLT,Nat.reduceLeDiff,Nat.reduceEqDiff,Int.reduceEq,Int.reduceLT,Int.reduceLE,Int.reduceNe,Int.reduceAdd,beq_self_eq_true,Option.bind_eq_bind,Option.pure_def,bind_pure_comp,Option.map_eq_map,decide_eq_true_eq,ne_eq,not_false_eq_true,not_true_eq_false,Nat.lt_irrefl,Nat.reduceBEq,if_true,if_false,ite_true,ite_false,reduceCtorEq,Bool.false_eq_true,lenB_nil,lenB_slice,lenB_oslice,lenB_str,lenB_agg,indexAddrA_slice,indexAddrA_oslice,indexAddrA_ptr,indexAddrA_optr,loadA_ptr,loadA_optr,lenK,indexK,loadK,Option.toList_some,Option.toList_none,Int.reduceBEq,Int.reduceBNe,Int.reduceMod,Int.reduceDiv,Int.reduceTDiv,Int.reduceTMod,Int.reduceFDiv,Int.reduceSub,Int.reduceNeg,Int.reduceGT,Int.reduceGE,BitVec.reduceOfInt,BitVec.reduceAnd,BitVec.reduceOr,BitVec.reduceXOr,BitVec.reduceToNat,Int.cast_ofNat_Int,Int.reduceToNat,Int.reducePow,Nat.min_eq_left,Int.reduceMul,List.mapM_cons,List.mapM_nil,hT.all]
        refine hS.ex hcB ?_
        simp only [gX,gM,gL,gB,List.map_cons,List.map_nil,wantedA,evOp,opv,absC,absC0,isAggT,resA,resultA,binA,eqA,eqGuardA,isConstA,isFlatScalar,shiftOp,strOp,ordB,readN,sliceCells,lenA,storeA,newA,buildA,fillA,buildSliceA,boundsA,bndA,sliceA,ptrOK,fieldAddrA,fieldA,indexA,extractA,convA,isIntT,biA,bytesOf,setAll,List.replicate,List.cons.injEq,exists_eq_left',exists_eq_left,exists_eq_right',eq_self,Option.map_some,Option.map_none,Option.bind_some,Option.bind_none,Option.some.injEq,Prod.mk.injEq,Nat.reduceAdd,Nat.reduceSub,Nat.reduceMul,Nat.reduceLT,Nat.reduceLeDiff,Nat.reduceEqDiff,Int.reduceEq,Int.reduceLT,Int.reduceLE,Int.reduceNe,Int.reduceAdd,beq_self_eq_true,Option.bind_eq_bind,Option.pure_def,bind_pure_comp,Option.map_eq_map,decide_eq_true_eq,ne_eq,not_false_eq_true,not_true_eq_false,Nat.lt_irrefl,Nat.reduceBEq,if_true,if_false,ite_true,ite_false,reduceCtorEq,Bool.false_eq_true,lenB_nil,lenB_slice,lenB_oslice,lenB_str,lenB_agg,indexAddrA_slice,indexAddrA_oslice,indexAddrA_ptr,indexAddrA_optr,loadA_ptr,loadA_optr,lenK,indexK,loadK,Option.toList_some,Option.toList_none,Int.reduceBEq,Int.reduceBNe,Int.reduceMod,Int.reduceDiv,Int.reduceTDiv,Int.reduceTMod,Int.reduceFDiv,Int.reduceSub,Int.reduceNeg,Int.reduceGT,Int.reduceGE,BitVec.reduceOfInt,BitVec.reduceAnd,BitVec.reduceOr,BitVec.reduceXOr,BitVec.reduceToNat,Int.cast_ofNat_Int,Int.reduceToNat,Int.reducePow,Nat.min_eq_left,Int.reduceMul,List.mapM_cons,List.mapM_nil,hT.all]
        refine hS.ex hcA ?_
        simp only [gX,gM,gL,gB,List.map_cons,List.map_nil,wantedA,evOp,opv,absC,absC0,isAggT,resA,resultA,binA,eqA,eqGuardA,isConstA,isFlatScalar,shiftOp,strOp,ordB,readN,sliceCells,lenA,storeA,newA,buildA,fillA,buildSliceA,boundsA,bndA,sliceA,ptrOK,fieldAddrA,fieldA,indexA,extractA,convA,isIntT,biA,bytesOf,setAll,List.replicate,List.cons.injEq,exists_eq_left',exists_eq_left,exists_eq_right',eq_self,Option.map_some,Option.map_none,Option.bind_some,Option.bind_none,Option.some.injEq,Prod.mk.injEq,Nat.reduceAdd,Nat.reduceSub,Nat.reduceMul,Nat.reduceLT,Nat.reduceLeDiff,Nat.reduceEqDiff,Int.reduceEq,Int.reduceLT,Int.reduceLE,Int.reduceNe,Int.reduceAdd,beq_self_eq_true,Option.bind_eq_bind,Option.pure_def,bind_pure_comp,Option.map_eq_map,decide_eq_true_eq,ne_eq,not_false_eq_true,not_true_eq_false,Nat.lt_irrefl,Nat.reduceBEq,if_true,if_false,ite_true,ite_false,reduceCtorEq,Bool.false_eq_true,lenB_nil,lenB_slice,lenB_oslice,lenB_str,lenB_agg,indexAddrA_slice,indexAddrA_oslice,indexAddrA_ptr,indexAddrA_optr,loadA_ptr,loadA_optr,lenK,indexK,loadK,Option.toList_some,Option.toList_none,Int.reduceBEq,Int.reduceBNe,Int.reduceMod,Int.reduceDiv,Int.reduceTDiv,Int.reduceTMod,Int.reduceFDiv,Int.reduceSub,Int.reduceNeg,Int.reduceGT,Int.reduceGE,BitVec.reduceOfInt,BitVec.reduceAnd,BitVec.reduceOr,BitVec.reduceXOr,BitVec.reduceToNat,Int.cast_ofNat_Int,Int.reduceToNat,Int.reducePow,Nat.min_eq_left,Int.reduceMul,List.mapM_cons,List.mapM_nil,hT.all,u1',u2',u3',c1,c2,p3,v1,v2]
        exact hJ B' _ _ _ hlt (Weak.refl _) ⟨φ + 3, B', _, rfl, rfl, by omega, rfl, by omega, hsub', rfl⟩
      · have c2 : ((m : Int) == 2) = false := by rw [beq_eq_false_iff_ne]; omega
        rw [if_neg m2] at hsum
        simp only [gX,gM,gL,gB,List.map_cons,List.map_nil,wantedA,evOp,opv,absC,absC0,isAggT,resA,resultA,binA,eqA,eqGuardA,isConstA,isFlatScalar,shiftOp,strOp,ordB,readN,sliceCells,lenA,storeA,newA,buildA,fillA,buildSliceA,boundsA,bndA,sliceA,ptrOK,fieldAddrA,fieldA,indexA,extractA,convA,isIntT,biA,bytesOf,setAll,List.replicate,List.cons.injEq,exists_eq_left',exists_eq_left,exists_eq_right',eq_self,Option.map_some,Option.map_none,Option.bind_some,Option.bind_none,Option.some.injEq,Prod.mk.injEq,Nat.reduceAdd,Nat.reduceSub,Nat.reduceMul,Nat.reduceLT,Nat.reduceLeDiff,Nat.reduceEqDiff,Int.reduceEq,Int.reduceLT,Int.reduceLE,Int.reduceNe,Int.reduceAdd,beq_self_eq_true,Option.bind_eq_bind,Option.pure_def,bind_pure_comp,Option.map_eq_map,decide_eq_true_eq,ne_eq,not_false_eq_true,not_true_eq_false,Nat.lt_irrefl,Nat.reduceBEq,if_true,if_false,ite_true,ite_false,reduceCtorEq,Bool.false_eq_true,lenB_nil,lenB_slice,lenB_oslice,lenB_str,lenB_agg,indexAddrA_slice,indexAddrA_oslice,indexAddrA_ptr,indexAddrA_optr,loadA_ptr,loadA_optr,lenK,indexK,loadK,Option.toList_some,Option.toList_none,Int.reduceBEq,Int.reduceBNe,Int.reduceMod,Int.reduceDiv,Int.reduceTDiv,Int.reduceTMod,Int.reduceFDiv,Int.reduceSub,Int.reduceNeg,Int.reduceGT,Int.reduceGE,BitVec.reduceOfInt,BitVec.reduceAnd,BitVec.reduceOr,BitVec.reduceXOr,BitVec.reduceToNat,Int.cast_ofNat_Int,Int.reduceToNat,Int.reducePow,Nat.min_eq_left,Int.reduceMul,List.mapM_cons,List.mapM_nil,hT.all,b0]
        refine hS.one htr ?_
        simp only [gX,gM,gL,gB,List.map_cons,List.map_nil,wantedA,evOp,opv,absC,absC0,isAggT,resA,resultA,binA,eqA,eqGuardA,isConstA,isFlatScalar,shiftOp,strOp,ordB,readN,sliceCells,lenA,storeA,newA,buildA,fillA,buildSliceA,boundsA,bndA,sliceA,ptrOK,fieldAddrA,fieldA,indexA,extractA,convA,isIntT,biA,bytesOf,setAll,List.replicate,List.cons.injEq,exists_eq_left',exists_eq_left,exists_eq_right',eq_self,Option.map_some,Option.map_none,Option.bind_some,Option.bind_none,Option.some.injEq,Prod.mk.injEq,Nat.reduceAdd,Nat.reduceSub,Nat.reduceMul,Nat.reduceLT,Nat.reduceLeDiff,Nat.reduceEqDiff,Int.reduceEq,Int.reduceLT,Int.reduceLE,Int.reduceNe,Int.reduceAdd,beq_self_eq_true,Option.bind_eq_bind,Option.pure_def,bind_pure_comp,Option.map_eq_map,decide_eq_true_eq,ne_eq,not_false_eq_true,not_true_eq_false,Nat.lt_irrefl,Nat.reduceBEq,if_true,if_false,ite_true,ite_false,reduceCtorEq,Bool.false_eq_true,lenB_nil,lenB_slice,lenB_oslice,lenB_str,lenB_agg,indexAddrA_slice,indexAddrA_oslice,indexAddrA_ptr,indexAddrA_optr,loadA_ptr,loadA_optr,lenK,indexK,loadK,Option.toList_some,Option.toList_none,Int.reduceBEq,Int.reduceBNe,Int.reduceMod,Int.reduceDiv,Int.reduceTDiv,Int.reduceTMod,Int.reduceFDiv,Int.reduceSub,Int.reduceNeg,Int.reduceGT,Int.reduceGE,BitVec.reduceOfInt,BitVec.reduceAnd,BitVec.reduceOr,BitVec.reduceXOr,BitVec.reduceToNat,Int.cast_ofNat_Int,Int.reduceToNat,Int.reducePow,Nat.min_eq_left,Int.reduceMul,List.mapM_cons,List.mapM_nil,hT.all]
        refine hS.ex hcB ?_
        simp only [gX,gM,gL,gB,List.map_cons,List.map_nil,wantedA,evOp,opv,absC,absC0,isAggT,resA,resultA,binA,eqA,eqGuardA,isConstA,isFlatScalar,shiftOp,strOp,ordB,readN,sliceCells,lenA,storeA,newA,buildA,fillA,buildSliceA,boundsA,bndA,sliceA,ptrOK,fieldAddrA,fieldA,indexA,extractA,convA,isIntT,biA,bytesOf,setAll,List.replicate,List.cons.injEq,exists_eq_left',exists_eq_left,exists_eq_right',eq_self,Option.map_some,Option.map_none,Option.bind_some,Option.bind_none,Option.some.injEq,Prod.mk.injEq,Nat.reduceAdd,Nat.reduceSub,Nat.reduceMul,Nat.reduceLT,Nat.reduceLeDiff,Nat.reduceEqDiff,Int.reduceEq,Int.reduceLT,Int.reduceLE,Int.reduceNe,Int.reduceAdd,beq_self_eq_true,Option.bind_eq_bind,Option.pure_def,bind_pure_comp,Option.map_eq_map,decide_eq_true_eq,ne_eq,not_false_eq_true,not_true_eq_false,Nat.lt_irrefl,Nat.reduceBEq,if_true,if_false,ite_true,ite_false,reduceCtorEq,Bool.false_eq_true,lenB_nil,lenB_slice,lenB_oslice,lenB_str,lenB_agg,indexAddrA_slice,indexAddrA_oslice,indexAddrA_ptr,indexAddrA_optr,loadA_ptr,loadA_optr,lenK,indexK,loadK,Option.toList_some,Option.toList_none,Int.reduceBEq,Int.reduceBNe,Int.reduceMod,Int.reduceDiv,Int.reduceTDiv,Int.reduceTMod,Int.reduceFDiv,Int.reduceSub,Int.reduceNeg,Int.reduceGT,Int.reduceGE,BitVec.reduceOfInt,BitVec.reduceAnd,BitVec.reduceOr,BitVec.reduceXOr,BitVec.reduceToNat,Int.cast_ofNat_Int,Int.reduceToNat,Int.reducePow,Nat.min_eq_left,Int.reduceMul,List.mapM_cons,List.mapM_nil,hT.all]
        refine hS.ex hcA ?_
        simp only [gX,gM,gL,gB,List.map_cons,List.map_nil,wantedA,evOp,opv,absC,absC0,isAggT,resA,resultA,binA,eqA,eqGuardA,isConstA,isFlatScalar,shiftOp,strOp,ordB,readN,sliceCells,lenA,storeA,newA,buildA,fillA,buildSliceA,boundsA,bndA,sliceA,ptrOK,fieldAddrA,fieldA,indexA,extractA,convA,isIntT,biA,bytesOf,setAll,List.replicate,List.cons.injEq,exists_eq_left',exists_eq_left,exists_eq_right',eq_self,Option.map_some,Option.map_none,Option.bind_some,Option.bind_none,Option.some.injEq,Prod.mk.injEq,Nat.reduceAdd,Nat.reduceSub,Nat.reduceMul,Nat.reduceLT,Nat.reduceLeDiff,Nat.reduceEqDiff,Int.reduceEq,Int.reduceLT,Int.reduceLE,Int.reduceNe,Int.reduceAdd,beq_self_eq_true,Option.bind_eq_bind,Option.pure_def,bind_pure_comp,Option.map_eq_map,decide_eq_true_eq,ne_eq,not_false_eq_true,not_true_eq_false,Nat.lt_irrefl,Nat.reduceBEq,if_true,if_false,ite_true,ite_false,reduceCtorEq,Bool.false_eq_true,lenB_nil,lenB_slice,lenB_oslice,lenB_str,lenB_agg,indexAddrA_slice,indexAddrA_oslice,indexAddrA_ptr,indexAddrA_optr,loadA_ptr,loadA_optr,lenK,indexK,loadK,Option.toList_some,Option.toList_none,Int.reduceBEq,Int.reduceBNe,Int.reduceMod,Int.reduceDiv,Int.reduceTDiv,Int.reduceTMod,Int.reduceFDiv,Int.reduceSub,Int.reduceNeg,Int.reduceGT,Int.reduceGE,BitVec.reduceOfInt,BitVec.reduceAnd,BitVec.reduceOr,BitVec.reduceXOr,BitVec.reduceToNat,Int.cast_ofNat_Int,Int.reduceToNat,Int.reducePow,Nat.min_eq_left,Int.reduceMul,List.mapM_cons,List.mapM_nil,hT.all,u1',u2',u3',c1,c2,v1,v2]
        exact hJ B' _ _ _ hlt (Weak.refl _) ⟨φ, B', _, rfl, rfl, by omega, rfl, by omega, hsub', rfl⟩

end Go.Proofs.YtecfmnldanahiaaDoor.B
