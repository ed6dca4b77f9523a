/- Part of a claim: the document's words: added to, carried. -/
import Derived.Test.YtpddepehlinfnaaGreatDoorZS26
set_option linter.unusedSimpArgs false
set_option linter.unusedVariables false
set_option maxRecDepth 100000
set_option maxHeartbeats 10000000
namespace Go.Proofs.YtpddepehlinfnaaGreatDoor.B
open Go Go.RowKit Go.Proofs.YtpddepehlinfnaaGreatDoor.E Go.Proofs.YtpddepehlinfnaaGreatDoor.FL

/-- The document's row of words, as a slice. -/
def wS (b ep : Nat) : AV := .slice b ep 0 1 72 (some 72)

theorem Wd.sx {T : Tab} {H : Heap} {b ep : Nat} {t e : TypeId} {i j : TI} {n : Nat} {k : IntKind} {len : Nat} {c : Option Nat} (ht : T t = some i) (hi : i.und = .slice e) (he : T e = some j) (hj : j.size = 1) (hn : n < len) :
    indexAddrA T H t (.slice b ep 0 1 len c) (.int k (n : Int)) = some (.ptr b ep n) := by
  unfold indexAddrA
  simp only [ht, hi, he, hj, Int.toNat_natCast]
  rw [if_pos ⟨trivial, by decide, by omega, by omega⟩]
  congr 2
  omega

theorem rCarried (M : Addr → Option AV) {H : Heap} {b ep : Nat} {el : TypeId} {w : List Int} {B : Int} (hw : Wd H b ep el w) (hl : w.length = 72) (hb : ∀ x ∈ w, -B ≤ x ∧ x ≤ B) (hB : B ≤ 4611686018427387904) :
    SemF Tryz.prog M 66 [wS b ep] H fun v h => v = .tup [] ∧ ∃ w', Carried w w' 71 B ∧ h = putW H b ep el w' := by
  refine fw Tryz.func66 (by kernel_rfl) rfl (by kernel_rfl) fun C L T hT hS => ?_
  unfold wS
  simp only [gX,gT,gM,gL,gB,wantedA,evOp,opv,absC,absC0,isAggT,resA,resultA,binA,eqA,eqGuardA,isConstA,isFlatScalar,shiftOp,strOp,ordB,readN,sliceCells,lenA,storeA,newA,buildA,fillA,buildSliceA,boundsA,bndA,sliceA,ptrOK,fieldAddrA,fieldA,indexA,extractA,convA,isIntT,biA,bytesOf,setAll,List.replicate,Nat.reduceAdd,Nat.reduceSub,Nat.reduceMul,Nat.reduceLT,Nat.reduceLeDiff,Nat.reduceEqDiff,Int.reduceEq,Int.reduceLT,Int.reduceLE,Int.reduceNe,Int.reduceAdd,Nat.reduceBEq,reduceCtorEq,lenB_nil,lenB_slice,lenB_oslice,lenB_str,lenB_agg,indexAddrA_slice,indexAddrA_oslice,indexAddrA_ptr,indexAddrA_optr,loadA_ptr,loadA_optr,lenK,indexK,loadK,Int.reduceBEq,Int.reduceBNe,Int.reduceMod,Int.reduceDiv,Int.reduceTDiv,Int.reduceTMod,Int.reduceFDiv,Int.reduceSub,Int.reduceNeg,Int.reduceGT,Int.reduceGE,BitVec.reduceOfInt,BitVec.reduceAnd,BitVec.reduceOr,BitVec.reduceXOr,BitVec.reduceToNat,Int.reduceToNat,Int.reducePow,Int.reduceMul,hT.all,Tryz.f66]
  refine hS.loop (fun m e h => ∃ (k : Nat) (w' : List Int) (j1 : AV) (j : List AV), e = .slice b ep 0 1 72 (some 72) :: j1 :: .int .i64 k :: j ∧ j.length = 34 ∧ k + m = 71 ∧ Carried w w' k B ∧ h = putW H b ep el w') 71 ⟨0, w, _, _, rfl, rfl, rfl, .start hb, hw.same.symm⟩ ?_
  rintro m e h ⟨k, w', j1, j, rfl, hj, hk, hc, rfl⟩ J hJ
  obtain ⟨g, rfl⟩ : ∃ g : Nat → AV, j = [g 0, g 1, g 2, g 3, g 4, g 5, g 6, g 7, g 8, g 9, g 10, g 11, g 12, g 13, g 14, g 15, g 16, g 17, g 18, g 19, g 20, g 21, g 22, g 23, g 24, g 25, g 26, g 27, g 28, g 29, g 30, g 31, g 32, g 33] := junk 34 j hj
  have hlw : w'.length = 72 := hc.len.trans hl
  have i1 : IntKind.i64.wrap ((k : Int) + 1) = ((k + 1 : Nat) : Int) := by rw [wrap_i64 (by omega) (by omega)]; omega
  by_cases hlt : k < 71
  rotate_left
  · have g1 : ¬ ((k + 1 : Nat) : Int) < 72 := by omega
    obtain rfl : k = 71 := by omega
    simp only [gX,gT,gM,gL,gB,wantedA,evOp,opv,absC,absC0,isAggT,resA,resultA,binA,eqA,eqGuardA,isConstA,isFlatScalar,shiftOp,strOp,ordB,readN,sliceCells,lenA,storeA,newA,buildA,fillA,buildSliceA,boundsA,bndA,sliceA,ptrOK,fieldAddrA,fieldA,indexA,extractA,convA,isIntT,biA,bytesOf,setAll,List.replicate,Nat.reduceAdd,Nat.reduceSub,Nat.reduceMul,Nat.reduceLT,Nat.reduceLeDiff,Nat.reduceEqDiff,Int.reduceEq,Int.reduceLT,Int.reduceLE,Int.reduceNe,Int.reduceAdd,Nat.reduceBEq,reduceCtorEq,lenB_nil,lenB_slice,lenB_oslice,lenB_str,lenB_agg,indexAddrA_slice,indexAddrA_oslice,indexAddrA_ptr,indexAddrA_optr,loadA_ptr,loadA_optr,lenK,indexK,loadK,Int.reduceBEq,Int.reduceBNe,Int.reduceMod,Int.reduceDiv,Int.reduceTDiv,Int.reduceTMod,Int.reduceFDiv,Int.reduceSub,Int.reduceNeg,Int.reduceGT,Int.reduceGE,BitVec.reduceOfInt,BitVec.reduceAnd,BitVec.reduceOr,BitVec.reduceXOr,BitVec.reduceToNat,Int.reduceToNat,Int.reducePow,Int.reduceMul,hT.all,i1,g1]
    exact ⟨w', hc, rfl⟩
  have g1 : ((k + 1 : Nat) : Int) < 72 := by omega
  have hw1 := hw.put w'
  obtain ⟨x, hx⟩ : ∃ x, x = w'.getD k 0 := ⟨_, rfl⟩
  obtain ⟨y, hy⟩ : ∃ y, y = w'.getD (k + 1) 0 := ⟨_, rfl⟩
  have hxb := hc.at_ x (by rw [hx]; exact getD_some (by omega))
  have hyb := hc.high (k + 1) y (by omega) (by rw [hy]; exact getD_some (by omega))
  have hw2 := hw1.put (w'.set (k + 1) (y + x / 4294967296))
  rw [putW_put] at hw2
  have a1 : IntKind.i64.wrap (y + x / 4294967296) = y + x / 4294967296 := wrap_i64 (by omega) (by omega)
  have l1 := lowI32 (x := x) (by unfold I64; omega)
  have a2 : IntKind.i64.wrap (x - x % 4294967296) = x - x % 4294967296 := wrap_i64 (by omega) (by omega)
  have sh := shrI (x - x % 4294967296)
  rw [show (x - x % 4294967296) / 4294967296 = x / 4294967296 by omega] at sh
  have n1 := fun H => Wd.sx (T := T) (H := H) (b := b) (ep := ep) (n := k) (k := .i64) (len := 72) (c := some 72) hT.ty72 rfl hT.ty2 rfl (by omega)
  have n2 := fun H => Wd.sx (T := T) (H := H) (b := b) (ep := ep) (n := k + 1) (k := .i64) (len := 72) (c := some 72) hT.ty72 rfl hT.ty2 rfl (by omega)
  have o1 := hw1.ld (T := T) (M := M) (n := k) (by omega) hT.ty2 rfl
  have o2 := hw1.ld (T := T) (M := M) (n := k + 1) (by omega) hT.ty2 rfl
  rw [← hx] at o1
  rw [← hy] at o2
  have p1 := hw1.st (T := T) (n := k + 1) (x := y + x / 4294967296) (by omega) hT.ty2 rfl
  rw [putW_put] at p1
  have p2 := hw2.st (T := T) (n := k) (x := x % 4294967296) (by rw [List.length_set]; omega) hT.ty2 rfl
  rw [putW_put] at p2
  have hst : (w'.set (k + 1) (y + x / 4294967296)).set k (x % 4294967296) = FL.step w' k := by rw [hx, hy]; exact step_comm w' k
  rw [hst] at p2
  simp only [gX,gT,gM,gL,gB,wantedA,evOp,opv,absC,absC0,isAggT,resA,resultA,binA,eqA,eqGuardA,isConstA,isFlatScalar,strOp,ordB,readN,sliceCells,lenA,newA,buildA,fillA,buildSliceA,boundsA,bndA,sliceA,ptrOK,fieldAddrA,fieldA,indexA,extractA,convA,isIntT,biA,bytesOf,setAll,List.replicate,Nat.reduceAdd,Nat.reduceSub,Nat.reduceMul,Nat.reduceLT,Nat.reduceLeDiff,Nat.reduceEqDiff,Int.reduceEq,Int.reduceLT,Int.reduceLE,Int.reduceNe,Int.reduceAdd,Nat.reduceBEq,reduceCtorEq,lenB_nil,lenB_slice,lenB_oslice,lenB_str,lenB_agg,indexAddrA_oslice,indexAddrA_ptr,indexAddrA_optr,loadA_optr,lenK,indexK,loadK,Int.reduceBEq,Int.reduceBNe,Int.reduceMod,Int.reduceDiv,Int.reduceTDiv,Int.reduceTMod,Int.reduceFDiv,Int.reduceSub,Int.reduceNeg,Int.reduceGT,Int.reduceGE,BitVec.reduceOfInt,BitVec.reduceAnd,BitVec.reduceOr,BitVec.reduceXOr,BitVec.reduceToNat,Int.reduceToNat,Int.reducePow,Int.reduceMul,hT.all,g1,i1,n1,n2,o1,o2,sh,a1,a2,p1,l1,p2]
  exact hJ (m - 1) _ _ _ (by omega) (Weak.refl _) ⟨k + 1, FL.step w' k, _, _, rfl, rfl, by omega, hc.next hB (by omega), rfl⟩

theorem and1I {x : Nat} (h : x < 9223372036854775808) : IntKind.i64.wrap (((BitVec.ofInt 64 (x : Int)) &&& 1#64).toNat : Int) = ((x % 2 : Nat) : Int) := by
  rw [ofInt_nat, BitVec.toNat_and, BitVec.toNat_ofNat, show (1#64).toNat = 1 by decide, Nat.mod_eq_of_lt (by rw [show 2 ^ 64 = 18446744073709551616 by decide]; omega), Nat.and_one_is_mod, wrap_i64 (by omega) (by omega)]

/-- The document adds. -/
theorem rAdd (M : Addr → Option AV) {H : Heap} {b ep : Nat} {el : TypeId} {w : List Int} {e : Int} {i mag : Nat} {s : Bool} {B : Int} (hw : Wd H b ep el w) (hl : w.length = 72) (hmag : mag < 9007199254740992) (he : e = (i : Int) - 1074) (hi : i / 32 + 2 < 72)
    (hb : ∀ x ∈ w, -B ≤ x ∧ x ≤ B) (hB0 : 0 ≤ B) (hB : B ≤ 4611686018427387904) :
    SemF Tryz.prog M 65 [wS b ep, .int .u64 mag, .int .i64 e, .bool s] H fun v h => v = .tup [] ∧ Wd h b ep el (addW w i s mag) ∧ Fr [b] H h := by
  have haw : addW w i s mag = put3 w (i / 32) (sg s (mag * 2 ^ (i % 32) % 4294967296)) (sg s (mag * 2 ^ (i % 32) / 4294967296 % 4294967296)) (sg s (mag * 2 ^ (i % 32) / 18446744073709551616)) := rfl
  rw [haw, put3_eq]
  have d1 : (i : Int).tdiv 32 = ((i / 32 : Nat) : Int) := by rw [Int.tdiv_eq_ediv_of_nonneg (by omega)]; omega
  have d2 : (i : Int).tmod 32 = ((i % 32 : Nat) : Int) := by rw [Int.tmod_eq_emod_of_nonneg (by omega)]; omega
  have hs32 : i % 32 < 32 := Nat.mod_lt _ (by omega)
  have w0 : IntKind.i64.wrap (e + 1074) = i := by rw [wrap_i64 (by omega) (by omega)]; omega
  obtain ⟨q, hq⟩ : ∃ q, q = i / 32 := ⟨_, rfl⟩
  obtain ⟨r, hr⟩ : ∃ r, r = i % 32 := ⟨_, rfl⟩
  rw [← hq] at d1 hi
  rw [← hr] at d2 hs32
  rw [← hq, ← hr]
  have w1 : IntKind.i64.wrap (q : Int) = q := wrap_i64 (by omega) (by omega)
  have w2 : IntKind.u64.wrap (r : Int) = r := by rw [wU]; omega
  have w3 : IntKind.u64.wrap (64 - (r : Int)) = ((64 - r : Nat) : Int) := by rw [wU]; omega
  have w4 : IntKind.u64.wrap (32 - (r : Int)) = ((32 - r : Nat) : Int) := by rw [wU]; omega
  have v1 := shrU (a := mag) (n := 64 - r) (by omega)
  have v2 := shlM (a := mag) (n := r) (by omega)
  have v3 := shrU (a := mag) (n := 32 - r) (by omega)
  obtain ⟨z, hz⟩ : ∃ z, z = mag * 2 ^ r := ⟨_, rfl⟩
  have hzb : z ≤ 9007199254740992 * 2147483648 := by
    have hs : 2 ^ r ≤ 2147483648 := by
      rw [show 2147483648 = 2 ^ 31 by decide]; exact Nat.pow_le_pow_right (by omega) (by omega)
    rw [hz]; exact Nat.mul_le_mul (by omega) hs
  have hhi : mag / 2 ^ (64 - r) = z / 18446744073709551616 := by
    rw [hz, show 18446744073709551616 = 2 ^ (64 - r) * 2 ^ r by rw [← Nat.pow_add, show 64 - r + r = 64 by omega], Nat.mul_div_mul_right _ _ (Nat.two_pow_pos r)]
  have hmi : mag / 2 ^ (32 - r) = z / 4294967296 := by
    rw [hz, show 4294967296 = 2 ^ (32 - r) * 2 ^ r by rw [← Nat.pow_add, show 32 - r + r = 32 by omega], Nat.mul_div_mul_right _ _ (Nat.two_pow_pos r)]
  rw [hhi] at v1
  rw [hmi] at v3
  rw [← hz] at v2 ⊢
  obtain ⟨lo, hlo⟩ : ∃ lo, lo = z % 18446744073709551616 := ⟨_, rfl⟩
  rw [← hlo] at v2
  have l1 := low32 (n := lo) (by omega)
  rw [show lo % 4294967296 = z % 4294967296 by omega] at l1
  obtain ⟨mi, hmi'⟩ : ∃ y, y = z / 4294967296 := ⟨_, rfl⟩
  rw [← hmi'] at v3
  have hmi64 : mi < 18446744073709551616 := by
    rw [hmi']; exact Nat.lt_of_le_of_lt (Nat.div_le_div_right hzb) (by decide)
  have l2 := low32 hmi64
  have hC4 : z / 18446744073709551616 < 4294967296 := by omega
  obtain ⟨x1, hx1⟩ : ∃ x, x = z % 4294967296 := ⟨_, rfl⟩
  obtain ⟨x2, hx2⟩ : ∃ x, x = mi % 4294967296 := ⟨_, rfl⟩
  obtain ⟨x3, hx3⟩ : ∃ x, x = z / 18446744073709551616 := ⟨_, rfl⟩
  have b1 : x1 < 4294967296 := by omega
  have b2 : x2 < 4294967296 := by omega
  have b3 : x3 < 4294967296 := by omega
  rw [← hx1] at l1
  rw [← hx2] at l2
  rw [← hx3] at v1
  rw [← hmi', ← hx1, ← hx2, ← hx3]
  have z0 : r = 0 → x3 = 0 := by
    intro h; subst h
    rw [hx3, hz, Nat.pow_zero, Nat.mul_one]; omega
  have g1 := getD_bound hb hB0 q
  have g2 := getD_bound hb hB0 (q + 1)
  have g3 := getD_bound hb hB0 (q + 2)
  have t1 : IntKind.i64.wrap (x1 : Int) = x1 := wrap_i64 (by omega) (by omega)
  have t2 : IntKind.i64.wrap (x2 : Int) = x2 := wrap_i64 (by omega) (by omega)
  have t3 : IntKind.i64.wrap (x3 : Int) = x3 := wrap_i64 (by omega) (by omega)
  have i0 : IntKind.i64.wrap ((q : Int) + 0) = (q : Int) := by rw [Int.add_zero]; exact wrap_i64 (by omega) (by omega)
  have i1 : IntKind.i64.wrap ((q : Int) + 1) = ((q + 1 : Nat) : Int) := by rw [wrap_i64 (by omega) (by omega)]; omega
  have i2 : IntKind.i64.wrap ((q : Int) + 2) = ((q + 2 : Nat) : Int) := by rw [wrap_i64 (by omega) (by omega)]; omega
  have s1 := sg_le s (Nat.le_of_lt b1)
  have s2 := sg_le s (Nat.le_of_lt b2)
  have s3 := sg_le s (Nat.le_of_lt b3)
  obtain ⟨c1, hc1⟩ : ∃ c, c = w.getD q 0 := ⟨_, rfl⟩
  obtain ⟨c2, hc2⟩ : ∃ c, c = w.getD (q + 1) 0 := ⟨_, rfl⟩
  obtain ⟨c3, hc3⟩ : ∃ c, c = w.getD (q + 2) 0 := ⟨_, rfl⟩
  rw [← hc1] at g1
  rw [← hc2] at g2
  rw [← hc3] at g3
  rw [← hc1, ← hc2, ← hc3]
  obtain ⟨y1, hy1⟩ : ∃ y, y = sg s x1 := ⟨_, rfl⟩
  obtain ⟨y2, hy2⟩ : ∃ y, y = sg s x2 := ⟨_, rfl⟩
  obtain ⟨y3, hy3⟩ : ∃ y, y = sg s x3 := ⟨_, rfl⟩
  rw [← hy1] at s1 ⊢
  rw [← hy2] at s2 ⊢
  rw [← hy3] at s3 ⊢
  clear haw
  have q0 : IntKind.i64.wrap 1 = 1 := rfl
  have q2 : IntKind.i64.wrap 2 = 2 := rfl
  have q3 : IntKind.i64.wrap 3 = 3 := rfl
  obtain ⟨H1, hH1⟩ : ∃ H1, H1 = H ++ [HB.c (cw [(x1 : Int), (x2 : Int), (x3 : Int)]) 2 0 0] := ⟨_, rfl⟩
  have hF : Fr [] H H1 := by rw [hH1]; exact Fr.app _ _
  have hblt := lt_of_get hw
  have hwA : Wd H1 b ep el w := hF.get hw (by simp)
  have hpA : Wd H1 H.length 0 2 [(x1 : Int), (x2 : Int), (x3 : Int)] := by rw [hH1]; exact hp_get0.trans rfl
  have hset : (H ++ [HB.c [AV.int .i64 (x1 : Int), AV.int .i64 (x2 : Int), AV.int .i64 0] 2 0 0]).set H.length (.c (cw [(x1 : Int), (x2 : Int), (x3 : Int)]) 2 0 0) = H1 := by rw [hp_set0, hH1]; rfl
  have hfin : ∀ w', Wd (putW H1 b ep el w') b ep el w' ∧ Fr [b] H (putW H1 b ep el w') := fun w' => ⟨hwA.put w', (hF.mono (by simp)).trans (Fr.set _ _ _) (fun b' hb' => .inl hb')⟩
  refine fw Tryz.func65 (by kernel_rfl) rfl (by kernel_rfl) fun C L T hT hS => ?_
  have nx : ∀ (H : Heap) (n : Nat), n < 72 → indexAddrA T H 72 (.slice b ep 0 1 72 (some 72)) (.int .i64 (n : Int)) = some (.ptr b ep n) := fun H n hn => Wd.sx hT.ty72 rfl hT.ty2 rfl hn
  have n1 := fun H => nx H q (by omega)
  have n2 := fun H => nx H (q + 1) (by omega)
  have n3 := fun H => nx H (q + 2) (by omega)
  have m1 : ∀ (G : Heap), indexAddrA T G 72 (.slice H.length 0 0 1 3 (some 3)) (.int .i64 0) = some (.ptr H.length 0 0) := fun G => Wd.sx (n := 0) hT.ty72 rfl hT.ty2 rfl (by omega)
  have m2 : ∀ (G : Heap), indexAddrA T G 72 (.slice H.length 0 0 1 3 (some 3)) (.int .i64 1) = some (.ptr H.length 0 1) := fun G => Wd.sx (n := 1) hT.ty72 rfl hT.ty2 rfl (by omega)
  have m3 : ∀ (G : Heap), indexAddrA T G 72 (.slice H.length 0 0 1 3 (some 3)) (.int .i64 2) = some (.ptr H.length 0 2) := fun G => Wd.sx (n := 2) hT.ty72 rfl hT.ty2 rfl (by omega)
  have hwB := hwA.put (w.set q (c1 + y1))
  have hwC := hwA.put ((w.set q (c1 + y1)).set (q + 1) (c2 + y2))
  have hne : H.length ≠ b := by omega
  have hpP : ∀ w', Wd (putW H1 b ep el w') H.length 0 2 [(x1 : Int), (x2 : Int), (x3 : Int)] := fun w' => by
    unfold Wd putW
    rw [List.getElem?_set_ne (by omega)]
    exact hpA
  have o1 := hwA.ld (T := T) (M := M) (n := q) (by omega) hT.ty2 rfl
  rw [← hc1] at o1
  have l3 := hpA.ld (T := T) (M := M) (n := 0) (by simp) hT.ty2 rfl
  have p1 := hwA.st (T := T) (n := q) (x := c1 + y1) (by omega) hT.ty2 rfl
  have o2 := hwB.ld (T := T) (M := M) (n := q + 1) (by rw [List.length_set]; omega) hT.ty2 rfl
  rw [show (w.set q (c1 + y1)).getD (q + 1) 0 = c2 by rw [hc2, List.getD_eq_getElem?_getD, List.getElem?_set_ne (by omega), ← List.getD_eq_getElem?_getD]] at o2
  have l4 := (hpP (w.set q (c1 + y1))).ld (T := T) (M := M) (n := 1) (by simp) hT.ty2 rfl
  have p2 := hwB.st (T := T) (n := q + 1) (x := c2 + y2) (by rw [List.length_set]; omega) hT.ty2 rfl
  rw [putW_put] at p2
  have o3 := hwC.ld (T := T) (M := M) (n := q + 2) (by rw [List.length_set, List.length_set]; omega) hT.ty2 rfl
  rw [show ((w.set q (c1 + y1)).set (q + 1) (c2 + y2)).getD (q + 2) 0 = c3 by rw [hc3, List.getD_eq_getElem?_getD, List.getElem?_set_ne (by omega), List.getElem?_set_ne (by omega), ← List.getD_eq_getElem?_getD]] at o3
  have l5 := (hpP ((w.set q (c1 + y1)).set (q + 1) (c2 + y2))).ld (T := T) (M := M) (n := 2) (by simp) hT.ty2 rfl
  have p3 := hwC.st (T := T) (n := q + 2) (x := c3 + y3) (by rw [List.length_set, List.length_set]; omega) hT.ty2 rfl
  rw [putW_put] at p3
  have e0 : ([(x1 : Int), (x2 : Int), (x3 : Int)]).getD 0 0 = x1 := rfl
  have e1 : ([(x1 : Int), (x2 : Int), (x3 : Int)]).getD 1 0 = x2 := rfl
  have e2 : ([(x1 : Int), (x2 : Int), (x3 : Int)]).getD 2 0 = x3 := rfl
  rw [e0] at l3
  rw [e1] at l4
  rw [e2] at l5
  have hfin3 := hfin (((w.set q (c1 + y1)).set (q + 1) (c2 + y2)).set (q + 2) (c3 + y3))
  have hst0 : ∀ G, G = H ++ [HB.c [AV.int .i64 (x1 : Int), AV.int .i64 (x2 : Int), AV.int .i64 0] 2 0 0] → storeA T G 2 (.ptr H.length 0 2) (.int .i64 (x3 : Int)) = some H1 := by
    rintro _ rfl
    have hp0 : Wd (H ++ [HB.c [AV.int .i64 (x1 : Int), AV.int .i64 (x2 : Int), AV.int .i64 0] 2 0 0]) H.length 0 2 [(x1 : Int), (x2 : Int), 0] := hp_get0.trans rfl
    rw [hp0.st (n := 2) (by simp) hT.ty2 rfl, ← hset]
    rfl
  have hst1 := hst0 _ rfl
  unfold wS
  cases s
  · have a1 : IntKind.i64.wrap (c1 + (x1 : Int)) = c1 + y1 := by rw [hy1]; exact wrap_i64 (by show _ ≤ c1 + (x1 : Int); omega) (by omega)
    have a2 : IntKind.i64.wrap (c2 + (x2 : Int)) = c2 + y2 := by rw [hy2]; exact wrap_i64 (by show _ ≤ c2 + (x2 : Int); omega) (by omega)
    have a3 : IntKind.i64.wrap (c3 + (x3 : Int)) = c3 + y3 := by rw [hy3]; exact wrap_i64 (by show _ ≤ c3 + (x3 : Int); omega) (by omega)
    by_cases z1 : r = 0
    · have z2 : ¬ (r : Int) > 0 := by omega
      have hz3 := z0 z1
      have hH0 : H ++ [HB.c [AV.int .i64 (x1 : Int), AV.int .i64 (x2 : Int), AV.int .i64 0] 2 0 0] = H1 := by rw [hH1, hz3]; rfl
      simp only [gX,gT,gM,gL,gB,wantedA,evOp,opv,absC,absC0,isAggT,resA,resultA,binA,eqA,eqGuardA,isConstA,isFlatScalar,strOp,ordB,readN,sliceCells,lenA,newA,buildA,fillA,buildSliceA,boundsA,bndA,sliceA,ptrOK,fieldAddrA,fieldA,indexA,extractA,convA,isIntT,biA,bytesOf,setAll,List.replicate,Nat.reduceAdd,Nat.reduceSub,Nat.reduceMul,Nat.reduceLT,Nat.reduceLeDiff,Nat.reduceEqDiff,Int.reduceEq,Int.reduceLT,Int.reduceLE,Int.reduceNe,Int.reduceAdd,Nat.reduceBEq,reduceCtorEq,lenB_nil,lenB_slice,lenB_oslice,lenB_str,lenB_agg,indexAddrA_oslice,indexAddrA_ptr,indexAddrA_optr,loadA_optr,lenK,indexK,loadK,Int.reduceBEq,Int.reduceBNe,Int.reduceMod,Int.reduceDiv,Int.reduceTDiv,Int.reduceTMod,Int.reduceFDiv,Int.reduceSub,Int.reduceNeg,Int.reduceGT,Int.reduceGE,BitVec.reduceOfInt,BitVec.reduceAnd,BitVec.reduceOr,BitVec.reduceXOr,BitVec.reduceToNat,Int.reduceToNat,Int.reducePow,Int.reduceMul,hT.all,Tryz.f65,w0,d1,d2,w1,w2,w3,w4,v1,v2,v3,l1,l2,z2,t1,t2,t3]
      rw [hH0]
      refine hS.rounds 4 ?_
      rw [xR_succ]
      simp only [gX,gT,gM,gL,gB,wantedA,evOp,opv,absC,absC0,isAggT,resA,resultA,binA,eqA,eqGuardA,isConstA,isFlatScalar,shiftOp,strOp,ordB,readN,sliceCells,lenA,newA,buildA,fillA,buildSliceA,boundsA,bndA,sliceA,ptrOK,fieldAddrA,fieldA,indexA,extractA,convA,isIntT,biA,bytesOf,setAll,List.replicate,Nat.reduceAdd,Nat.reduceSub,Nat.reduceMul,Nat.reduceLT,Nat.reduceLeDiff,Nat.reduceEqDiff,Int.reduceEq,Int.reduceLT,Int.reduceLE,Int.reduceNe,Int.reduceAdd,Nat.reduceBEq,reduceCtorEq,lenB_nil,lenB_slice,lenB_oslice,lenB_str,lenB_agg,indexAddrA_oslice,indexAddrA_ptr,indexAddrA_optr,loadA_optr,lenK,indexK,loadK,Int.reduceBEq,Int.reduceBNe,Int.reduceMod,Int.reduceDiv,Int.reduceTDiv,Int.reduceTMod,Int.reduceFDiv,Int.reduceSub,Int.reduceNeg,Int.reduceGT,Int.reduceGE,BitVec.reduceOfInt,BitVec.reduceAnd,BitVec.reduceOr,BitVec.reduceXOr,BitVec.reduceToNat,Int.reduceToNat,Int.reducePow,Int.reduceMul,hT.all,i0,i1,i2,q0,q2,q3,n1,n2,n3,m1,m2,m3,o1,l3,p1,o2,l4,p2,o3,l5,p3,a1,a2,a3]
      rw [xR_succ]
      simp only [gX,gT,gM,gL,gB,wantedA,evOp,opv,absC,absC0,isAggT,resA,resultA,binA,eqA,eqGuardA,isConstA,isFlatScalar,shiftOp,strOp,ordB,readN,sliceCells,lenA,newA,buildA,fillA,buildSliceA,boundsA,bndA,sliceA,ptrOK,fieldAddrA,fieldA,indexA,extractA,convA,isIntT,biA,bytesOf,setAll,List.replicate,Nat.reduceAdd,Nat.reduceSub,Nat.reduceMul,Nat.reduceLT,Nat.reduceLeDiff,Nat.reduceEqDiff,Int.reduceEq,Int.reduceLT,Int.reduceLE,Int.reduceNe,Int.reduceAdd,Nat.reduceBEq,reduceCtorEq,lenB_nil,lenB_slice,lenB_oslice,lenB_str,lenB_agg,indexAddrA_oslice,indexAddrA_ptr,indexAddrA_optr,loadA_optr,lenK,indexK,loadK,Int.reduceBEq,Int.reduceBNe,Int.reduceMod,Int.reduceDiv,Int.reduceTDiv,Int.reduceTMod,Int.reduceFDiv,Int.reduceSub,Int.reduceNeg,Int.reduceGT,Int.reduceGE,BitVec.reduceOfInt,BitVec.reduceAnd,BitVec.reduceOr,BitVec.reduceXOr,BitVec.reduceToNat,Int.reduceToNat,Int.reducePow,Int.reduceMul,hT.all,i0,i1,i2,q0,q2,q3,n1,n2,n3,m1,m2,m3,o1,l3,p1,o2,l4,p2,o3,l5,p3,a1,a2,a3]
      rw [xR_succ]
      simp only [gX,gT,gM,gL,gB,wantedA,evOp,opv,absC,absC0,isAggT,resA,resultA,binA,eqA,eqGuardA,isConstA,isFlatScalar,shiftOp,strOp,ordB,readN,sliceCells,lenA,newA,buildA,fillA,buildSliceA,boundsA,bndA,sliceA,ptrOK,fieldAddrA,fieldA,indexA,extractA,convA,isIntT,biA,bytesOf,setAll,List.replicate,Nat.reduceAdd,Nat.reduceSub,Nat.reduceMul,Nat.reduceLT,Nat.reduceLeDiff,Nat.reduceEqDiff,Int.reduceEq,Int.reduceLT,Int.reduceLE,Int.reduceNe,Int.reduceAdd,Nat.reduceBEq,reduceCtorEq,lenB_nil,lenB_slice,lenB_oslice,lenB_str,lenB_agg,indexAddrA_oslice,indexAddrA_ptr,indexAddrA_optr,loadA_optr,lenK,indexK,loadK,Int.reduceBEq,Int.reduceBNe,Int.reduceMod,Int.reduceDiv,Int.reduceTDiv,Int.reduceTMod,Int.reduceFDiv,Int.reduceSub,Int.reduceNeg,Int.reduceGT,Int.reduceGE,BitVec.reduceOfInt,BitVec.reduceAnd,BitVec.reduceOr,BitVec.reduceXOr,BitVec.reduceToNat,Int.reduceToNat,Int.reducePow,Int.reduceMul,hT.all,i0,i1,i2,q0,q2,q3,n1,n2,n3,m1,m2,m3,o1,l3,p1,o2,l4,p2,o3,l5,p3,a1,a2,a3]
      rw [xR_succ]
      simp only [gX,gT,gM,gL,gB,wantedA,evOp,opv,absC,absC0,isAggT,resA,resultA,binA,eqA,eqGuardA,isConstA,isFlatScalar,shiftOp,strOp,ordB,readN,sliceCells,lenA,newA,buildA,fillA,buildSliceA,boundsA,bndA,sliceA,ptrOK,fieldAddrA,fieldA,indexA,extractA,convA,isIntT,biA,bytesOf,setAll,List.replicate,Nat.reduceAdd,Nat.reduceSub,Nat.reduceMul,Nat.reduceLT,Nat.reduceLeDiff,Nat.reduceEqDiff,Int.reduceEq,Int.reduceLT,Int.reduceLE,Int.reduceNe,Int.reduceAdd,Nat.reduceBEq,reduceCtorEq,lenB_nil,lenB_slice,lenB_oslice,lenB_str,lenB_agg,indexAddrA_oslice,indexAddrA_ptr,indexAddrA_optr,loadA_optr,lenK,indexK,loadK,Int.reduceBEq,Int.reduceBNe,Int.reduceMod,Int.reduceDiv,Int.reduceTDiv,Int.reduceTMod,Int.reduceFDiv,Int.reduceSub,Int.reduceNeg,Int.reduceGT,Int.reduceGE,BitVec.reduceOfInt,BitVec.reduceAnd,BitVec.reduceOr,BitVec.reduceXOr,BitVec.reduceToNat,Int.reduceToNat,Int.reducePow,Int.reduceMul,hT.all,i0,i1,i2,q0,q2,q3,n1,n2,n3,m1,m2,m3,o1,l3,p1,o2,l4,p2,o3,l5,p3,a1,a2,a3]
      exact hfin3
    · have z2 : (r : Int) > 0 := by omega
      simp only [gX,gT,gM,gL,gB,wantedA,evOp,opv,absC,absC0,isAggT,resA,resultA,binA,eqA,eqGuardA,isConstA,isFlatScalar,strOp,ordB,readN,sliceCells,lenA,newA,buildA,fillA,buildSliceA,boundsA,bndA,sliceA,ptrOK,fieldAddrA,fieldA,indexA,extractA,convA,isIntT,biA,bytesOf,setAll,List.replicate,Nat.reduceAdd,Nat.reduceSub,Nat.reduceMul,Nat.reduceLT,Nat.reduceLeDiff,Nat.reduceEqDiff,Int.reduceEq,Int.reduceLT,Int.reduceLE,Int.reduceNe,Int.reduceAdd,Nat.reduceBEq,reduceCtorEq,lenB_nil,lenB_slice,lenB_oslice,lenB_str,lenB_agg,indexAddrA_oslice,indexAddrA_ptr,indexAddrA_optr,loadA_optr,lenK,indexK,loadK,Int.reduceBEq,Int.reduceBNe,Int.reduceMod,Int.reduceDiv,Int.reduceTDiv,Int.reduceTMod,Int.reduceFDiv,Int.reduceSub,Int.reduceNeg,Int.reduceGT,Int.reduceGE,BitVec.reduceOfInt,BitVec.reduceAnd,BitVec.reduceOr,BitVec.reduceXOr,BitVec.reduceToNat,Int.reduceToNat,Int.reducePow,Int.reduceMul,hT.all,Tryz.f65,w0,d1,d2,w1,w2,w3,w4,v1,v2,v3,l1,l2,z2,t1,t2,t3,m3,hst1]
      refine hS.rounds 4 ?_
      rw [xR_succ]
      simp only [gX,gT,gM,gL,gB,wantedA,evOp,opv,absC,absC0,isAggT,resA,resultA,binA,eqA,eqGuardA,isConstA,isFlatScalar,shiftOp,strOp,ordB,readN,sliceCells,lenA,newA,buildA,fillA,buildSliceA,boundsA,bndA,sliceA,ptrOK,fieldAddrA,fieldA,indexA,extractA,convA,isIntT,biA,bytesOf,setAll,List.replicate,Nat.reduceAdd,Nat.reduceSub,Nat.reduceMul,Nat.reduceLT,Nat.reduceLeDiff,Nat.reduceEqDiff,Int.reduceEq,Int.reduceLT,Int.reduceLE,Int.reduceNe,Int.reduceAdd,Nat.reduceBEq,reduceCtorEq,lenB_nil,lenB_slice,lenB_oslice,lenB_str,lenB_agg,indexAddrA_oslice,indexAddrA_ptr,indexAddrA_optr,loadA_optr,lenK,indexK,loadK,Int.reduceBEq,Int.reduceBNe,Int.reduceMod,Int.reduceDiv,Int.reduceTDiv,Int.reduceTMod,Int.reduceFDiv,Int.reduceSub,Int.reduceNeg,Int.reduceGT,Int.reduceGE,BitVec.reduceOfInt,BitVec.reduceAnd,BitVec.reduceOr,BitVec.reduceXOr,BitVec.reduceToNat,Int.reduceToNat,Int.reducePow,Int.reduceMul,hT.all,i0,i1,i2,q0,q2,q3,n1,n2,n3,m1,m2,m3,o1,l3,p1,o2,l4,p2,o3,l5,p3,a1,a2,a3]
      rw [xR_succ]
      simp only [gX,gT,gM,gL,gB,wantedA,evOp,opv,absC,absC0,isAggT,resA,resultA,binA,eqA,eqGuardA,isConstA,isFlatScalar,shiftOp,strOp,ordB,readN,sliceCells,lenA,newA,buildA,fillA,buildSliceA,boundsA,bndA,sliceA,ptrOK,fieldAddrA,fieldA,indexA,extractA,convA,isIntT,biA,bytesOf,setAll,List.replicate,Nat.reduceAdd,Nat.reduceSub,Nat.reduceMul,Nat.reduceLT,Nat.reduceLeDiff,Nat.reduceEqDiff,Int.reduceEq,Int.reduceLT,Int.reduceLE,Int.reduceNe,Int.reduceAdd,Nat.reduceBEq,reduceCtorEq,lenB_nil,lenB_slice,lenB_oslice,lenB_str,lenB_agg,indexAddrA_oslice,indexAddrA_ptr,indexAddrA_optr,loadA_optr,lenK,indexK,loadK,Int.reduceBEq,Int.reduceBNe,Int.reduceMod,Int.reduceDiv,Int.reduceTDiv,Int.reduceTMod,Int.reduceFDiv,Int.reduceSub,Int.reduceNeg,Int.reduceGT,Int.reduceGE,BitVec.reduceOfInt,BitVec.reduceAnd,BitVec.reduceOr,BitVec.reduceXOr,BitVec.reduceToNat,Int.reduceToNat,Int.reducePow,Int.reduceMul,hT.all,i0,i1,i2,q0,q2,q3,n1,n2,n3,m1,m2,m3,o1,l3,p1,o2,l4,p2,o3,l5,p3,a1,a2,a3]
      rw [xR_succ]
      simp only [gX,gT,gM,gL,gB,wantedA,evOp,opv,absC,absC0,isAggT,resA,resultA,binA,eqA,eqGuardA,isConstA,isFlatScalar,shiftOp,strOp,ordB,readN,sliceCells,lenA,newA,buildA,fillA,buildSliceA,boundsA,bndA,sliceA,ptrOK,fieldAddrA,fieldA,indexA,extractA,convA,isIntT,biA,bytesOf,setAll,List.replicate,Nat.reduceAdd,Nat.reduceSub,Nat.reduceMul,Nat.reduceLT,Nat.reduceLeDiff,Nat.reduceEqDiff,Int.reduceEq,Int.reduceLT,Int.reduceLE,Int.reduceNe,Int.reduceAdd,Nat.reduceBEq,reduceCtorEq,lenB_nil,lenB_slice,lenB_oslice,lenB_str,lenB_agg,indexAddrA_oslice,indexAddrA_ptr,indexAddrA_optr,loadA_optr,lenK,indexK,loadK,Int.reduceBEq,Int.reduceBNe,Int.reduceMod,Int.reduceDiv,Int.reduceTDiv,Int.reduceTMod,Int.reduceFDiv,Int.reduceSub,Int.reduceNeg,Int.reduceGT,Int.reduceGE,BitVec.reduceOfInt,BitVec.reduceAnd,BitVec.reduceOr,BitVec.reduceXOr,BitVec.reduceToNat,Int.reduceToNat,Int.reducePow,Int.reduceMul,hT.all,i0,i1,i2,q0,q2,q3,n1,n2,n3,m1,m2,m3,o1,l3,p1,o2,l4,p2,o3,l5,p3,a1,a2,a3]
      rw [xR_succ]
      simp only [gX,gT,gM,gL,gB,wantedA,evOp,opv,absC,absC0,isAggT,resA,resultA,binA,eqA,eqGuardA,isConstA,isFlatScalar,shiftOp,strOp,ordB,readN,sliceCells,lenA,newA,buildA,fillA,buildSliceA,boundsA,bndA,sliceA,ptrOK,fieldAddrA,fieldA,indexA,extractA,convA,isIntT,biA,bytesOf,setAll,List.replicate,Nat.reduceAdd,Nat.reduceSub,Nat.reduceMul,Nat.reduceLT,Nat.reduceLeDiff,Nat.reduceEqDiff,Int.reduceEq,Int.reduceLT,Int.reduceLE,Int.reduceNe,Int.reduceAdd,Nat.reduceBEq,reduceCtorEq,lenB_nil,lenB_slice,lenB_oslice,lenB_str,lenB_agg,indexAddrA_oslice,indexAddrA_ptr,indexAddrA_optr,loadA_optr,lenK,indexK,loadK,Int.reduceBEq,Int.reduceBNe,Int.reduceMod,Int.reduceDiv,Int.reduceTDiv,Int.reduceTMod,Int.reduceFDiv,Int.reduceSub,Int.reduceNeg,Int.reduceGT,Int.reduceGE,BitVec.reduceOfInt,BitVec.reduceAnd,BitVec.reduceOr,BitVec.reduceXOr,BitVec.reduceToNat,Int.reduceToNat,Int.reducePow,Int.reduceMul,hT.all,i0,i1,i2,q0,q2,q3,n1,n2,n3,m1,m2,m3,o1,l3,p1,o2,l4,p2,o3,l5,p3,a1,a2,a3]
      exact hfin3
  · have a1 : IntKind.i64.wrap (c1 - (x1 : Int)) = c1 + y1 := by rw [hy1]; show _ = c1 + -(x1 : Int); rw [wrap_i64 (by omega) (by omega)]; omega
    have a2 : IntKind.i64.wrap (c2 - (x2 : Int)) = c2 + y2 := by rw [hy2]; show _ = c2 + -(x2 : Int); rw [wrap_i64 (by omega) (by omega)]; omega
    have a3 : IntKind.i64.wrap (c3 - (x3 : Int)) = c3 + y3 := by rw [hy3]; show _ = c3 + -(x3 : Int); rw [wrap_i64 (by omega) (by omega)]; omega
    by_cases z1 : r = 0
    · have z2 : ¬ (r : Int) > 0 := by omega
      have hz3 := z0 z1
      have hH0 : H ++ [HB.c [AV.int .i64 (x1 : Int), AV.int .i64 (x2 : Int), AV.int .i64 0] 2 0 0] = H1 := by rw [hH1, hz3]; rfl
      simp only [gX,gT,gM,gL,gB,wantedA,evOp,opv,absC,absC0,isAggT,resA,resultA,binA,eqA,eqGuardA,isConstA,isFlatScalar,strOp,ordB,readN,sliceCells,lenA,newA,buildA,fillA,buildSliceA,boundsA,bndA,sliceA,ptrOK,fieldAddrA,fieldA,indexA,extractA,convA,isIntT,biA,bytesOf,setAll,List.replicate,Nat.reduceAdd,Nat.reduceSub,Nat.reduceMul,Nat.reduceLT,Nat.reduceLeDiff,Nat.reduceEqDiff,Int.reduceEq,Int.reduceLT,Int.reduceLE,Int.reduceNe,Int.reduceAdd,Nat.reduceBEq,reduceCtorEq,lenB_nil,lenB_slice,lenB_oslice,lenB_str,lenB_agg,indexAddrA_oslice,indexAddrA_ptr,indexAddrA_optr,loadA_optr,lenK,indexK,loadK,Int.reduceBEq,Int.reduceBNe,Int.reduceMod,Int.reduceDiv,Int.reduceTDiv,Int.reduceTMod,Int.reduceFDiv,Int.reduceSub,Int.reduceNeg,Int.reduceGT,Int.reduceGE,BitVec.reduceOfInt,BitVec.reduceAnd,BitVec.reduceOr,BitVec.reduceXOr,BitVec.reduceToNat,Int.reduceToNat,Int.reducePow,Int.reduceMul,hT.all,Tryz.f65,w0,d1,d2,w1,w2,w3,w4,v1,v2,v3,l1,l2,z2,t1,t2,t3]
      rw [hH0]
      refine hS.rounds 4 ?_
      rw [xR_succ]
      simp only [gX,gT,gM,gL,gB,wantedA,evOp,opv,absC,absC0,isAggT,resA,resultA,binA,eqA,eqGuardA,isConstA,isFlatScalar,shiftOp,strOp,ordB,readN,sliceCells,lenA,newA,buildA,fillA,buildSliceA,boundsA,bndA,sliceA,ptrOK,fieldAddrA,fieldA,indexA,extractA,convA,isIntT,biA,bytesOf,setAll,List.replicate,Nat.reduceAdd,Nat.reduceSub,Nat.reduceMul,Nat.reduceLT,Nat.reduceLeDiff,Nat.reduceEqDiff,Int.reduceEq,Int.reduceLT,Int.reduceLE,Int.reduceNe,Int.reduceAdd,Nat.reduceBEq,reduceCtorEq,lenB_nil,lenB_slice,lenB_oslice,lenB_str,lenB_agg,indexAddrA_oslice,indexAddrA_ptr,indexAddrA_optr,loadA_optr,lenK,indexK,loadK,Int.reduceBEq,Int.reduceBNe,Int.reduceMod,Int.reduceDiv,Int.reduceTDiv,Int.reduceTMod,Int.reduceFDiv,Int.reduceSub,Int.reduceNeg,Int.reduceGT,Int.reduceGE,BitVec.reduceOfInt,BitVec.reduceAnd,BitVec.reduceOr,BitVec.reduceXOr,BitVec.reduceToNat,Int.reduceToNat,Int.reducePow,Int.reduceMul,hT.all,i0,i1,i2,q0,q2,q3,n1,n2,n3,m1,m2,m3,o1,l3,p1,o2,l4,p2,o3,l5,p3,a1,a2,a3]
      rw [xR_succ]
      simp only [gX,gT,gM,gL,gB,wantedA,evOp,opv,absC,absC0,isAggT,resA,resultA,binA,eqA,eqGuardA,isConstA,isFlatScalar,shiftOp,strOp,ordB,readN,sliceCells,lenA,newA,buildA,fillA,buildSliceA,boundsA,bndA,sliceA,ptrOK,fieldAddrA,fieldA,indexA,extractA,convA,isIntT,biA,bytesOf,setAll,List.replicate,Nat.reduceAdd,Nat.reduceSub,Nat.reduceMul,Nat.reduceLT,Nat.reduceLeDiff,Nat.reduceEqDiff,Int.reduceEq,Int.reduceLT,Int.reduceLE,Int.reduceNe,Int.reduceAdd,Nat.reduceBEq,reduceCtorEq,lenB_nil,lenB_slice,lenB_oslice,lenB_str,lenB_agg,indexAddrA_oslice,indexAddrA_ptr,indexAddrA_optr,loadA_optr,lenK,indexK,loadK,Int.reduceBEq,Int.reduceBNe,Int.reduceMod,Int.reduceDiv,Int.reduceTDiv,Int.reduceTMod,Int.reduceFDiv,Int.reduceSub,Int.reduceNeg,Int.reduceGT,Int.reduceGE,BitVec.reduceOfInt,BitVec.reduceAnd,BitVec.reduceOr,BitVec.reduceXOr,BitVec.reduceToNat,Int.reduceToNat,Int.reducePow,Int.reduceMul,hT.all,i0,i1,i2,q0,q2,q3,n1,n2,n3,m1,m2,m3,o1,l3,p1,o2,l4,p2,o3,l5,p3,a1,a2,a3]
      rw [xR_succ]
      simp only [gX,gT,gM,gL,gB,wantedA,evOp,opv,absC,absC0,isAggT,resA,resultA,binA,eqA,eqGuardA,isConstA,isFlatScalar,shiftOp,strOp,ordB,readN,sliceCells,lenA,newA,buildA,fillA,buildSliceA,boundsA,bndA,sliceA,ptrOK,fieldAddrA,fieldA,indexA,extractA,convA,isIntT,biA,bytesOf,setAll,List.replicate,Nat.reduceAdd,Nat.reduceSub,Nat.reduceMul,Nat.reduceLT,Nat.reduceLeDiff,Nat.reduceEqDiff,Int.reduceEq,Int.reduceLT,Int.reduceLE,Int.reduceNe,Int.reduceAdd,Nat.reduceBEq,reduceCtorEq,lenB_nil,lenB_slice,lenB_oslice,lenB_str,lenB_agg,indexAddrA_oslice,indexAddrA_ptr,indexAddrA_optr,loadA_optr,lenK,indexK,loadK,Int.reduceBEq,Int.reduceBNe,Int.reduceMod,Int.reduceDiv,Int.reduceTDiv,Int.reduceTMod,Int.reduceFDiv,Int.reduceSub,Int.reduceNeg,Int.reduceGT,Int.reduceGE,BitVec.reduceOfInt,BitVec.reduceAnd,BitVec.reduceOr,BitVec.reduceXOr,BitVec.reduceToNat,Int.reduceToNat,Int.reducePow,Int.reduceMul,hT.all,i0,i1,i2,q0,q2,q3,n1,n2,n3,m1,m2,m3,o1,l3,p1,o2,l4,p2,o3,l5,p3,a1,a2,a3]
      rw [xR_succ]
      simp only [gX,gT,gM,gL,gB,wantedA,evOp,opv,absC,absC0,isAggT,resA,resultA,binA,eqA,eqGuardA,isConstA,isFlatScalar,shiftOp,strOp,ordB,readN,sliceCells,lenA,newA,buildA,fillA,buildSliceA,boundsA,bndA,sliceA,ptrOK,fieldAddrA,fieldA,indexA,extractA,convA,isIntT,biA,bytesOf,setAll,List.replicate,Nat.reduceAdd,Nat.reduceSub,Nat.reduceMul,Nat.reduceLT,Nat.reduceLeDiff,Nat.reduceEqDiff,Int.reduceEq,Int.reduceLT,Int.reduceLE,Int.reduceNe,Int.reduceAdd,Nat.reduceBEq,reduceCtorEq,lenB_nil,lenB_slice,lenB_oslice,lenB_str,lenB_agg,indexAddrA_oslice,indexAddrA_ptr,indexAddrA_optr,loadA_optr,lenK,indexK,loadK,Int.reduceBEq,Int.reduceBNe,Int.reduceMod,Int.reduceDiv,Int.reduceTDiv,Int.reduceTMod,Int.reduceFDiv,Int.reduceSub,Int.reduceNeg,Int.reduceGT,Int.reduceGE,BitVec.reduceOfInt,BitVec.reduceAnd,BitVec.reduceOr,BitVec.reduceXOr,BitVec.reduceToNat,Int.reduceToNat,Int.reducePow,Int.reduceMul,hT.all,i0,i1,i2,q0,q2,q3,n1,n2,n3,m1,m2,m3,o1,l3,p1,o2,l4,p2,o3,l5,p3,a1,a2,a3]
      exact hfin3
    · have z2 : (r : Int) > 0 := by omega
      simp only [gX,gT,gM,gL,gB,wantedA,evOp,opv,absC,absC0,isAggT,resA,resultA,binA,eqA,eqGuardA,isConstA,isFlatScalar,strOp,ordB,readN,sliceCells,lenA,newA,buildA,fillA,buildSliceA,boundsA,bndA,sliceA,ptrOK,fieldAddrA,fieldA,indexA,extractA,convA,isIntT,biA,bytesOf,setAll,List.replicate,Nat.reduceAdd,Nat.reduceSub,Nat.reduceMul,Nat.reduceLT,Nat.reduceLeDiff,Nat.reduceEqDiff,Int.reduceEq,Int.reduceLT,Int.reduceLE,Int.reduceNe,Int.reduceAdd,Nat.reduceBEq,reduceCtorEq,lenB_nil,lenB_slice,lenB_oslice,lenB_str,lenB_agg,indexAddrA_oslice,indexAddrA_ptr,indexAddrA_optr,loadA_optr,lenK,indexK,loadK,Int.reduceBEq,Int.reduceBNe,Int.reduceMod,Int.reduceDiv,Int.reduceTDiv,Int.reduceTMod,Int.reduceFDiv,Int.reduceSub,Int.reduceNeg,Int.reduceGT,Int.reduceGE,BitVec.reduceOfInt,BitVec.reduceAnd,BitVec.reduceOr,BitVec.reduceXOr,BitVec.reduceToNat,Int.reduceToNat,Int.reducePow,Int.reduceMul,hT.all,Tryz.f65,w0,d1,d2,w1,w2,w3,w4,v1,v2,v3,l1,l2,z2,t1,t2,t3,m3,hst1]
      refine hS.rounds 4 ?_
      rw [xR_succ]
      simp only [gX,gT,gM,gL,gB,wantedA,evOp,opv,absC,absC0,isAggT,resA,resultA,binA,eqA,eqGuardA,isConstA,isFlatScalar,shiftOp,strOp,ordB,readN,sliceCells,lenA,newA,buildA,fillA,buildSliceA,boundsA,bndA,sliceA,ptrOK,fieldAddrA,fieldA,indexA,extractA,convA,isIntT,biA,bytesOf,setAll,List.replicate,Nat.reduceAdd,Nat.reduceSub,Nat.reduceMul,Nat.reduceLT,Nat.reduceLeDiff,Nat.reduceEqDiff,Int.reduceEq,Int.reduceLT,Int.reduceLE,Int.reduceNe,Int.reduceAdd,Nat.reduceBEq,reduceCtorEq,lenB_nil,lenB_slice,lenB_oslice,lenB_str,lenB_agg,indexAddrA_oslice,indexAddrA_ptr,indexAddrA_optr,loadA_optr,lenK,indexK,loadK,Int.reduceBEq,Int.reduceBNe,Int.reduceMod,Int.reduceDiv,Int.reduceTDiv,Int.reduceTMod,Int.reduceFDiv,Int.reduceSub,Int.reduceNeg,Int.reduceGT,Int.reduceGE,BitVec.reduceOfInt,BitVec.reduceAnd,BitVec.reduceOr,BitVec.reduceXOr,BitVec.reduceToNat,Int.reduceToNat,Int.reducePow,Int.reduceMul,hT.all,i0,i1,i2,q0,q2,q3,n1,n2,n3,m1,m2,m3,o1,l3,p1,o2,l4,p2,o3,l5,p3,a1,a2,a3]
      rw [xR_succ]
      simp only [gX,gT,gM,gL,gB,wantedA,evOp,opv,absC,absC0,isAggT,resA,resultA,binA,eqA,eqGuardA,isConstA,isFlatScalar,shiftOp,strOp,ordB,readN,sliceCells,lenA,newA,buildA,fillA,buildSliceA,boundsA,bndA,sliceA,ptrOK,fieldAddrA,fieldA,indexA,extractA,convA,isIntT,biA,bytesOf,setAll,List.replicate,Nat.reduceAdd,Nat.reduceSub,Nat.reduceMul,Nat.reduceLT,Nat.reduceLeDiff,Nat.reduceEqDiff,Int.reduceEq,Int.reduceLT,Int.reduceLE,Int.reduceNe,Int.reduceAdd,Nat.reduceBEq,reduceCtorEq,lenB_nil,lenB_slice,lenB_oslice,lenB_str,lenB_agg,indexAddrA_oslice,indexAddrA_ptr,indexAddrA_optr,loadA_optr,lenK,indexK,loadK,Int.reduceBEq,Int.reduceBNe,Int.reduceMod,Int.reduceDiv,Int.reduceTDiv,Int.reduceTMod,Int.reduceFDiv,Int.reduceSub,Int.reduceNeg,Int.reduceGT,Int.reduceGE,BitVec.reduceOfInt,BitVec.reduceAnd,BitVec.reduceOr,BitVec.reduceXOr,BitVec.reduceToNat,Int.reduceToNat,Int.reducePow,Int.reduceMul,hT.all,i0,i1,i2,q0,q2,q3,n1,n2,n3,m1,m2,m3,o1,l3,p1,o2,l4,p2,o3,l5,p3,a1,a2,a3]
      rw [xR_succ]
      simp only [gX,gT,gM,gL,gB,wantedA,evOp,opv,absC,absC0,isAggT,resA,resultA,binA,eqA,eqGuardA,isConstA,isFlatScalar,shiftOp,strOp,ordB,readN,sliceCells,lenA,newA,buildA,fillA,buildSliceA,boundsA,bndA,sliceA,ptrOK,fieldAddrA,fieldA,indexA,extractA,convA,isIntT,biA,bytesOf,setAll,List.replicate,Nat.reduceAdd,Nat.reduceSub,Nat.reduceMul,Nat.reduceLT,Nat.reduceLeDiff,Nat.reduceEqDiff,Int.reduceEq,Int.reduceLT,Int.reduceLE,Int.reduceNe,Int.reduceAdd,Nat.reduceBEq,reduceCtorEq,lenB_nil,lenB_slice,lenB_oslice,lenB_str,lenB_agg,indexAddrA_oslice,indexAddrA_ptr,indexAddrA_optr,loadA_optr,lenK,indexK,loadK,Int.reduceBEq,Int.reduceBNe,Int.reduceMod,Int.reduceDiv,Int.reduceTDiv,Int.reduceTMod,Int.reduceFDiv,Int.reduceSub,Int.reduceNeg,Int.reduceGT,Int.reduceGE,BitVec.reduceOfInt,BitVec.reduceAnd,BitVec.reduceOr,BitVec.reduceXOr,BitVec.reduceToNat,Int.reduceToNat,Int.reducePow,Int.reduceMul,hT.all,i0,i1,i2,q0,q2,q3,n1,n2,n3,m1,m2,m3,o1,l3,p1,o2,l4,p2,o3,l5,p3,a1,a2,a3]
      rw [xR_succ]
      simp only [gX,gT,gM,gL,gB,wantedA,evOp,opv,absC,absC0,isAggT,resA,resultA,binA,eqA,eqGuardA,isConstA,isFlatScalar,shiftOp,strOp,ordB,readN,sliceCells,lenA,newA,buildA,fillA,buildSliceA,boundsA,bndA,sliceA,ptrOK,fieldAddrA,fieldA,indexA,extractA,convA,isIntT,biA,bytesOf,setAll,List.replicate,Nat.reduceAdd,Nat.reduceSub,Nat.reduceMul,Nat.reduceLT,Nat.reduceLeDiff,Nat.reduceEqDiff,Int.reduceEq,Int.reduceLT,Int.reduceLE,Int.reduceNe,Int.reduceAdd,Nat.reduceBEq,reduceCtorEq,lenB_nil,lenB_slice,lenB_oslice,lenB_str,lenB_agg,indexAddrA_oslice,indexAddrA_ptr,indexAddrA_optr,loadA_optr,lenK,indexK,loadK,Int.reduceBEq,Int.reduceBNe,Int.reduceMod,Int.reduceDiv,Int.reduceTDiv,Int.reduceTMod,Int.reduceFDiv,Int.reduceSub,Int.reduceNeg,Int.reduceGT,Int.reduceGE,BitVec.reduceOfInt,BitVec.reduceAnd,BitVec.reduceOr,BitVec.reduceXOr,BitVec.reduceToNat,Int.reduceToNat,Int.reducePow,Int.reduceMul,hT.all,i0,i1,i2,q0,q2,q3,n1,n2,n3,m1,m2,m3,o1,l3,p1,o2,l4,p2,o3,l5,p3,a1,a2,a3]
      exact hfin3

end Go.Proofs.YtpddepehlinfnaaGreatDoor.B
