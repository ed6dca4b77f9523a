/- Part of a claim: a row of words in a block of memory; the program adds to it, carries, negates. -/
import Derived.Test.YtpddepehlinfnaaGreatDoorYS15
import Derived.Test.YtpddepehlinfnaaGreatDoorYS20
set_option linter.unusedSimpArgs false
set_option linter.unusedVariables false
set_option maxRecDepth 100000
set_option maxHeartbeats 10000000
namespace Go.Proofs.YtpddepehlinfnaaGreatDoor.B
open Go Go.RowKit Go.Proofs.YtpddepehlinfnaaGreatDoor.E Go.Proofs.YtpddepehlinfnaaGreatDoor.FL

/-- Words as cells. -/
def cw (w : List Int) : List AV := w.map fun x => .int .i64 x
theorem cw_length (w : List Int) : (cw w).length = w.length := List.length_map ..
theorem cw_get {w : List Int} {i : Nat} (h : i < w.length) : (cw w)[i]? = some (.int .i64 (w.getD i 0)) := by
  unfold cw; rw [List.getElem?_map, getD_some h]; rfl
theorem cw_set (w : List Int) (i : Nat) (x : Int) : (cw w).set i (.int .i64 x) = cw (w.set i x) := by
  unfold cw; rw [List.map_set]

/-- The block b holds the words. -/
def Wd (H : Heap) (b ep : Nat) (el : TypeId) (w : List Int) : Prop := H[b]? = some (.c (cw w) el ep ep)
/-- The heap with other words there. -/
def putW (H : Heap) (b ep : Nat) (el : TypeId) (w : List Int) : Heap := H.set b (.c (cw w) el ep ep)
theorem Wd.put {H : Heap} {b ep : Nat} {el : TypeId} {w : List Int} (h : Wd H b ep el w) (w' : List Int) : Wd (putW H b ep el w') b ep el w' := by
  unfold Wd putW; rw [List.getElem?_set_self (lt_of_get h)]
theorem putW_put (H : Heap) (b ep : Nat) (el : TypeId) (w w' : List Int) : putW (putW H b ep el w) b ep el w' = putW H b ep el w' := by
  unfold putW; rw [List.set_set]
theorem Wd.same {H : Heap} {b ep : Nat} {el : TypeId} {w : List Int} (h : Wd H b ep el w) : putW H b ep el w = H := by
  unfold Wd at h; unfold putW
  refine List.ext_getElem? fun i => ?_
  rw [List.getElem?_set]
  by_cases c : b = i
  · subst c; rw [if_pos rfl, if_pos (lt_of_get h), h]
  · rw [if_neg c]

theorem Wd.ix {T : Tab} {H : Heap} {b ep : Nat} {el : TypeId} {w : List Int} {t e : TypeId} {i j : TI} {len n : Nat} {k : IntKind} (h : Wd H b ep el w) (hl : w.length = len) (ht : T t = some i) (hi : i.und = .array len e) (he : T e = some j) (hj : j.size = 1) (hn : n < len) :
    indexAddrA T H t (.ptr b ep 0) (.int k (n : Int)) = some (.ptr b ep n) := by
  unfold Wd at h
  have e2 : 0 + n * 1 = n := by omega
  have hp : ptrOK H b ep n = true := by
    unfold ptrOK
    rw [h]
    simp only [cw_length, Bool.and_eq_true, decide_eq_true_eq]
    exact ⟨trivial, by omega⟩
  unfold indexAddrA
  simp only [ht, hi, he, hj, Int.toNat_natCast, e2, hp, if_true]
  rw [if_pos ⟨by decide, by omega, by omega⟩]

theorem Wd.ld {T : Tab} {M : Addr → Option AV} {H : Heap} {b ep : Nat} {el : TypeId} {w : List Int} {t : TypeId} {j : TI} {n : Nat} (h : Wd H b ep el w) (hn : n < w.length) (ht : T t = some j) (hj : isAggT j.und = false) :
    loadA T M H t (.ptr b ep n) = some (.int .i64 (w.getD n 0)) := by
  unfold Wd at h
  have hr : readN M H (.ptr b ep n) 1 = some [.int .i64 (w.getD n 0)] := by
    have e : (cw w).drop n = .int .i64 (w.getD n 0) :: (cw w).drop (n + 1) := by
      rw [List.drop_eq_getElem_cons (by rw [cw_length]; exact hn)]
      congr 1
      have := cw_get hn
      rw [List.getElem?_eq_getElem (by rw [cw_length]; exact hn)] at this
      exact Option.some.inj this
    unfold readN
    simp only [h, cw_length, e, List.take_succ_cons, List.take_zero]
    rw [if_pos (show n + 1 ≤ w.length by omega)]; try rw [if_pos trivial]
  unfold loadA
  simp only [ht, hj, hr, Bool.false_eq_true, if_false]

theorem Wd.st {T : Tab} {H : Heap} {b ep : Nat} {el : TypeId} {w : List Int} {t : TypeId} {j : TI} {n : Nat} {x : Int} (h : Wd H b ep el w) (hn : n < w.length) (ht : T t = some j) (hj : j.size = 1) :
    storeA T H t (.ptr b ep n) (.int .i64 x) = some (putW H b ep el (w.set n x)) := by
  unfold Wd at h
  have e : setAll (cw w) n (cellsOf (.int .i64 x)) = cw (w.set n x) := by rw [← cw_set]; rfl
  unfold storeA putW
  simp only [ht, h, hj, e]
  rw [if_pos ⟨trivial, rfl, by rw [cw_length]; exact hn, rfl⟩]

theorem shlM {a n : Nat} (hn : n ≤ 64) : shiftOp .shl .u64 (a : Int) (n : Int) = some (.int .u64 ((a * 2 ^ n % 18446744073709551616 : Nat) : Int)) := by
  unfold shiftOp
  rw [if_neg (by omega)]
  have e : min ((n : Int).toNat) (IntKind.bits .u64) = n := by
    show min ((n : Int).toNat) 64 = n
    omega
  simp only [e]
  congr 2

theorem low32 {n : Nat} (h : n < 18446744073709551616) : IntKind.u64.wrap (((BitVec.ofInt 64 (n : Int)) &&& 4294967295#64).toNat : Int) = (n % 4294967296 : Nat) := by
  have h2 := and64 (a := n) (b := 4294967295) h (by omega)
  have e : n &&& 4294967295 = n % 4294967296 := Nat.and_two_pow_sub_one_eq_mod n 32
  rw [e] at h2
  exact h2

/-- The program adds. -/
theorem sAdd (M : Addr → Option AV) {H : Heap} {b ep : Nat} {el : TypeId} {w : List Int} {m e : Int} {i mag : Nat} {s : Bool} {B : Int} (hw : Wd H b ep el w) (hl : w.length = 76) (hm : m = sg s mag) (hp : 0 < mag) (hmag : mag < 9007199254740992) (he : e = (i : Int) - 1152) (hi : i / 32 + 2 < 76)
    (hb : ∀ x ∈ w, -B ≤ x ∧ x ≤ B) (hB0 : 0 ≤ B) (hB : B ≤ 4611686018427387904) :
    SemF Tryz.prog M 55 [.ptr b ep 0, .int .i64 m, .int .i64 e] H fun v h => v = .tup [] ∧ h = putW H b ep el (addW w i s mag) := by
  have haw : addW w i s mag = put3 w (i / 32) (sg s (mag * 2 ^ (i % 32) % 4294967296)) (sg s (mag * 2 ^ (i % 32) / 4294967296 % 4294967296)) (sg s (mag * 2 ^ (i % 32) / 18446744073709551616)) := rfl
  rw [haw, put3_eq]
  have d1 : (i : Int).tdiv 32 = ((i / 32 : Nat) : Int) := by rw [Int.tdiv_eq_ediv_of_nonneg (by omega)]; omega
  have d2 : (i : Int).tmod 32 = ((i % 32 : Nat) : Int) := by rw [Int.tmod_eq_emod_of_nonneg (by omega)]; omega
  have hs32 : i % 32 < 32 := Nat.mod_lt _ (by omega)
  have w0 : IntKind.i64.wrap (e - -1152) = i := by rw [wrap_i64 (by omega) (by omega)]; omega
  obtain ⟨q, hq⟩ : ∃ q, q = i / 32 := ⟨_, rfl⟩
  obtain ⟨r, hr⟩ : ∃ r, r = i % 32 := ⟨_, rfl⟩
  rw [← hq] at d1 hi
  rw [← hr] at d2 hs32
  rw [← hq, ← hr]
  have w1 : IntKind.i64.wrap (q : Int) = q := wrap_i64 (by omega) (by omega)
  have w2 : IntKind.u64.wrap (r : Int) = r := by rw [wU]; omega
  have w3 : IntKind.u64.wrap (64 - (r : Int)) = ((64 - r : Nat) : Int) := by rw [wU]; omega
  have v1 := shrU (a := mag) (n := 64 - r) (by omega)
  have v2 := shlM (a := mag) (n := r) (by omega)
  obtain ⟨z, hz⟩ : ∃ z, z = mag * 2 ^ r := ⟨_, rfl⟩
  have hzb : z ≤ 9007199254740992 * 2147483648 := by
    have hs : 2 ^ r ≤ 2147483648 := by
      rw [show 2147483648 = 2 ^ 31 by decide]; exact Nat.pow_le_pow_right (by omega) (by omega)
    rw [hz]; exact Nat.mul_le_mul (by omega) hs
  have hhi : mag / 2 ^ (64 - r) = z / 18446744073709551616 := by
    rw [hz, show 18446744073709551616 = 2 ^ (64 - r) * 2 ^ r by rw [← Nat.pow_add, show 64 - r + r = 64 by omega], Nat.mul_div_mul_right _ _ (Nat.two_pow_pos r)]
  rw [hhi] at v1
  rw [← hz] at v2 ⊢
  obtain ⟨lo, hlo⟩ : ∃ lo, lo = z % 18446744073709551616 := ⟨_, rfl⟩
  rw [← hlo] at v2
  have l1 := low32 (n := lo) (by omega)
  have l2 : shiftOp .shr .u64 (lo : Int) 32 = some (.int .u64 ((lo / 2 ^ 32 : Nat) : Int)) := shrU (a := lo) (n := 32) (by omega)
  have eA : lo % 4294967296 = z % 4294967296 := by omega
  have eB : lo / 2 ^ 32 = z / 4294967296 % 4294967296 := by rw [show 2 ^ 32 = 4294967296 by decide]; omega
  rw [eA] at l1
  rw [eB] at l2
  have hC4 : z / 18446744073709551616 < 4294967296 := by omega
  obtain ⟨x1, hx1⟩ : ∃ x, x = z % 4294967296 := ⟨_, rfl⟩
  obtain ⟨x2, hx2⟩ : ∃ x, x = z / 4294967296 % 4294967296 := ⟨_, rfl⟩
  obtain ⟨x3, hx3⟩ : ∃ x, x = z / 18446744073709551616 := ⟨_, rfl⟩
  have b1 : x1 < 4294967296 := by omega
  have b2 : x2 < 4294967296 := by omega
  have b3 : x3 < 4294967296 := by omega
  rw [← hx1] at l1
  rw [← hx2] at l2
  rw [← hx3] at v1
  rw [← hx1, ← hx2, ← hx3]
  have z0 : r = 0 → x3 = 0 := by
    intro h; subst h
    rw [hx3, hz, Nat.pow_zero, Nat.mul_one]; omega
  have g1 := getD_bound hb hB0 q
  have g2 := getD_bound hb hB0 (q + 1)
  have g3 := getD_bound hb hB0 (q + 2)
  have t1 : IntKind.i64.wrap (x1 : Int) = x1 := wrap_i64 (by omega) (by omega)
  have t2 : IntKind.i64.wrap (x2 : Int) = x2 := wrap_i64 (by omega) (by omega)
  have t3 : IntKind.i64.wrap (x3 : Int) = x3 := wrap_i64 (by omega) (by omega)
  have i2 : IntKind.i64.wrap ((q : Int) + 1) = ((q + 1 : Nat) : Int) := by rw [wrap_i64 (by omega) (by omega)]; omega
  have i3 : IntKind.i64.wrap ((q : Int) + 2) = ((q + 2 : Nat) : Int) := by rw [wrap_i64 (by omega) (by omega)]; omega
  obtain ⟨g, hg⟩ : ∃ g : Int, g = if s = true then -1 else 1 := ⟨_, rfl⟩
  have sgx : ∀ x : Nat, x < 4294967296 → IntKind.i64.wrap (g * (x : Int)) = sg s x := by
    intro x hx
    have : g * (x : Int) = sg s x := by subst hg; unfold sg; cases s <;> simp <;> omega
    rw [this]
    have := sg_le s (Nat.le_of_lt hx)
    exact wrap_i64 (by omega) (by omega)
  have m1 := sgx x1 b1
  have m2 := sgx x2 b2
  have m3 := sgx x3 b3
  have s1 := sg_le s (Nat.le_of_lt b1)
  have s2 := sg_le s (Nat.le_of_lt b2)
  have s3 := sg_le s (Nat.le_of_lt b3)
  obtain ⟨y1, hy1⟩ : ∃ y, y = sg s x1 := ⟨_, rfl⟩
  obtain ⟨y2, hy2⟩ : ∃ y, y = sg s x2 := ⟨_, rfl⟩
  obtain ⟨y3, hy3⟩ : ∃ y, y = sg s x3 := ⟨_, rfl⟩
  rw [← hy1] at m1 s1
  rw [← hy2] at m2 s2
  rw [← hy3] at m3 s3
  rw [← hy1, ← hy2, ← hy3]
  obtain ⟨c1, hc1⟩ : ∃ c, c = w.getD q 0 := ⟨_, rfl⟩
  obtain ⟨c2, hc2⟩ : ∃ c, c = w.getD (q + 1) 0 := ⟨_, rfl⟩
  obtain ⟨c3, hc3⟩ : ∃ c, c = w.getD (q + 2) 0 := ⟨_, rfl⟩
  rw [← hc1] at g1
  rw [← hc2] at g2
  rw [← hc3] at g3
  rw [← hc1, ← hc2, ← hc3]
  have wz : IntKind.i64.wrap 0 = 0 := rfl
  have a1 : IntKind.i64.wrap (c1 + y1) = c1 + y1 := wrap_i64 (by omega) (by omega)
  have a2 : IntKind.i64.wrap (c2 + y2) = c2 + y2 := wrap_i64 (by omega) (by omega)
  have a3 : IntKind.i64.wrap (c3 + y3) = c3 + y3 := wrap_i64 (by omega) (by omega)
  refine fw Tryz.func55 (by kernel_rfl) rfl (by kernel_rfl) fun C L T hT hS => ?_
  have hw1 := hw.put (w.set q (c1 + y1))
  have hw2 := hw1.put ((w.set q (c1 + y1)).set (q + 1) (c2 + y2))
  rw [putW_put] at hw2
  have n1 := hw.ix (T := T) (n := q) (k := .i64) hl hT.ty66 rfl hT.ty2 rfl (by omega)
  have o1 := hw.ld (T := T) (M := M) (n := q) (by omega) hT.ty2 rfl
  rw [← hc1] at o1
  have p1 := hw.st (T := T) (n := q) (x := c1 + y1) (by omega) hT.ty2 rfl
  have n2 := hw1.ix (T := T) (n := q + 1) (k := .i64) (by rw [List.length_set]; exact hl) hT.ty66 rfl hT.ty2 rfl (by omega)
  have o2 := hw1.ld (T := T) (M := M) (n := q + 1) (by rw [List.length_set]; omega) hT.ty2 rfl
  rw [show (w.set q (c1 + y1)).getD (q + 1) 0 = c2 by rw [hc2, List.getD_eq_getElem?_getD, List.getElem?_set_ne (by omega), ← List.getD_eq_getElem?_getD]] at o2
  have p2 := hw1.st (T := T) (n := q + 1) (x := c2 + y2) (by rw [List.length_set]; omega) hT.ty2 rfl
  rw [putW_put] at p2
  have n3 := hw2.ix (T := T) (n := q + 2) (k := .i64) (by rw [List.length_set, List.length_set]; exact hl) hT.ty66 rfl hT.ty2 rfl (by omega)
  have o3 := hw2.ld (T := T) (M := M) (n := q + 2) (by rw [List.length_set, List.length_set]; omega) hT.ty2 rfl
  rw [show ((w.set q (c1 + y1)).set (q + 1) (c2 + y2)).getD (q + 2) 0 = c3 by rw [hc3, List.getD_eq_getElem?_getD, List.getElem?_set_ne (by omega), List.getElem?_set_ne (by omega), ← List.getD_eq_getElem?_getD]] at o3
  have p3 := hw2.st (T := T) (n := q + 2) (x := c3 + y3) (by rw [List.length_set, List.length_set]; omega) hT.ty2 rfl
  rw [putW_put] at p3
  cases s
  · have c0 : ¬ m < 0 := by rw [hm]; show ¬ (mag : Int) < 0; omega
    have w4 : IntKind.u64.wrap m = mag := by rw [hm, wU]; show (mag : Int) % _ = _; omega
    rw [if_neg (by decide)] at hg
    subst hg
    have wm1 : IntKind.i64.wrap (1 * 0) = 0 := rfl
    by_cases z1 : r = 0
    · have z2 : ((r : Int) == 0) = true := by rw [beq_iff_eq]; omega
      have z3 := z0 z1
      have yz : y3 = 0 := by rw [hy3, z3]; exact sg_zero _
      rw [yz] at a3 p3 ⊢
      simp only [gX,gT,gM,gL,gB,wantedA,evOp,opv,absC,absC0,isAggT,resA,resultA,binA,eqA,eqGuardA,isConstA,isFlatScalar,strOp,ordB,readN,sliceCells,lenA,newA,buildA,fillA,buildSliceA,boundsA,bndA,sliceA,ptrOK,fieldAddrA,fieldA,indexA,extractA,convA,isIntT,biA,bytesOf,setAll,List.replicate,Nat.reduceAdd,Nat.reduceSub,Nat.reduceMul,Nat.reduceLT,Nat.reduceLeDiff,Nat.reduceEqDiff,Int.reduceEq,Int.reduceLT,Int.reduceLE,Int.reduceNe,Int.reduceAdd,Nat.reduceBEq,reduceCtorEq,lenB_nil,lenB_slice,lenB_oslice,lenB_str,lenB_agg,indexAddrA_slice,indexAddrA_oslice,indexAddrA_optr,loadA_optr,lenK,indexK,loadK,Int.reduceBEq,Int.reduceBNe,Int.reduceMod,Int.reduceDiv,Int.reduceTDiv,Int.reduceTMod,Int.reduceFDiv,Int.reduceSub,Int.reduceNeg,Int.reduceGT,Int.reduceGE,BitVec.reduceOfInt,BitVec.reduceAnd,BitVec.reduceOr,BitVec.reduceXOr,BitVec.reduceToNat,Int.reduceToNat,Int.reducePow,Int.reduceMul,hT.all,Tryz.f55,w0,d1,d2,w1,w2,w3,w4,c0,v1,v2,l1,l2,z2,wz,wm1,t1,t2,t3,i2,i3,n1,o1,p1,n2,o2,p2,n3,o3,p3,m1,m2,m3,a1,a2,a3]
    · have z2 : ((r : Int) == 0) = false := by rw [beq_eq_false_iff_ne]; omega
      simp only [gX,gT,gM,gL,gB,wantedA,evOp,opv,absC,absC0,isAggT,resA,resultA,binA,eqA,eqGuardA,isConstA,isFlatScalar,strOp,ordB,readN,sliceCells,lenA,newA,buildA,fillA,buildSliceA,boundsA,bndA,sliceA,ptrOK,fieldAddrA,fieldA,indexA,extractA,convA,isIntT,biA,bytesOf,setAll,List.replicate,Nat.reduceAdd,Nat.reduceSub,Nat.reduceMul,Nat.reduceLT,Nat.reduceLeDiff,Nat.reduceEqDiff,Int.reduceEq,Int.reduceLT,Int.reduceLE,Int.reduceNe,Int.reduceAdd,Nat.reduceBEq,reduceCtorEq,lenB_nil,lenB_slice,lenB_oslice,lenB_str,lenB_agg,indexAddrA_slice,indexAddrA_oslice,indexAddrA_optr,loadA_optr,lenK,indexK,loadK,Int.reduceBEq,Int.reduceBNe,Int.reduceMod,Int.reduceDiv,Int.reduceTDiv,Int.reduceTMod,Int.reduceFDiv,Int.reduceSub,Int.reduceNeg,Int.reduceGT,Int.reduceGE,BitVec.reduceOfInt,BitVec.reduceAnd,BitVec.reduceOr,BitVec.reduceXOr,BitVec.reduceToNat,Int.reduceToNat,Int.reducePow,Int.reduceMul,hT.all,Tryz.f55,w0,d1,d2,w1,w2,w3,w4,c0,v1,v2,l1,l2,z2,wz,wm1,t1,t2,t3,i2,i3,n1,o1,p1,n2,o2,p2,n3,o3,p3,m1,m2,m3,a1,a2,a3]
  · have c0 : m < 0 := by rw [hm]; show -(mag : Int) < 0; omega
    have w4 : IntKind.u64.wrap m = ((18446744073709551616 - mag : Nat) : Int) := by rw [hm, wU]; show (-(mag : Int)) % _ = _; omega
    have w5 : IntKind.u64.wrap (0 - ((18446744073709551616 - mag : Nat) : Int)) = mag := by rw [wU]; omega
    obtain ⟨y, hy⟩ : ∃ y, y = 18446744073709551616 - mag := ⟨_, rfl⟩
    rw [← hy] at w4 w5
    rw [if_pos (by decide)] at hg
    subst hg
    have wm1 : IntKind.i64.wrap (-1 * 0) = 0 := rfl
    by_cases z1 : r = 0
    · have z2 : ((r : Int) == 0) = true := by rw [beq_iff_eq]; omega
      have z3 := z0 z1
      have yz : y3 = 0 := by rw [hy3, z3]; exact sg_zero _
      rw [yz] at a3 p3 ⊢
      simp only [gX,gT,gM,gL,gB,wantedA,evOp,opv,absC,absC0,isAggT,resA,resultA,binA,eqA,eqGuardA,isConstA,isFlatScalar,strOp,ordB,readN,sliceCells,lenA,newA,buildA,fillA,buildSliceA,boundsA,bndA,sliceA,ptrOK,fieldAddrA,fieldA,indexA,extractA,convA,isIntT,biA,bytesOf,setAll,List.replicate,Nat.reduceAdd,Nat.reduceSub,Nat.reduceMul,Nat.reduceLT,Nat.reduceLeDiff,Nat.reduceEqDiff,Int.reduceEq,Int.reduceLT,Int.reduceLE,Int.reduceNe,Int.reduceAdd,Nat.reduceBEq,reduceCtorEq,lenB_nil,lenB_slice,lenB_oslice,lenB_str,lenB_agg,indexAddrA_slice,indexAddrA_oslice,indexAddrA_optr,loadA_optr,lenK,indexK,loadK,Int.reduceBEq,Int.reduceBNe,Int.reduceMod,Int.reduceDiv,Int.reduceTDiv,Int.reduceTMod,Int.reduceFDiv,Int.reduceSub,Int.reduceNeg,Int.reduceGT,Int.reduceGE,BitVec.reduceOfInt,BitVec.reduceAnd,BitVec.reduceOr,BitVec.reduceXOr,BitVec.reduceToNat,Int.reduceToNat,Int.reducePow,Int.reduceMul,hT.all,Tryz.f55,w0,d1,d2,w1,w2,w3,w4,w5,c0,v1,v2,l1,l2,z2,wz,wm1,t1,t2,t3,i2,i3,n1,o1,p1,n2,o2,p2,n3,o3,p3,m1,m2,m3,a1,a2,a3]
    · have z2 : ((r : Int) == 0) = false := by rw [beq_eq_false_iff_ne]; omega
      simp only [gX,gT,gM,gL,gB,wantedA,evOp,opv,absC,absC0,isAggT,resA,resultA,binA,eqA,eqGuardA,isConstA,isFlatScalar,strOp,ordB,readN,sliceCells,lenA,newA,buildA,fillA,buildSliceA,boundsA,bndA,sliceA,ptrOK,fieldAddrA,fieldA,indexA,extractA,convA,isIntT,biA,bytesOf,setAll,List.replicate,Nat.reduceAdd,Nat.reduceSub,Nat.reduceMul,Nat.reduceLT,Nat.reduceLeDiff,Nat.reduceEqDiff,Int.reduceEq,Int.reduceLT,Int.reduceLE,Int.reduceNe,Int.reduceAdd,Nat.reduceBEq,reduceCtorEq,lenB_nil,lenB_slice,lenB_oslice,lenB_str,lenB_agg,indexAddrA_slice,indexAddrA_oslice,indexAddrA_optr,loadA_optr,lenK,indexK,loadK,Int.reduceBEq,Int.reduceBNe,Int.reduceMod,Int.reduceDiv,Int.reduceTDiv,Int.reduceTMod,Int.reduceFDiv,Int.reduceSub,Int.reduceNeg,Int.reduceGT,Int.reduceGE,BitVec.reduceOfInt,BitVec.reduceAnd,BitVec.reduceOr,BitVec.reduceXOr,BitVec.reduceToNat,Int.reduceToNat,Int.reducePow,Int.reduceMul,hT.all,Tryz.f55,w0,d1,d2,w1,w2,w3,w4,w5,c0,v1,v2,l1,l2,z2,wz,wm1,t1,t2,t3,i2,i3,n1,o1,p1,n2,o2,p2,n3,o3,p3,m1,m2,m3,a1,a2,a3]

end Go.Proofs.YtpddepehlinfnaaGreatDoor.B
