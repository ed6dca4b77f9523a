/- Part of a claim: floats taken apart: Class, Frexp, Split, Exact (texts of the scalar seat). -/
import Derived.Test.YtaaecodkdgkjoaaDoorPG2
import Derived.Test.YtaaecodkdgkjoaaDoorPFN
set_option linter.unusedSimpArgs false
set_option linter.unusedVariables false
set_option maxRecDepth 100000
set_option maxHeartbeats 10000000
namespace Go.Proofs.YtaaecodkdgkjoaaDoor.SC
open Go Go.RowKit Go.Proofs.YtaaecodkdgkjoaaDoor.E Go.Proofs.YtaaecodkdgkjoaaDoor.FL Go.Proofs.YtaaecodkdgkjoaaDoor.B

theorem fpure {P : Program} {M : Addr → Option AV} {k : FuncId} {args : List AV} {r : AV} (ha : flats args = true) (hr : flat r = true) (h : SemF P M k args [] fun v _ => v = r) (H : Heap) : SemF P M k args H fun v h => v = r ∧ h = H :=
  SemF.pure ha (h.mono fun v _ e => ⟨by rw [e]; exact hr, e⟩) H

/-- A number of 64 bits. -/
def I64 (x : Int) : Prop := -9223372036854775808 ≤ x ∧ x < 9223372036854775808
theorem I64.wrap {x : Int} (h : I64 x) : IntKind.i64.wrap x = x := wrap_i64 h.1 h.2

theorem isNaN_of (n : Nat) : isNaN .f64 n = decide (9218868437227405312 < n % 9223372036854775808) := by
  have e : D.read n = D.read (D.word (n / 9223372036854775808 % 2 == 1) (n % 9223372036854775808)) := by
    have h := word_neg (s := (n / 9223372036854775808 % 2 == 1)) (r := n % 9223372036854775808) (Nat.mod_lt _ (by omega))
    unfold Ieee.Format.read
    rw [h.1, h.2]
    rfl
  unfold isNaN
  show (D.read n).isNaN = _
  rw [e]
  have hr : n % 9223372036854775808 < 9223372036854775808 := Nat.mod_lt _ (by omega)
  revert hr
  generalize n % 9223372036854775808 = r
  intro hr
  rcases Nat.lt_trichotomy r 9218868437227405312 with h | h | h
  · rw [read_word h, decide_eq_false (by omega)]; rfl
  · subst h; rw [read_inf]; rfl
  · rw [read_nan h hr, decide_eq_true h]; rfl

theorem ofInt_nat (n : Nat) : BitVec.ofInt 64 (n : Int) = BitVec.ofNat 64 n := by simp

theorem clr (n : Nat) : IntKind.u64.wrap (((BitVec.ofInt 64 (n : Int)) &&& ~~~ 9223372036854775808#64).toNat : Int) = (n % 9223372036854775808 : Nat) := by
  have e2 : (BitVec.ofNat 64 n &&& ~~~ 9223372036854775808#64).toNat = n % 9223372036854775808 := by
    rw [show (~~~ 9223372036854775808#64 : BitVec 64) = BitVec.ofNat 64 (2 ^ 63 - 1) by decide, BitVec.toNat_and, BitVec.toNat_ofNat, BitVec.toNat_ofNat]
    rw [Nat.mod_eq_of_lt (show 2 ^ 63 - 1 < 2 ^ 64 by decide), Nat.and_two_pow_sub_one_eq_mod]
    omega
  rw [ofInt_nat, e2]
  have w : ∀ x : Int, IntKind.u64.wrap x = x % 18446744073709551616 := fun _ => rfl
  rw [w]; omega

theorem sgn (n : Nat) (h : n < 18446744073709551616) : IntKind.u64.wrap (((BitVec.ofInt 64 (n : Int)) &&& 9223372036854775808#64).toNat : Int) = if 9223372036854775808 ≤ n then 9223372036854775808 else 0 := by
  have e2 : (BitVec.ofNat 64 n &&& 9223372036854775808#64).toNat = if 9223372036854775808 ≤ n then 9223372036854775808 else 0 := by
    rw [BitVec.toNat_and, BitVec.toNat_ofNat, BitVec.toNat_ofNat, Nat.mod_eq_of_lt (show n < 2 ^ 64 by omega), show 9223372036854775808 % 2 ^ 64 = 2 ^ 63 by decide]
    split
    · rw [show (9223372036854775808 : Nat) = 2 ^ 63 by decide]
      refine Nat.eq_of_testBit_eq fun i => ?_
      rw [Nat.testBit_and, Nat.testBit_two_pow]
      by_cases hi : 63 = i
      · subst hi
        rw [Nat.testBit_eq_decide_div_mod_eq, decide_eq_true (by omega)]; rfl
      · rw [decide_eq_false hi, Bool.and_false]
    · refine Nat.eq_of_testBit_eq fun i => ?_
      rw [Nat.testBit_and, Nat.testBit_two_pow, Nat.zero_testBit]
      by_cases hi : 63 = i
      · subst hi
        rw [Nat.testBit_eq_decide_div_mod_eq, decide_eq_false (by omega)]; rfl
      · rw [decide_eq_false hi, Bool.and_false]
  rw [ofInt_nat, e2]
  have w : ∀ x : Int, IntKind.u64.wrap x = x % 18446744073709551616 := fun _ => rfl
  rw [w]; split <;> rfl

theorem neq_nan {T : Tab} {t : TypeId} {x y : Operand} {b : Nat} (h : isNaN .f64 b = true) : binA T .neq t x y (.float .f64 b) (.float .f64 b) = some (.bool true) := by
  simp only [binA, fArith, order_nan_l h, ordB, if_true, Option.map_some]
  rfl
theorem order_self {b : Nat} (h : isNaN .f64 b = false) : FloatKind.f64.format.order b b = some .eq := by
  unfold isNaN at h
  unfold Ieee.Format.order
  cases hr : FloatKind.f64.format.read b with
  | number s m i => simp only [Ieee.Datum.order]; exact congrArg some Std.ReflCmp.compare_self
  | infinity s => simp only [Ieee.Datum.order]; exact congrArg some Std.ReflCmp.compare_self
  | nan s f => rw [hr] at h; simp [Ieee.Datum.isNaN] at h
theorem neq_num {T : Tab} {t : TypeId} {x y : Operand} {b : Nat} (h : isNaN .f64 b = false) : binA T .neq t x y (.float .f64 b) (.float .f64 b) = some (.bool false) := by
  simp only [binA, fArith, order_self h, ordB, if_true, Option.map_some]
  rfl
theorem neq_dec {T : Tab} {t : TypeId} {x y : Operand} {b : Nat} : binA T .neq t x y (.float .f64 b) (.float .f64 b) = some (.bool (isNaN .f64 b)) := by
  cases h : isNaN .f64 b
  · exact neq_num h
  · exact neq_nan h

theorem pBits (M : Addr → Option AV) (H : Heap) {w : Nat} (hn : isNaN .f64 w = false) : SemF Tryd.prog M 68 [.float .f64 w] H fun v h => v = .int .u64 w ∧ h = H :=
  X0_ok M 68 _ rfl _ _ _ _ (by simp only [bitsX, hn, and_self, if_true])
theorem pFrom (M : Addr → Option AV) (H : Heap) (n : Nat) : SemF Tryd.prog M 67 [.int .u64 n] H fun v h => v = .float .f64 n ∧ h = H :=
  X0_ok M 67 _ rfl _ _ _ _ (by simp only [unbitsX, if_true, Int.toNat_natCast])

/-- The bits told. -/
def Bw (n : Nat) : Nat := if isNaN .f64 n = true then 9221120237041090561 else n
theorem Bw_nan {n : Nat} (h : isNaN .f64 n = true) : Bw n = 9221120237041090561 := if_pos h
theorem Bw_num {n : Nat} (h : isNaN .f64 n = false) : Bw n = n := if_neg (by rw [h]; decide)
theorem sBits (M : Addr → Option AV) (H : Heap) (n : Nat) : SemF Tryd.prog M 104 [.float .f64 n] H fun v h => v = .int .u64 (Bw n : Nat) ∧ h = H := by
  cases hn : isNaN .f64 n
  · rw [Bw_num hn]
    refine fpure rfl rfl (fw Tryd.func104 (by kernel_rfl) rfl (by kernel_rfl) fun C L T hT hS => ?_) H
    simp only [gX,gT,gM,gL,gB,wantedA,evOp,opv,absC,absC0,isAggT,resA,resultA,eqA,eqGuardA,isConstA,isFlatScalar,shiftOp,strOp,ordB,readN,sliceCells,lenA,storeA,newA,buildA,fillA,buildSliceA,boundsA,bndA,sliceA,ptrOK,fieldAddrA,fieldA,indexA,extractA,convA,isIntT,biA,bytesOf,setAll,List.replicate,Nat.reduceAdd,Nat.reduceSub,Nat.reduceMul,Nat.reduceLT,Nat.reduceLeDiff,Nat.reduceEqDiff,Int.reduceEq,Int.reduceLT,Int.reduceLE,Int.reduceNe,Int.reduceAdd,Nat.reduceBEq,reduceCtorEq,lenB_nil,lenB_slice,lenB_oslice,lenB_str,lenB_agg,indexAddrA_slice,indexAddrA_oslice,indexAddrA_ptr,indexAddrA_optr,loadA_ptr,loadA_optr,lenK,indexK,loadK,Int.reduceBEq,Int.reduceBNe,Int.reduceMod,Int.reduceDiv,Int.reduceTDiv,Int.reduceTMod,Int.reduceFDiv,Int.reduceSub,Int.reduceNeg,Int.reduceGT,Int.reduceGE,BitVec.reduceOfInt,BitVec.reduceAnd,BitVec.reduceOr,BitVec.reduceXOr,BitVec.reduceToNat,Int.reduceToNat,Int.reducePow,Int.reduceMul,hT.all,Tryd.f104,neq_dec,hn]
    refine hS.one (pBits M _ hn) ?_
    simp only [gX,gT,gM,gL,gB,wantedA,evOp,opv,absC,absC0,isAggT,resA,resultA,binA,eqA,eqGuardA,isConstA,isFlatScalar,shiftOp,strOp,ordB,readN,sliceCells,lenA,storeA,newA,buildA,fillA,buildSliceA,boundsA,bndA,sliceA,ptrOK,fieldAddrA,fieldA,indexA,extractA,convA,isIntT,biA,bytesOf,setAll,List.replicate,Nat.reduceAdd,Nat.reduceSub,Nat.reduceMul,Nat.reduceLT,Nat.reduceLeDiff,Nat.reduceEqDiff,Int.reduceEq,Int.reduceLT,Int.reduceLE,Int.reduceNe,Int.reduceAdd,Nat.reduceBEq,reduceCtorEq,lenB_nil,lenB_slice,lenB_oslice,lenB_str,lenB_agg,indexAddrA_slice,indexAddrA_oslice,indexAddrA_ptr,indexAddrA_optr,loadA_ptr,loadA_optr,lenK,indexK,loadK,Int.reduceBEq,Int.reduceBNe,Int.reduceMod,Int.reduceDiv,Int.reduceTDiv,Int.reduceTMod,Int.reduceFDiv,Int.reduceSub,Int.reduceNeg,Int.reduceGT,Int.reduceGE,BitVec.reduceOfInt,BitVec.reduceAnd,BitVec.reduceOr,BitVec.reduceXOr,BitVec.reduceToNat,Int.reduceToNat,Int.reducePow,Int.reduceMul,hT.all]
  · rw [Bw_nan hn]
    refine fpure rfl rfl (fw Tryd.func104 (by kernel_rfl) rfl (by kernel_rfl) fun C L T hT hS => ?_) H
    simp only [gX,gT,gM,gL,gB,wantedA,evOp,opv,absC,absC0,isAggT,resA,resultA,eqA,eqGuardA,isConstA,isFlatScalar,shiftOp,strOp,ordB,readN,sliceCells,lenA,storeA,newA,buildA,fillA,buildSliceA,boundsA,bndA,sliceA,ptrOK,fieldAddrA,fieldA,indexA,extractA,convA,isIntT,biA,bytesOf,setAll,List.replicate,Nat.reduceAdd,Nat.reduceSub,Nat.reduceMul,Nat.reduceLT,Nat.reduceLeDiff,Nat.reduceEqDiff,Int.reduceEq,Int.reduceLT,Int.reduceLE,Int.reduceNe,Int.reduceAdd,Nat.reduceBEq,reduceCtorEq,lenB_nil,lenB_slice,lenB_oslice,lenB_str,lenB_agg,indexAddrA_slice,indexAddrA_oslice,indexAddrA_ptr,indexAddrA_optr,loadA_ptr,loadA_optr,lenK,indexK,loadK,Int.reduceBEq,Int.reduceBNe,Int.reduceMod,Int.reduceDiv,Int.reduceTDiv,Int.reduceTMod,Int.reduceFDiv,Int.reduceSub,Int.reduceNeg,Int.reduceGT,Int.reduceGE,BitVec.reduceOfInt,BitVec.reduceAnd,BitVec.reduceOr,BitVec.reduceXOr,BitVec.reduceToNat,Int.reduceToNat,Int.reducePow,Int.reduceMul,hT.all,Tryd.f104,neq_dec,hn]

theorem num_lt {n : Nat} (hn : isNaN .f64 n = false) : n % 9223372036854775808 ≤ 9218868437227405312 := by
  rw [isNaN_of, decide_eq_false_iff_not] at hn; omega

theorem binA_int {T : Tab} {op : BinOp} {t : TypeId} {x y : Operand} {k k' : IntKind} {a b : Int} : binA T op t x y (.int k a) (.int k' b) = (match op with | .shl => shiftOp .shl k a b | .shr => shiftOp .shr k a b | _ => if k = k' then intOp op k a b else none) := of_eq_true (eq_true rfl)

theorem gt_max {T : Tab} {t : TypeId} {x y : Operand} (s : Bool) {r : Nat} (hr : r ≤ 9218868437227405312) : binA T .gtr t x y (.float .f64 (D.word s r)) (.float .f64 9218868437227405311) = some (.bool (decide (s = false ∧ r = 9218868437227405312))) := by
  have e : (9218868437227405311 : Nat) = D.word false 9218868437227405311 := rfl
  have ho := order_word (s := s) (t := false) (r := r) (q := 9218868437227405311) hr (by omega)
  rw [← e] at ho
  simp only [binA, fArith, if_true]
  rw [show FloatKind.f64.format = D from rfl, ho]
  simp only [ordB, Option.map_some]
  congr 2
  have hv : 0 < V 9218868437227405311 := V_pos (by omega)
  rw [sval_false]
  cases s
  · rw [sval_false]
    by_cases h : r = 9218868437227405312
    · have hl := V_lt (r := 9218868437227405311) (s := r) (by omega)
      rw [compare_gt (by omega), decide_eq_true ⟨rfl, h⟩]; rfl
    · rw [decide_eq_false (fun hh => h hh.2)]
      rcases Nat.lt_or_ge r 9218868437227405311 with hl | hl
      · have hl := V_lt hl
        rw [compare_lt (by omega)]; rfl
      · rw [show r = 9218868437227405311 by omega, compare_eq]; rfl
  · rw [sval_true, compare_lt (by omega), decide_eq_false (fun hh => by cases hh.1)]; rfl

/-- A float's class. -/
def clsW (n : Nat) : Int := if isNaN .f64 n = true then 1 else if n % 9223372036854775808 = 9218868437227405312 then 2 else if n % 9223372036854775808 = 0 then 3 else if n % 9223372036854775808 < 4503599627370496 then 4 else 5

theorem shr52 {b : Nat} : shiftOp .shr .u64 (b : Int) 52 = some (.int .u64 (b / 4503599627370496 : Nat)) := by
  have e : shiftOp .shr .u64 (b : Int) 52 = some (.int .u64 ((b : Int).fdiv (2 ^ 52))) := rfl
  rw [e, Int.fdiv_eq_ediv_of_nonneg _ (by decide)]
  congr 2
theorem shl12 (b : Nat) : shiftOp .shl .u64 (b : Int) 12 = some (.int .u64 (b * 4096 % 18446744073709551616 : Nat)) := by
  have e : shiftOp .shl .u64 (b : Int) 12 = some (.int .u64 (((b : Int) * 2 ^ 12) % 18446744073709551616)) := rfl
  rw [e]
  congr 2
theorem and11 {e : Nat} (h : e < 18446744073709551616) : IntKind.u64.wrap (((BitVec.ofInt 64 (e : Int)) &&& 2047#64).toNat : Int) = (e % 2048 : Nat) := by
  have e2 : (BitVec.ofNat 64 e &&& 2047#64).toNat = e % 2048 := by
    rw [show (2047#64 : BitVec 64) = BitVec.ofNat 64 (2 ^ 11 - 1) by decide, BitVec.toNat_and, BitVec.toNat_ofNat, BitVec.toNat_ofNat]
    rw [Nat.mod_eq_of_lt (show 2 ^ 11 - 1 < 2 ^ 64 by decide), Nat.and_two_pow_sub_one_eq_mod]
    omega
  rw [ofInt_nat, e2]
  rw [wrap_u64 (by omega) (by omega)]

theorem sClass (M : Addr → Option AV) (H : Heap) {n : Nat} (h : n < 18446744073709551616) : SemF Tryd.prog M 89 [.float .f64 n] H fun v h => v = .int .i64 (clsW n) ∧ h = H := by
  unfold clsW
  have hbt := sBits M [] n
  cases hn : isNaN .f64 n
  · rw [if_neg (by decide)]
    rw [Bw_num hn] at hbt
    have hl := num_lt hn
    have w1 := shr52 (b := n)
    have w2 := shl12 n
    have w3 := and11 (e := n / 4503599627370496) (by omega)
    obtain ⟨x, hx⟩ : ∃ x, x = n / 4503599627370496 := ⟨_, rfl⟩
    obtain ⟨y, hy⟩ : ∃ y, y = n * 4096 % 18446744073709551616 := ⟨_, rfl⟩
    obtain ⟨z, hz⟩ : ∃ z, z = x % 2048 := ⟨_, rfl⟩
    rw [← hx] at w1 w3
    rw [← hy] at w2
    rw [← hz] at w3
    by_cases k2 : n % 9223372036854775808 = 9218868437227405312
    · rw [if_pos k2]
      have c2 : ((z : Int) == 2047) = true := by rw [beq_iff_eq]; omega
      refine fpure rfl rfl (fw Tryd.func89 (by kernel_rfl) rfl (by kernel_rfl) fun C L T hT hS => ?_) H
      simp only [gX,gT,gM,gL,gB,wantedA,evOp,opv,absC,absC0,isAggT,resA,resultA,binA,eqA,eqGuardA,isConstA,isFlatScalar,shiftOp,strOp,ordB,readN,sliceCells,lenA,storeA,newA,buildA,fillA,buildSliceA,boundsA,bndA,sliceA,ptrOK,fieldAddrA,fieldA,indexA,extractA,convA,isIntT,biA,bytesOf,setAll,List.replicate,Nat.reduceAdd,Nat.reduceSub,Nat.reduceMul,Nat.reduceLT,Nat.reduceLeDiff,Nat.reduceEqDiff,Int.reduceEq,Int.reduceLT,Int.reduceLE,Int.reduceNe,Int.reduceAdd,Nat.reduceBEq,reduceCtorEq,lenB_nil,lenB_slice,lenB_oslice,lenB_str,lenB_agg,indexAddrA_slice,indexAddrA_oslice,indexAddrA_ptr,indexAddrA_optr,loadA_ptr,loadA_optr,lenK,indexK,loadK,Int.reduceBEq,Int.reduceBNe,Int.reduceMod,Int.reduceDiv,Int.reduceTDiv,Int.reduceTMod,Int.reduceFDiv,Int.reduceSub,Int.reduceNeg,Int.reduceGT,Int.reduceGE,BitVec.reduceOfInt,BitVec.reduceAnd,BitVec.reduceOr,BitVec.reduceXOr,BitVec.reduceToNat,Int.reduceToNat,Int.reducePow,Int.reduceMul,hT.all,Tryd.f89]
      refine hS.one hbt ?_
      simp only [gX,gT,gM,gL,gB,wantedA,evOp,opv,absC,absC0,isAggT,resA,resultA,binA,eqA,eqGuardA,isConstA,isFlatScalar,strOp,ordB,readN,sliceCells,lenA,storeA,newA,buildA,fillA,buildSliceA,boundsA,bndA,sliceA,ptrOK,fieldAddrA,fieldA,indexA,extractA,convA,isIntT,biA,bytesOf,setAll,List.replicate,Nat.reduceAdd,Nat.reduceSub,Nat.reduceMul,Nat.reduceLT,Nat.reduceLeDiff,Nat.reduceEqDiff,Int.reduceEq,Int.reduceLT,Int.reduceLE,Int.reduceNe,Int.reduceAdd,Nat.reduceBEq,reduceCtorEq,lenB_nil,lenB_slice,lenB_oslice,lenB_str,lenB_agg,indexAddrA_slice,indexAddrA_oslice,indexAddrA_ptr,indexAddrA_optr,loadA_ptr,loadA_optr,lenK,indexK,loadK,Int.reduceBEq,Int.reduceBNe,Int.reduceMod,Int.reduceDiv,Int.reduceTDiv,Int.reduceTMod,Int.reduceFDiv,Int.reduceSub,Int.reduceNeg,Int.reduceGT,Int.reduceGE,BitVec.reduceOfInt,BitVec.reduceAnd,BitVec.reduceOr,BitVec.reduceXOr,BitVec.reduceToNat,Int.reduceToNat,Int.reducePow,Int.reduceMul,hT.all,w1,w3]
      refine hS.one hbt ?_
      simp only [gX,gT,gM,gL,gB,wantedA,evOp,opv,absC,absC0,isAggT,resA,resultA,eqA,eqGuardA,isConstA,isFlatScalar,strOp,ordB,readN,sliceCells,lenA,storeA,newA,buildA,fillA,buildSliceA,boundsA,bndA,sliceA,ptrOK,fieldAddrA,fieldA,indexA,extractA,convA,isIntT,biA,bytesOf,setAll,List.replicate,Nat.reduceAdd,Nat.reduceSub,Nat.reduceMul,Nat.reduceLT,Nat.reduceLeDiff,Nat.reduceEqDiff,Int.reduceEq,Int.reduceLT,Int.reduceLE,Int.reduceNe,Int.reduceAdd,Nat.reduceBEq,reduceCtorEq,lenB_nil,lenB_slice,lenB_oslice,lenB_str,lenB_agg,indexAddrA_slice,indexAddrA_oslice,indexAddrA_ptr,indexAddrA_optr,loadA_ptr,loadA_optr,lenK,indexK,loadK,Int.reduceBEq,Int.reduceBNe,Int.reduceMod,Int.reduceDiv,Int.reduceTDiv,Int.reduceTMod,Int.reduceFDiv,Int.reduceSub,Int.reduceNeg,Int.reduceGT,Int.reduceGE,BitVec.reduceOfInt,BitVec.reduceAnd,BitVec.reduceOr,BitVec.reduceXOr,BitVec.reduceToNat,Int.reduceToNat,Int.reducePow,Int.reduceMul,hT.all,w2,c2,neq_dec,hn,binA_int]
    rw [if_neg k2]
    have c2 : ((z : Int) == 2047) = false := by rw [beq_eq_false_iff_ne]; omega
    by_cases k3 : n % 9223372036854775808 = 0
    · rw [if_pos k3]
      have c3 : ((z : Int) == 0) = true := by rw [beq_iff_eq]; omega
      have c4 : ((y : Int) == 0) = true := by rw [beq_iff_eq]; omega
      refine fpure rfl rfl (fw Tryd.func89 (by kernel_rfl) rfl (by kernel_rfl) fun C L T hT hS => ?_) H
      simp only [gX,gT,gM,gL,gB,wantedA,evOp,opv,absC,absC0,isAggT,resA,resultA,binA,eqA,eqGuardA,isConstA,isFlatScalar,shiftOp,strOp,ordB,readN,sliceCells,lenA,storeA,newA,buildA,fillA,buildSliceA,boundsA,bndA,sliceA,ptrOK,fieldAddrA,fieldA,indexA,extractA,convA,isIntT,biA,bytesOf,setAll,List.replicate,Nat.reduceAdd,Nat.reduceSub,Nat.reduceMul,Nat.reduceLT,Nat.reduceLeDiff,Nat.reduceEqDiff,Int.reduceEq,Int.reduceLT,Int.reduceLE,Int.reduceNe,Int.reduceAdd,Nat.reduceBEq,reduceCtorEq,lenB_nil,lenB_slice,lenB_oslice,lenB_str,lenB_agg,indexAddrA_slice,indexAddrA_oslice,indexAddrA_ptr,indexAddrA_optr,loadA_ptr,loadA_optr,lenK,indexK,loadK,Int.reduceBEq,Int.reduceBNe,Int.reduceMod,Int.reduceDiv,Int.reduceTDiv,Int.reduceTMod,Int.reduceFDiv,Int.reduceSub,Int.reduceNeg,Int.reduceGT,Int.reduceGE,BitVec.reduceOfInt,BitVec.reduceAnd,BitVec.reduceOr,BitVec.reduceXOr,BitVec.reduceToNat,Int.reduceToNat,Int.reducePow,Int.reduceMul,hT.all,Tryd.f89]
      refine hS.one hbt ?_
      simp only [gX,gT,gM,gL,gB,wantedA,evOp,opv,absC,absC0,isAggT,resA,resultA,binA,eqA,eqGuardA,isConstA,isFlatScalar,strOp,ordB,readN,sliceCells,lenA,storeA,newA,buildA,fillA,buildSliceA,boundsA,bndA,sliceA,ptrOK,fieldAddrA,fieldA,indexA,extractA,convA,isIntT,biA,bytesOf,setAll,List.replicate,Nat.reduceAdd,Nat.reduceSub,Nat.reduceMul,Nat.reduceLT,Nat.reduceLeDiff,Nat.reduceEqDiff,Int.reduceEq,Int.reduceLT,Int.reduceLE,Int.reduceNe,Int.reduceAdd,Nat.reduceBEq,reduceCtorEq,lenB_nil,lenB_slice,lenB_oslice,lenB_str,lenB_agg,indexAddrA_slice,indexAddrA_oslice,indexAddrA_ptr,indexAddrA_optr,loadA_ptr,loadA_optr,lenK,indexK,loadK,Int.reduceBEq,Int.reduceBNe,Int.reduceMod,Int.reduceDiv,Int.reduceTDiv,Int.reduceTMod,Int.reduceFDiv,Int.reduceSub,Int.reduceNeg,Int.reduceGT,Int.reduceGE,BitVec.reduceOfInt,BitVec.reduceAnd,BitVec.reduceOr,BitVec.reduceXOr,BitVec.reduceToNat,Int.reduceToNat,Int.reducePow,Int.reduceMul,hT.all,w1,w3]
      refine hS.one hbt ?_
      simp only [gX,gT,gM,gL,gB,wantedA,evOp,opv,absC,absC0,isAggT,resA,resultA,eqA,eqGuardA,isConstA,isFlatScalar,strOp,ordB,readN,sliceCells,lenA,storeA,newA,buildA,fillA,buildSliceA,boundsA,bndA,sliceA,ptrOK,fieldAddrA,fieldA,indexA,extractA,convA,isIntT,biA,bytesOf,setAll,List.replicate,Nat.reduceAdd,Nat.reduceSub,Nat.reduceMul,Nat.reduceLT,Nat.reduceLeDiff,Nat.reduceEqDiff,Int.reduceEq,Int.reduceLT,Int.reduceLE,Int.reduceNe,Int.reduceAdd,Nat.reduceBEq,reduceCtorEq,lenB_nil,lenB_slice,lenB_oslice,lenB_str,lenB_agg,indexAddrA_slice,indexAddrA_oslice,indexAddrA_ptr,indexAddrA_optr,loadA_ptr,loadA_optr,lenK,indexK,loadK,Int.reduceBEq,Int.reduceBNe,Int.reduceMod,Int.reduceDiv,Int.reduceTDiv,Int.reduceTMod,Int.reduceFDiv,Int.reduceSub,Int.reduceNeg,Int.reduceGT,Int.reduceGE,BitVec.reduceOfInt,BitVec.reduceAnd,BitVec.reduceOr,BitVec.reduceXOr,BitVec.reduceToNat,Int.reduceToNat,Int.reducePow,Int.reduceMul,hT.all,w2,c2,c3,c4,neq_dec,hn,binA_int]
    rw [if_neg k3]
    by_cases k4 : n % 9223372036854775808 < 4503599627370496
    · rw [if_pos k4]
      have c3 : ((z : Int) == 0) = true := by rw [beq_iff_eq]; omega
      have c4 : ((y : Int) == 0) = false := by rw [beq_eq_false_iff_ne]; omega
      refine fpure rfl rfl (fw Tryd.func89 (by kernel_rfl) rfl (by kernel_rfl) fun C L T hT hS => ?_) H
      simp only [gX,gT,gM,gL,gB,wantedA,evOp,opv,absC,absC0,isAggT,resA,resultA,binA,eqA,eqGuardA,isConstA,isFlatScalar,shiftOp,strOp,ordB,readN,sliceCells,lenA,storeA,newA,buildA,fillA,buildSliceA,boundsA,bndA,sliceA,ptrOK,fieldAddrA,fieldA,indexA,extractA,convA,isIntT,biA,bytesOf,setAll,List.replicate,Nat.reduceAdd,Nat.reduceSub,Nat.reduceMul,Nat.reduceLT,Nat.reduceLeDiff,Nat.reduceEqDiff,Int.reduceEq,Int.reduceLT,Int.reduceLE,Int.reduceNe,Int.reduceAdd,Nat.reduceBEq,reduceCtorEq,lenB_nil,lenB_slice,lenB_oslice,lenB_str,lenB_agg,indexAddrA_slice,indexAddrA_oslice,indexAddrA_ptr,indexAddrA_optr,loadA_ptr,loadA_optr,lenK,indexK,loadK,Int.reduceBEq,Int.reduceBNe,Int.reduceMod,Int.reduceDiv,Int.reduceTDiv,Int.reduceTMod,Int.reduceFDiv,Int.reduceSub,Int.reduceNeg,Int.reduceGT,Int.reduceGE,BitVec.reduceOfInt,BitVec.reduceAnd,BitVec.reduceOr,BitVec.reduceXOr,BitVec.reduceToNat,Int.reduceToNat,Int.reducePow,Int.reduceMul,hT.all,Tryd.f89]
      refine hS.one hbt ?_
      simp only [gX,gT,gM,gL,gB,wantedA,evOp,opv,absC,absC0,isAggT,resA,resultA,binA,eqA,eqGuardA,isConstA,isFlatScalar,strOp,ordB,readN,sliceCells,lenA,storeA,newA,buildA,fillA,buildSliceA,boundsA,bndA,sliceA,ptrOK,fieldAddrA,fieldA,indexA,extractA,convA,isIntT,biA,bytesOf,setAll,List.replicate,Nat.reduceAdd,Nat.reduceSub,Nat.reduceMul,Nat.reduceLT,Nat.reduceLeDiff,Nat.reduceEqDiff,Int.reduceEq,Int.reduceLT,Int.reduceLE,Int.reduceNe,Int.reduceAdd,Nat.reduceBEq,reduceCtorEq,lenB_nil,lenB_slice,lenB_oslice,lenB_str,lenB_agg,indexAddrA_slice,indexAddrA_oslice,indexAddrA_ptr,indexAddrA_optr,loadA_ptr,loadA_optr,lenK,indexK,loadK,Int.reduceBEq,Int.reduceBNe,Int.reduceMod,Int.reduceDiv,Int.reduceTDiv,Int.reduceTMod,Int.reduceFDiv,Int.reduceSub,Int.reduceNeg,Int.reduceGT,Int.reduceGE,BitVec.reduceOfInt,BitVec.reduceAnd,BitVec.reduceOr,BitVec.reduceXOr,BitVec.reduceToNat,Int.reduceToNat,Int.reducePow,Int.reduceMul,hT.all,w1,w3]
      refine hS.one hbt ?_
      simp only [gX,gT,gM,gL,gB,wantedA,evOp,opv,absC,absC0,isAggT,resA,resultA,eqA,eqGuardA,isConstA,isFlatScalar,strOp,ordB,readN,sliceCells,lenA,storeA,newA,buildA,fillA,buildSliceA,boundsA,bndA,sliceA,ptrOK,fieldAddrA,fieldA,indexA,extractA,convA,isIntT,biA,bytesOf,setAll,List.replicate,Nat.reduceAdd,Nat.reduceSub,Nat.reduceMul,Nat.reduceLT,Nat.reduceLeDiff,Nat.reduceEqDiff,Int.reduceEq,Int.reduceLT,Int.reduceLE,Int.reduceNe,Int.reduceAdd,Nat.reduceBEq,reduceCtorEq,lenB_nil,lenB_slice,lenB_oslice,lenB_str,lenB_agg,indexAddrA_slice,indexAddrA_oslice,indexAddrA_ptr,indexAddrA_optr,loadA_ptr,loadA_optr,lenK,indexK,loadK,Int.reduceBEq,Int.reduceBNe,Int.reduceMod,Int.reduceDiv,Int.reduceTDiv,Int.reduceTMod,Int.reduceFDiv,Int.reduceSub,Int.reduceNeg,Int.reduceGT,Int.reduceGE,BitVec.reduceOfInt,BitVec.reduceAnd,BitVec.reduceOr,BitVec.reduceXOr,BitVec.reduceToNat,Int.reduceToNat,Int.reducePow,Int.reduceMul,hT.all,w2,c2,c3,c4,neq_dec,hn,binA_int]
    · rw [if_neg k4]
      have c3 : ((z : Int) == 0) = false := by rw [beq_eq_false_iff_ne]; omega
      refine fpure rfl rfl (fw Tryd.func89 (by kernel_rfl) rfl (by kernel_rfl) fun C L T hT hS => ?_) H
      simp only [gX,gT,gM,gL,gB,wantedA,evOp,opv,absC,absC0,isAggT,resA,resultA,binA,eqA,eqGuardA,isConstA,isFlatScalar,shiftOp,strOp,ordB,readN,sliceCells,lenA,storeA,newA,buildA,fillA,buildSliceA,boundsA,bndA,sliceA,ptrOK,fieldAddrA,fieldA,indexA,extractA,convA,isIntT,biA,bytesOf,setAll,List.replicate,Nat.reduceAdd,Nat.reduceSub,Nat.reduceMul,Nat.reduceLT,Nat.reduceLeDiff,Nat.reduceEqDiff,Int.reduceEq,Int.reduceLT,Int.reduceLE,Int.reduceNe,Int.reduceAdd,Nat.reduceBEq,reduceCtorEq,lenB_nil,lenB_slice,lenB_oslice,lenB_str,lenB_agg,indexAddrA_slice,indexAddrA_oslice,indexAddrA_ptr,indexAddrA_optr,loadA_ptr,loadA_optr,lenK,indexK,loadK,Int.reduceBEq,Int.reduceBNe,Int.reduceMod,Int.reduceDiv,Int.reduceTDiv,Int.reduceTMod,Int.reduceFDiv,Int.reduceSub,Int.reduceNeg,Int.reduceGT,Int.reduceGE,BitVec.reduceOfInt,BitVec.reduceAnd,BitVec.reduceOr,BitVec.reduceXOr,BitVec.reduceToNat,Int.reduceToNat,Int.reducePow,Int.reduceMul,hT.all,Tryd.f89]
      refine hS.one hbt ?_
      simp only [gX,gT,gM,gL,gB,wantedA,evOp,opv,absC,absC0,isAggT,resA,resultA,binA,eqA,eqGuardA,isConstA,isFlatScalar,strOp,ordB,readN,sliceCells,lenA,storeA,newA,buildA,fillA,buildSliceA,boundsA,bndA,sliceA,ptrOK,fieldAddrA,fieldA,indexA,extractA,convA,isIntT,biA,bytesOf,setAll,List.replicate,Nat.reduceAdd,Nat.reduceSub,Nat.reduceMul,Nat.reduceLT,Nat.reduceLeDiff,Nat.reduceEqDiff,Int.reduceEq,Int.reduceLT,Int.reduceLE,Int.reduceNe,Int.reduceAdd,Nat.reduceBEq,reduceCtorEq,lenB_nil,lenB_slice,lenB_oslice,lenB_str,lenB_agg,indexAddrA_slice,indexAddrA_oslice,indexAddrA_ptr,indexAddrA_optr,loadA_ptr,loadA_optr,lenK,indexK,loadK,Int.reduceBEq,Int.reduceBNe,Int.reduceMod,Int.reduceDiv,Int.reduceTDiv,Int.reduceTMod,Int.reduceFDiv,Int.reduceSub,Int.reduceNeg,Int.reduceGT,Int.reduceGE,BitVec.reduceOfInt,BitVec.reduceAnd,BitVec.reduceOr,BitVec.reduceXOr,BitVec.reduceToNat,Int.reduceToNat,Int.reducePow,Int.reduceMul,hT.all,w1,w3]
      refine hS.one hbt ?_
      simp only [gX,gT,gM,gL,gB,wantedA,evOp,opv,absC,absC0,isAggT,resA,resultA,eqA,eqGuardA,isConstA,isFlatScalar,strOp,ordB,readN,sliceCells,lenA,storeA,newA,buildA,fillA,buildSliceA,boundsA,bndA,sliceA,ptrOK,fieldAddrA,fieldA,indexA,extractA,convA,isIntT,biA,bytesOf,setAll,List.replicate,Nat.reduceAdd,Nat.reduceSub,Nat.reduceMul,Nat.reduceLT,Nat.reduceLeDiff,Nat.reduceEqDiff,Int.reduceEq,Int.reduceLT,Int.reduceLE,Int.reduceNe,Int.reduceAdd,Nat.reduceBEq,reduceCtorEq,lenB_nil,lenB_slice,lenB_oslice,lenB_str,lenB_agg,indexAddrA_slice,indexAddrA_oslice,indexAddrA_ptr,indexAddrA_optr,loadA_ptr,loadA_optr,lenK,indexK,loadK,Int.reduceBEq,Int.reduceBNe,Int.reduceMod,Int.reduceDiv,Int.reduceTDiv,Int.reduceTMod,Int.reduceFDiv,Int.reduceSub,Int.reduceNeg,Int.reduceGT,Int.reduceGE,BitVec.reduceOfInt,BitVec.reduceAnd,BitVec.reduceOr,BitVec.reduceXOr,BitVec.reduceToNat,Int.reduceToNat,Int.reducePow,Int.reduceMul,hT.all,w2,c2,c3,neq_dec,hn,binA_int]
  · rw [if_pos rfl]
    have w1 := shr52 (b := Bw n)
    have w2 := shl12 (Bw n)
    refine fpure rfl rfl (fw Tryd.func89 (by kernel_rfl) rfl (by kernel_rfl) fun C L T hT hS => ?_) H
    simp only [gX,gT,gM,gL,gB,wantedA,evOp,opv,absC,absC0,isAggT,resA,resultA,binA,eqA,eqGuardA,isConstA,isFlatScalar,shiftOp,strOp,ordB,readN,sliceCells,lenA,storeA,newA,buildA,fillA,buildSliceA,boundsA,bndA,sliceA,ptrOK,fieldAddrA,fieldA,indexA,extractA,convA,isIntT,biA,bytesOf,setAll,List.replicate,Nat.reduceAdd,Nat.reduceSub,Nat.reduceMul,Nat.reduceLT,Nat.reduceLeDiff,Nat.reduceEqDiff,Int.reduceEq,Int.reduceLT,Int.reduceLE,Int.reduceNe,Int.reduceAdd,Nat.reduceBEq,reduceCtorEq,lenB_nil,lenB_slice,lenB_oslice,lenB_str,lenB_agg,indexAddrA_slice,indexAddrA_oslice,indexAddrA_ptr,indexAddrA_optr,loadA_ptr,loadA_optr,lenK,indexK,loadK,Int.reduceBEq,Int.reduceBNe,Int.reduceMod,Int.reduceDiv,Int.reduceTDiv,Int.reduceTMod,Int.reduceFDiv,Int.reduceSub,Int.reduceNeg,Int.reduceGT,Int.reduceGE,BitVec.reduceOfInt,BitVec.reduceAnd,BitVec.reduceOr,BitVec.reduceXOr,BitVec.reduceToNat,Int.reduceToNat,Int.reducePow,Int.reduceMul,hT.all,Tryd.f89]
    refine hS.one hbt ?_
    simp only [gX,gT,gM,gL,gB,wantedA,evOp,opv,absC,absC0,isAggT,resA,resultA,binA,eqA,eqGuardA,isConstA,isFlatScalar,strOp,ordB,readN,sliceCells,lenA,storeA,newA,buildA,fillA,buildSliceA,boundsA,bndA,sliceA,ptrOK,fieldAddrA,fieldA,indexA,extractA,convA,isIntT,biA,bytesOf,setAll,List.replicate,Nat.reduceAdd,Nat.reduceSub,Nat.reduceMul,Nat.reduceLT,Nat.reduceLeDiff,Nat.reduceEqDiff,Int.reduceEq,Int.reduceLT,Int.reduceLE,Int.reduceNe,Int.reduceAdd,Nat.reduceBEq,reduceCtorEq,lenB_nil,lenB_slice,lenB_oslice,lenB_str,lenB_agg,indexAddrA_slice,indexAddrA_oslice,indexAddrA_ptr,indexAddrA_optr,loadA_ptr,loadA_optr,lenK,indexK,loadK,Int.reduceBEq,Int.reduceBNe,Int.reduceMod,Int.reduceDiv,Int.reduceTDiv,Int.reduceTMod,Int.reduceFDiv,Int.reduceSub,Int.reduceNeg,Int.reduceGT,Int.reduceGE,BitVec.reduceOfInt,BitVec.reduceAnd,BitVec.reduceOr,BitVec.reduceXOr,BitVec.reduceToNat,Int.reduceToNat,Int.reducePow,Int.reduceMul,hT.all,w1]
    refine hS.one hbt ?_
    simp only [gX,gT,gM,gL,gB,wantedA,evOp,opv,absC,absC0,isAggT,resA,resultA,eqA,eqGuardA,isConstA,isFlatScalar,strOp,ordB,readN,sliceCells,lenA,storeA,newA,buildA,fillA,buildSliceA,boundsA,bndA,sliceA,ptrOK,fieldAddrA,fieldA,indexA,extractA,convA,isIntT,biA,bytesOf,setAll,List.replicate,Nat.reduceAdd,Nat.reduceSub,Nat.reduceMul,Nat.reduceLT,Nat.reduceLeDiff,Nat.reduceEqDiff,Int.reduceEq,Int.reduceLT,Int.reduceLE,Int.reduceNe,Int.reduceAdd,Nat.reduceBEq,reduceCtorEq,lenB_nil,lenB_slice,lenB_oslice,lenB_str,lenB_agg,indexAddrA_slice,indexAddrA_oslice,indexAddrA_ptr,indexAddrA_optr,loadA_ptr,loadA_optr,lenK,indexK,loadK,Int.reduceBEq,Int.reduceBNe,Int.reduceMod,Int.reduceDiv,Int.reduceTDiv,Int.reduceTMod,Int.reduceFDiv,Int.reduceSub,Int.reduceNeg,Int.reduceGT,Int.reduceGE,BitVec.reduceOfInt,BitVec.reduceAnd,BitVec.reduceOr,BitVec.reduceXOr,BitVec.reduceToNat,Int.reduceToNat,Int.reducePow,Int.reduceMul,hT.all,w2,neq_dec,hn,binA_int]

theorem wU (x : Int) : IntKind.u64.wrap x = x % 18446744073709551616 := rfl

theorem shrU {a n : Nat} (hn : n ≤ 64) : shiftOp .shr .u64 (a : Int) (n : Int) = some (.int .u64 ((a / 2 ^ n : Nat) : Int)) := by
  unfold shiftOp
  rw [if_neg (by omega)]
  have e : min ((n : Int).toNat) (IntKind.bits .u64) = n := by
    show min ((n : Int).toNat) 64 = n
    omega
  simp only [e]
  congr 2
  rw [Int.fdiv_eq_ediv_of_nonneg _ (Int.le_of_lt (Int.pow_pos (by omega)))]
  rw [Int.natCast_ediv, Int.natCast_pow]; rfl

theorem and64 {a b : Nat} (ha : a < 18446744073709551616) (hb : b < 18446744073709551616) : IntKind.u64.wrap (((BitVec.ofInt 64 (a : Int)) &&& (BitVec.ofInt 64 (b : Int))).toNat : Int) = ((a &&& b : Nat) : Int) := by
  have e : (BitVec.ofNat 64 a &&& BitVec.ofNat 64 b).toNat = a &&& b := by
    rw [BitVec.toNat_and, BitVec.toNat_ofNat, BitVec.toNat_ofNat, Nat.mod_eq_of_lt (by omega), Nat.mod_eq_of_lt (by omega)]
  rw [ofInt_nat, ofInt_nat, e, wU]
  have : a &&& b ≤ a := Nat.and_le_left
  omega

def isU8 (o : Option AV) (k : Nat) : Bool := match o with | some (.int .u8 n) => n == k | _ => false
theorem isU8_eq {o : Option AV} {k : Nat} (h : isU8 o k = true) : o = some (.int .u8 k) := by
  unfold isU8 at h
  split at h
  · rw [beq_iff_eq] at h; rw [h]
  · cases h

theorem addr_add (b i : Nat) : (⟨b, 0, none⟩ : Addr).add ((i : Int)).toNat = ⟨b, i, none⟩ := by
  unfold Addr.add
  rw [Int.toNat_natCast]
  split
  · rename_i h; rw [h]
  · rw [Nat.zero_add]
theorem load_cell {M : Addr → Option AV} {b i : Nat} {v : AV} (h : M ⟨b, i, none⟩ = some v) : List.mapM (fun j => Mc M ((⟨b, i, none⟩ : Addr).add j)) (List.range 1) = some [v] := by
  have e : (⟨b, i, none⟩ : Addr).add 0 = ⟨b, i, none⟩ := rfl
  rw [show List.range 1 = [0] by rfl, List.mapM_cons, List.mapM_nil, e]
  unfold Mc
  simp [h]

theorem deBruijn : ((List.range 64).all fun k => isU8 (tabM ⟨4, 2 ^ k * 285870213051353865 % 18446744073709551616 / 288230376151711744, none⟩) k && decide (2 ^ k * 285870213051353865 % 18446744073709551616 / 288230376151711744 < 64)) = true := by kernel_rfl

theorem pTrail (M : Addr → Option AV) (hM : ∀ a v, tabM a = some v → M a = some v) (H : Heap) {x k : Nat} (h0 : x ≠ 0) (h : x < 18446744073709551616) (hk : x &&& (18446744073709551616 - x) = 2 ^ k) (hk2 : k < 64) :
    SemF Tryd.prog M 91 [.int .u64 x] H fun v h => v = .int .i64 k ∧ h = H := by
  have b0 : ((x : Int) == 0) = false := by rw [beq_eq_false_iff_ne]; omega
  have w1 : IntKind.u64.wrap (0 - (x : Int)) = (18446744073709551616 - x : Nat) := by rw [wU]; omega
  have w2 := and64 (a := x) (b := 18446744073709551616 - x) h (by omega)
  rw [hk] at w2
  have hd := List.all_eq_true.1 deBruijn k (List.mem_range.2 hk2)
  simp only [Bool.and_eq_true, decide_eq_true_eq] at hd
  have hld := hM _ _ (isU8_eq hd.1)
  have hlt := hd.2
  have w3 : IntKind.u64.wrap (((2 ^ k : Nat) : Int) * 285870213051353865) = ((2 ^ k * 285870213051353865 % 18446744073709551616 : Nat) : Int) := by rw [wU]; omega
  have w4 := shrU (a := 2 ^ k * 285870213051353865 % 18446744073709551616) (n := 58) (by omega)
  rw [show ((58 : Nat) : Int) = 58 by rfl, show 2 ^ 58 = 288230376151711744 by decide] at w4
  have w5 : IntKind.i64.wrap ((k : Nat) : Int) = k := wrap_i64 (by omega) (by omega)
  obtain ⟨y, hy⟩ : ∃ y, y = 18446744073709551616 - x := ⟨_, rfl⟩
  obtain ⟨z, hz⟩ : ∃ z, z = 2 ^ k := ⟨_, rfl⟩
  rw [← hy] at w1 w2
  rw [← hz] at w2 w3 w4 hld hlt
  obtain ⟨q, hq⟩ : ∃ q, q = z * 285870213051353865 % 18446744073709551616 := ⟨_, rfl⟩
  rw [← hq] at w3 w4 hld hlt
  obtain ⟨i, hi⟩ : ∃ i, i = q / 288230376151711744 := ⟨_, rfl⟩
  rw [← hi] at w4 hld hlt
  have c1 : (0 : Int) ≤ (i : Int) ∧ (i : Int) < 64 := by omega
  have ha := addr_add 4 i
  have hlc := load_cell hld
  refine fpure rfl rfl (fw Tryd.func91 (by kernel_rfl) rfl (by kernel_rfl) fun C L T hT hS => ?_) H
  simp only [gX,gT,gM,gL,gB,wantedA,evOp,opv,absC,absC0,isAggT,resA,resultA,binA,eqA,eqGuardA,isConstA,isFlatScalar,strOp,ordB,readN,sliceCells,lenA,storeA,newA,buildA,fillA,buildSliceA,boundsA,bndA,sliceA,ptrOK,fieldAddrA,fieldA,indexA,extractA,convA,isIntT,biA,bytesOf,setAll,List.replicate,Nat.reduceAdd,Nat.reduceSub,Nat.reduceMul,Nat.reduceLT,Nat.reduceLeDiff,Nat.reduceEqDiff,Int.reduceEq,Int.reduceLT,Int.reduceLE,Int.reduceNe,Int.reduceAdd,Nat.reduceBEq,reduceCtorEq,lenB_nil,lenB_slice,lenB_oslice,lenB_str,lenB_agg,indexAddrA_slice,indexAddrA_oslice,indexAddrA_ptr,indexAddrA_optr,loadA_ptr,loadA_optr,lenK,indexK,loadK,Int.reduceBEq,Int.reduceBNe,Int.reduceMod,Int.reduceDiv,Int.reduceTDiv,Int.reduceTMod,Int.reduceFDiv,Int.reduceSub,Int.reduceNeg,Int.reduceGT,Int.reduceGE,BitVec.reduceOfInt,BitVec.reduceAnd,BitVec.reduceOr,BitVec.reduceXOr,BitVec.reduceToNat,Int.reduceToNat,Int.reducePow,Int.reduceMul,hT.all,Tryd.f91,b0,w1,w2,w3,w4,w5,c1,ha,hlc]

theorem pAbs (M : Addr → Option AV) (H : Heap) {n : Nat} (hn : isNaN .f64 n = false) : SemF Tryd.prog M 47 [.float .f64 n] H fun v h => v = .float .f64 (n % 9223372036854775808) ∧ h = H := by
  have w1 := clr n
  refine fpure rfl rfl (fw Tryd.func47 (by kernel_rfl) rfl (by kernel_rfl) fun C L T hT hS => ?_) H
  simp only [gX,gT,gM,gL,gB,wantedA,evOp,opv,absC,absC0,isAggT,resA,resultA,binA,eqA,eqGuardA,isConstA,isFlatScalar,shiftOp,strOp,ordB,readN,sliceCells,lenA,storeA,newA,buildA,fillA,buildSliceA,boundsA,bndA,sliceA,ptrOK,fieldAddrA,fieldA,indexA,extractA,convA,isIntT,biA,bytesOf,setAll,List.replicate,Nat.reduceAdd,Nat.reduceSub,Nat.reduceMul,Nat.reduceLT,Nat.reduceLeDiff,Nat.reduceEqDiff,Int.reduceEq,Int.reduceLT,Int.reduceLE,Int.reduceNe,Int.reduceAdd,Nat.reduceBEq,reduceCtorEq,lenB_nil,lenB_slice,lenB_oslice,lenB_str,lenB_agg,indexAddrA_slice,indexAddrA_oslice,indexAddrA_ptr,indexAddrA_optr,loadA_ptr,loadA_optr,lenK,indexK,loadK,Int.reduceBEq,Int.reduceBNe,Int.reduceMod,Int.reduceDiv,Int.reduceTDiv,Int.reduceTMod,Int.reduceFDiv,Int.reduceSub,Int.reduceNeg,Int.reduceGT,Int.reduceGE,BitVec.reduceOfInt,BitVec.reduceAnd,BitVec.reduceOr,BitVec.reduceXOr,BitVec.reduceToNat,Int.reduceToNat,Int.reducePow,Int.reduceMul,hT.all,Tryd.f47]
  refine hS.one (pBits M _ hn) ?_
  simp only [gX,gT,gM,gL,gB,wantedA,evOp,opv,absC,absC0,isAggT,resA,resultA,binA,eqA,eqGuardA,isConstA,isFlatScalar,shiftOp,strOp,ordB,readN,sliceCells,lenA,storeA,newA,buildA,fillA,buildSliceA,boundsA,bndA,sliceA,ptrOK,fieldAddrA,fieldA,indexA,extractA,convA,isIntT,biA,bytesOf,setAll,List.replicate,Nat.reduceAdd,Nat.reduceSub,Nat.reduceMul,Nat.reduceLT,Nat.reduceLeDiff,Nat.reduceEqDiff,Int.reduceEq,Int.reduceLT,Int.reduceLE,Int.reduceNe,Int.reduceAdd,Nat.reduceBEq,reduceCtorEq,lenB_nil,lenB_slice,lenB_oslice,lenB_str,lenB_agg,indexAddrA_slice,indexAddrA_oslice,indexAddrA_ptr,indexAddrA_optr,loadA_ptr,loadA_optr,lenK,indexK,loadK,Int.reduceBEq,Int.reduceBNe,Int.reduceMod,Int.reduceDiv,Int.reduceTDiv,Int.reduceTMod,Int.reduceFDiv,Int.reduceSub,Int.reduceNeg,Int.reduceGT,Int.reduceGE,BitVec.reduceOfInt,BitVec.reduceAnd,BitVec.reduceOr,BitVec.reduceXOr,BitVec.reduceToNat,Int.reduceToNat,Int.reducePow,Int.reduceMul,hT.all,w1]
  refine hS.one (pFrom M _ _) ?_
  simp only [gX,gT,gM,gL,gB,wantedA,evOp,opv,absC,absC0,isAggT,resA,resultA,binA,eqA,eqGuardA,isConstA,isFlatScalar,shiftOp,strOp,ordB,readN,sliceCells,lenA,storeA,newA,buildA,fillA,buildSliceA,boundsA,bndA,sliceA,ptrOK,fieldAddrA,fieldA,indexA,extractA,convA,isIntT,biA,bytesOf,setAll,List.replicate,Nat.reduceAdd,Nat.reduceSub,Nat.reduceMul,Nat.reduceLT,Nat.reduceLeDiff,Nat.reduceEqDiff,Int.reduceEq,Int.reduceLT,Int.reduceLE,Int.reduceNe,Int.reduceAdd,Nat.reduceBEq,reduceCtorEq,lenB_nil,lenB_slice,lenB_oslice,lenB_str,lenB_agg,indexAddrA_slice,indexAddrA_oslice,indexAddrA_ptr,indexAddrA_optr,loadA_ptr,loadA_optr,lenK,indexK,loadK,Int.reduceBEq,Int.reduceBNe,Int.reduceMod,Int.reduceDiv,Int.reduceTDiv,Int.reduceTMod,Int.reduceFDiv,Int.reduceSub,Int.reduceNeg,Int.reduceGT,Int.reduceGE,BitVec.reduceOfInt,BitVec.reduceAnd,BitVec.reduceOr,BitVec.reduceXOr,BitVec.reduceToNat,Int.reduceToNat,Int.reducePow,Int.reduceMul,hT.all]

theorem pIsInf0 (M : Addr → Option AV) (H : Heap) {n : Nat} (hn : isNaN .f64 n = false) : SemF Tryd.prog M 84 [.float .f64 n, .int .i64 0] H fun v h => v = .bool (decide (n % 9223372036854775808 = 9218868437227405312)) ∧ h = H := by
  have hm := num_lt hn
  obtain ⟨r, hr⟩ : ∃ r, r = n % 9223372036854775808 := ⟨_, rfl⟩
  have ha := pAbs M [] hn
  rw [← hr] at ha hm ⊢
  have e1 : ∀ T t x y, binA T .gtr t x y (.float .f64 r) (.float .f64 9218868437227405311) = some (.bool (decide (r = 9218868437227405312))) := by
    intro T t x y
    have := gt_max (T := T) (t := t) (x := x) (y := y) false hm
    rw [show D.word false r = r by rfl] at this
    rw [this]
    congr 2
    rw [decide_eq_decide]
    exact ⟨fun h => h.2, fun h => ⟨rfl, h⟩⟩
  refine fpure rfl rfl (fw Tryd.func84 (by kernel_rfl) rfl (by kernel_rfl) fun C L T hT hS => ?_) H
  simp only [gX,gT,gM,gL,gB,wantedA,evOp,opv,absC,absC0,isAggT,resA,resultA,eqA,eqGuardA,isConstA,isFlatScalar,shiftOp,strOp,ordB,readN,sliceCells,lenA,storeA,newA,buildA,fillA,buildSliceA,boundsA,bndA,sliceA,ptrOK,fieldAddrA,fieldA,indexA,extractA,convA,isIntT,biA,bytesOf,setAll,List.replicate,Nat.reduceAdd,Nat.reduceSub,Nat.reduceMul,Nat.reduceLT,Nat.reduceLeDiff,Nat.reduceEqDiff,Int.reduceEq,Int.reduceLT,Int.reduceLE,Int.reduceNe,Int.reduceAdd,Nat.reduceBEq,reduceCtorEq,lenB_nil,lenB_slice,lenB_oslice,lenB_str,lenB_agg,indexAddrA_slice,indexAddrA_oslice,indexAddrA_ptr,indexAddrA_optr,loadA_ptr,loadA_optr,lenK,indexK,loadK,Int.reduceBEq,Int.reduceBNe,Int.reduceMod,Int.reduceDiv,Int.reduceTDiv,Int.reduceTMod,Int.reduceFDiv,Int.reduceSub,Int.reduceNeg,Int.reduceGT,Int.reduceGE,BitVec.reduceOfInt,BitVec.reduceAnd,BitVec.reduceOr,BitVec.reduceXOr,BitVec.reduceToNat,Int.reduceToNat,Int.reducePow,Int.reduceMul,hT.all,Tryd.f84,binA_int]
  refine hS.one ha ?_
  simp only [gX,gT,gM,gL,gB,wantedA,evOp,opv,absC,absC0,isAggT,resA,resultA,eqA,eqGuardA,isConstA,isFlatScalar,shiftOp,strOp,ordB,readN,sliceCells,lenA,storeA,newA,buildA,fillA,buildSliceA,boundsA,bndA,sliceA,ptrOK,fieldAddrA,fieldA,indexA,extractA,convA,isIntT,biA,bytesOf,setAll,List.replicate,Nat.reduceAdd,Nat.reduceSub,Nat.reduceMul,Nat.reduceLT,Nat.reduceLeDiff,Nat.reduceEqDiff,Int.reduceEq,Int.reduceLT,Int.reduceLE,Int.reduceNe,Int.reduceAdd,Nat.reduceBEq,reduceCtorEq,lenB_nil,lenB_slice,lenB_oslice,lenB_str,lenB_agg,indexAddrA_slice,indexAddrA_oslice,indexAddrA_ptr,indexAddrA_optr,loadA_ptr,loadA_optr,lenK,indexK,loadK,Int.reduceBEq,Int.reduceBNe,Int.reduceMod,Int.reduceDiv,Int.reduceTDiv,Int.reduceTMod,Int.reduceFDiv,Int.reduceSub,Int.reduceNeg,Int.reduceGT,Int.reduceGE,BitVec.reduceOfInt,BitVec.reduceAnd,BitVec.reduceOr,BitVec.reduceXOr,BitVec.reduceToNat,Int.reduceToNat,Int.reducePow,Int.reduceMul,hT.all,e1]

theorem pIsNaN (M : Addr → Option AV) (H : Heap) (n : Nat) : SemF Tryd.prog M 85 [.float .f64 n] H fun v h => v = .bool (isNaN .f64 n) ∧ h = H := by
  refine fpure rfl rfl (fw Tryd.func85 (by kernel_rfl) rfl (by kernel_rfl) fun C L T hT hS => ?_) H
  simp only [gX,gT,gM,gL,gB,wantedA,evOp,opv,absC,absC0,isAggT,resA,resultA,eqA,eqGuardA,isConstA,isFlatScalar,shiftOp,strOp,ordB,readN,sliceCells,lenA,storeA,newA,buildA,fillA,buildSliceA,boundsA,bndA,sliceA,ptrOK,fieldAddrA,fieldA,indexA,extractA,convA,isIntT,biA,bytesOf,setAll,List.replicate,Nat.reduceAdd,Nat.reduceSub,Nat.reduceMul,Nat.reduceLT,Nat.reduceLeDiff,Nat.reduceEqDiff,Int.reduceEq,Int.reduceLT,Int.reduceLE,Int.reduceNe,Int.reduceAdd,Nat.reduceBEq,reduceCtorEq,lenB_nil,lenB_slice,lenB_oslice,lenB_str,lenB_agg,indexAddrA_slice,indexAddrA_oslice,indexAddrA_ptr,indexAddrA_optr,loadA_ptr,loadA_optr,lenK,indexK,loadK,Int.reduceBEq,Int.reduceBNe,Int.reduceMod,Int.reduceDiv,Int.reduceTDiv,Int.reduceTMod,Int.reduceFDiv,Int.reduceSub,Int.reduceNeg,Int.reduceGT,Int.reduceGE,BitVec.reduceOfInt,BitVec.reduceAnd,BitVec.reduceOr,BitVec.reduceXOr,BitVec.reduceToNat,Int.reduceToNat,Int.reducePow,Int.reduceMul,hT.all,Tryd.f85,neq_dec]

/-- The least normal number. -/
theorem lt_word {T : Tab} {t : TypeId} {x y : Operand} {r q : Nat} (hr : r ≤ 9218868437227405312) (hq : q ≤ 9218868437227405312) : binA T .lss t x y (.float .f64 r) (.float .f64 q) = some (.bool (decide (r < q))) := by
  have ho := order_word (s := false) (t := false) (r := r) (q := q) hr hq
  rw [show D.word false r = r by rfl, show D.word false q = q by rfl, sval_false, sval_false] at ho
  simp only [binA, fArith, if_true]
  rw [show FloatKind.f64.format = D from rfl, ho]
  simp only [ordB, Option.map_some]
  congr 2
  rcases Nat.lt_trichotomy r q with h | h | h
  · have hl := V_lt h
    rw [compare_lt (by omega), decide_eq_true h]; rfl
  · rw [h, compare_eq, decide_eq_false (by omega)]; rfl
  · have hl := V_lt h
    rw [compare_gt (by omega), decide_eq_false (by omega)]; rfl
theorem lt_normal {T : Tab} {t : TypeId} {x y : Operand} {r : Nat} (hr : r ≤ 9218868437227405312) : binA T .lss t x y (.float .f64 r) (.float .f64 4503599627370496) = some (.bool (decide (r < 4503599627370496))) := lt_word hr (by omega)

theorem mul_bin {x y w : Nat} (h : D.mul x y = some w) (T : Tab) (t : TypeId) (o p : Operand) : binA T .mul t o p (.float .f64 x) (.float .f64 y) = some (.float .f64 w) := by
  simp only [binA, fArith, if_true]
  rw [show FloatKind.f64.format = D from rfl, h]
  rfl

/-- A number made normal. -/
def normR (r : Nat) : Nat := if r < 4503599627370496 then rung r (-1022) else r
def normE (r : Nat) : Int := if r < 4503599627370496 then -52 else 0

theorem pNormalize (M : Addr → Option AV) (H : Heap) {n r : Nat} {s : Bool} (hn : n = D.word s r) (hr : r < 9218868437227405312) : SemF Tryd.prog M 86 [.float .f64 n] H fun v h => v = .tup [.float .f64 (D.word s (normR r)), .int .i64 (normE r)] ∧ h = H := by
  have hw := word_neg (s := s) (r := r) (by omega)
  rw [← hn, d_sw] at hw
  have hnn : isNaN .f64 n = false := by rw [isNaN_of, decide_eq_false_iff_not]; omega
  have ha := pAbs M [] hnn
  rw [hw.2] at ha
  have hl := fun T t x y => lt_normal (T := T) (t := t) (x := x) (y := y) (r := r) (by omega)
  unfold normR normE
  by_cases c : r < 4503599627370496
  · rw [if_pos c, if_pos c]
    simp only [decide_eq_true c] at hl
    have hm := mul_pow (s := s) (r := r) (k := 52) hr (by omega) (by omega)
    obtain ⟨e1, e2⟩ := mag_small (r := r) (by omega)
    rw [e1, e2, ← hn, show (1023 + 52 : Int).toNat * 4503599627370496 = 4841369599423283200 by decide, show (-1074 + ((0 : Nat) : Int) + 52) = -1022 by decide] at hm
    have hb := mul_bin hm
    refine fpure rfl rfl (fw Tryd.func86 (by kernel_rfl) rfl (by kernel_rfl) fun C L T hT hS => ?_) H
    simp only [gX,gT,gM,gL,gB,wantedA,evOp,opv,absC,absC0,isAggT,resA,resultA,binA,eqA,eqGuardA,isConstA,isFlatScalar,shiftOp,strOp,ordB,readN,sliceCells,lenA,storeA,newA,buildA,fillA,buildSliceA,boundsA,bndA,sliceA,ptrOK,fieldAddrA,fieldA,indexA,extractA,convA,isIntT,biA,bytesOf,setAll,List.replicate,Nat.reduceAdd,Nat.reduceSub,Nat.reduceMul,Nat.reduceLT,Nat.reduceLeDiff,Nat.reduceEqDiff,Int.reduceEq,Int.reduceLT,Int.reduceLE,Int.reduceNe,Int.reduceAdd,Nat.reduceBEq,reduceCtorEq,lenB_nil,lenB_slice,lenB_oslice,lenB_str,lenB_agg,indexAddrA_slice,indexAddrA_oslice,indexAddrA_ptr,indexAddrA_optr,loadA_ptr,loadA_optr,lenK,indexK,loadK,Int.reduceBEq,Int.reduceBNe,Int.reduceMod,Int.reduceDiv,Int.reduceTDiv,Int.reduceTMod,Int.reduceFDiv,Int.reduceSub,Int.reduceNeg,Int.reduceGT,Int.reduceGE,BitVec.reduceOfInt,BitVec.reduceAnd,BitVec.reduceOr,BitVec.reduceXOr,BitVec.reduceToNat,Int.reduceToNat,Int.reducePow,Int.reduceMul,hT.all,Tryd.f86]
    refine hS.one ha ?_
    simp only [gX,gT,gM,gL,gB,wantedA,evOp,opv,absC,absC0,isAggT,resA,resultA,eqA,eqGuardA,isConstA,isFlatScalar,shiftOp,strOp,ordB,readN,sliceCells,lenA,storeA,newA,buildA,fillA,buildSliceA,boundsA,bndA,sliceA,ptrOK,fieldAddrA,fieldA,indexA,extractA,convA,isIntT,biA,bytesOf,setAll,List.replicate,Nat.reduceAdd,Nat.reduceSub,Nat.reduceMul,Nat.reduceLT,Nat.reduceLeDiff,Nat.reduceEqDiff,Int.reduceEq,Int.reduceLT,Int.reduceLE,Int.reduceNe,Int.reduceAdd,Nat.reduceBEq,reduceCtorEq,lenB_nil,lenB_slice,lenB_oslice,lenB_str,lenB_agg,indexAddrA_slice,indexAddrA_oslice,indexAddrA_ptr,indexAddrA_optr,loadA_ptr,loadA_optr,lenK,indexK,loadK,Int.reduceBEq,Int.reduceBNe,Int.reduceMod,Int.reduceDiv,Int.reduceTDiv,Int.reduceTMod,Int.reduceFDiv,Int.reduceSub,Int.reduceNeg,Int.reduceGT,Int.reduceGE,BitVec.reduceOfInt,BitVec.reduceAnd,BitVec.reduceOr,BitVec.reduceXOr,BitVec.reduceToNat,Int.reduceToNat,Int.reducePow,Int.reduceMul,hT.all,hl,hb]
  · rw [if_neg c, if_neg c]
    simp only [decide_eq_false c] at hl
    rw [← hn]
    refine fpure rfl rfl (fw Tryd.func86 (by kernel_rfl) rfl (by kernel_rfl) fun C L T hT hS => ?_) H
    simp only [gX,gT,gM,gL,gB,wantedA,evOp,opv,absC,absC0,isAggT,resA,resultA,binA,eqA,eqGuardA,isConstA,isFlatScalar,shiftOp,strOp,ordB,readN,sliceCells,lenA,storeA,newA,buildA,fillA,buildSliceA,boundsA,bndA,sliceA,ptrOK,fieldAddrA,fieldA,indexA,extractA,convA,isIntT,biA,bytesOf,setAll,List.replicate,Nat.reduceAdd,Nat.reduceSub,Nat.reduceMul,Nat.reduceLT,Nat.reduceLeDiff,Nat.reduceEqDiff,Int.reduceEq,Int.reduceLT,Int.reduceLE,Int.reduceNe,Int.reduceAdd,Nat.reduceBEq,reduceCtorEq,lenB_nil,lenB_slice,lenB_oslice,lenB_str,lenB_agg,indexAddrA_slice,indexAddrA_oslice,indexAddrA_ptr,indexAddrA_optr,loadA_ptr,loadA_optr,lenK,indexK,loadK,Int.reduceBEq,Int.reduceBNe,Int.reduceMod,Int.reduceDiv,Int.reduceTDiv,Int.reduceTMod,Int.reduceFDiv,Int.reduceSub,Int.reduceNeg,Int.reduceGT,Int.reduceGE,BitVec.reduceOfInt,BitVec.reduceAnd,BitVec.reduceOr,BitVec.reduceXOr,BitVec.reduceToNat,Int.reduceToNat,Int.reducePow,Int.reduceMul,hT.all,Tryd.f86]
    refine hS.one ha ?_
    simp only [gX,gT,gM,gL,gB,wantedA,evOp,opv,absC,absC0,isAggT,resA,resultA,eqA,eqGuardA,isConstA,isFlatScalar,shiftOp,strOp,ordB,readN,sliceCells,lenA,storeA,newA,buildA,fillA,buildSliceA,boundsA,bndA,sliceA,ptrOK,fieldAddrA,fieldA,indexA,extractA,convA,isIntT,biA,bytesOf,setAll,List.replicate,Nat.reduceAdd,Nat.reduceSub,Nat.reduceMul,Nat.reduceLT,Nat.reduceLeDiff,Nat.reduceEqDiff,Int.reduceEq,Int.reduceLT,Int.reduceLE,Int.reduceNe,Int.reduceAdd,Nat.reduceBEq,reduceCtorEq,lenB_nil,lenB_slice,lenB_oslice,lenB_str,lenB_agg,indexAddrA_slice,indexAddrA_oslice,indexAddrA_ptr,indexAddrA_optr,loadA_ptr,loadA_optr,lenK,indexK,loadK,Int.reduceBEq,Int.reduceBNe,Int.reduceMod,Int.reduceDiv,Int.reduceTDiv,Int.reduceTMod,Int.reduceFDiv,Int.reduceSub,Int.reduceNeg,Int.reduceGT,Int.reduceGE,BitVec.reduceOfInt,BitVec.reduceAnd,BitVec.reduceOr,BitVec.reduceXOr,BitVec.reduceToNat,Int.reduceToNat,Int.reducePow,Int.reduceMul,hT.all,hl]

/-- Without its exponent. -/
theorem clrE {n : Nat} (h : n < 18446744073709551616) : IntKind.u64.wrap (((BitVec.ofInt 64 (n : Int)) &&& ~~~ 9218868437227405312#64).toNat : Int) = (n / 9223372036854775808 * 9223372036854775808 + n % 4503599627370496 : Nat) := by
  have e2 : (BitVec.ofNat 64 n &&& ~~~ 9218868437227405312#64).toNat = n / 9223372036854775808 * 9223372036854775808 + n % 4503599627370496 := by
    rw [BitVec.toNat_and, BitVec.toNat_ofNat, Nat.mod_eq_of_lt (show n < 2 ^ 64 by omega), show (~~~ 9218868437227405312#64 : BitVec 64).toNat = 2 ^ 63 + (2 ^ 52 - 1) by decide]
    have e3 : 2 ^ 63 + (2 ^ 52 - 1) = 2 ^ 63 ||| (2 ^ 52 - 1) := by
      have := Nat.two_pow_add_eq_or_of_lt (i := 63) (b := 2 ^ 52 - 1) (by decide) 1
      rw [Nat.mul_one] at this
      exact this
    rw [e3, Nat.and_or_distrib_left, Nat.and_two_pow_sub_one_eq_mod]
    have h4 : n &&& 2 ^ 63 = n / 9223372036854775808 * 2 ^ 63 := by
      have h5 := sgn n h
      rw [ofInt_nat, show (9223372036854775808#64 : BitVec 64) = BitVec.ofNat 64 (2 ^ 63) by decide, BitVec.toNat_and, BitVec.toNat_ofNat, BitVec.toNat_ofNat, Nat.mod_eq_of_lt (show n < 2 ^ 64 by omega), Nat.mod_eq_of_lt (show 2 ^ 63 < 2 ^ 64 by decide), wU] at h5
      have h6 : n &&& 2 ^ 63 ≤ 2 ^ 63 := Nat.and_le_right
      rw [show (2 : Nat) ^ 63 = 9223372036854775808 by decide] at h5 h6 ⊢
      split at h5 <;> omega
    rw [h4]
    have h7 : n % 2 ^ 52 < 2 ^ 63 := Nat.lt_of_lt_of_le (Nat.mod_lt _ (by decide)) (by decide)
    have h8 := Nat.two_pow_add_eq_or_of_lt h7 (n / 9223372036854775808)
    rw [Nat.mul_comm (2 ^ 63)] at h8
    rw [← h8, show (2 : Nat) ^ 63 = 9223372036854775808 by decide, show (2 : Nat) ^ 52 = 4503599627370496 by decide]
  rw [ofInt_nat, e2, wU]
  omega

/-- An exponent laid over. -/
theorem orE {b f k : Nat} (hb : b ≤ 1) (hf : f < 4503599627370496) (hk : k < 2048) : IntKind.u64.wrap (((BitVec.ofInt 64 ((b * 9223372036854775808 + f : Nat) : Int)) ||| (BitVec.ofNat 64 (k * 4503599627370496))).toNat : Int) = ((b * 9223372036854775808 + k * 4503599627370496 + f : Nat) : Int) := by
  have e1 : b * 9223372036854775808 + f = b * 2 ^ 63 ||| f := by
    have h7 : f < 2 ^ 63 := Nat.lt_of_lt_of_le hf (by decide)
    have h8 := Nat.two_pow_add_eq_or_of_lt h7 b
    rw [Nat.mul_comm (2 ^ 63)] at h8
    rw [← h8, show (2 : Nat) ^ 63 = 9223372036854775808 by decide]
  have e2 : k * 4503599627370496 + f = k * 2 ^ 52 ||| f := by
    have h8 := Nat.two_pow_add_eq_or_of_lt (i := 52) (b := f) (by rw [show 2 ^ 52 = 4503599627370496 by decide]; exact hf) k
    rw [Nat.mul_comm (2 ^ 52)] at h8
    rw [← h8, show (2 : Nat) ^ 52 = 4503599627370496 by decide]
  have e3 : b * 9223372036854775808 + (k * 4503599627370496 + f) = b * 2 ^ 63 ||| (k * 4503599627370496 + f) := by
    have h7 : k * 4503599627370496 + f < 2 ^ 63 := by rw [show (2 : Nat) ^ 63 = 9223372036854775808 by decide]; omega
    have h8 := Nat.two_pow_add_eq_or_of_lt h7 b
    rw [Nat.mul_comm (2 ^ 63)] at h8
    rw [← h8, show (2 : Nat) ^ 63 = 9223372036854775808 by decide]
  have e : (BitVec.ofNat 64 (b * 9223372036854775808 + f) ||| BitVec.ofNat 64 (k * 4503599627370496)).toNat = b * 9223372036854775808 + k * 4503599627370496 + f := by
    rw [BitVec.toNat_or, BitVec.toNat_ofNat, BitVec.toNat_ofNat, Nat.mod_eq_of_lt (by omega), Nat.mod_eq_of_lt (by omega), Nat.add_assoc, e3, e2, e1, Nat.or_assoc]
    rw [Nat.or_comm f, show (4503599627370496 : Nat) = 2 ^ 52 by decide]
  rw [ofInt_nat, e, wU]
  omega

/-- A number with its sign. -/
def sI (s : Bool) (k : Nat) : Int := if s = true then -(k : Int) else k

theorem norm_parts {r : Nat} (h0 : r ≠ 0) (h : r < 9218868437227405312) : ∃ K E : Nat, normR r / 4503599627370496 = E ∧ normR r % 4503599627370496 + 4503599627370496 = K ∧ K < 9007199254740992 ∧ 1 ≤ E ∧ E ≤ 2046 ∧
    K / 2 ^ tz K = magOf r / 2 ^ tz (magOf r) ∧ normE r + E - 1075 + tz K = -1074 + upOf r + tz (magOf r) ∧ normR r < 9218868437227405312 ∧ -52 ≤ normE r ∧ normE r ≤ 0 ∧ tz K < 64 ∧ K = K / 2 ^ tz K * 2 ^ tz K := by
  unfold normR normE
  by_cases c : r < 4503599627370496
  · rw [if_pos c, if_pos c]
    obtain ⟨e1, e2, e3, e4⟩ := rung_sub h0 c
    obtain ⟨m1, m2⟩ := mag_small (r := r) (by omega)
    rw [m1, m2, e1]
    obtain ⟨t1, t2⟩ := tz_mul (m := r) (k := 52 - r.log2) h0 (by omega)
    obtain ⟨s1, _, s2⟩ := tz_spec (m := r * 2 ^ (52 - r.log2)) (by omega) (by omega)
    obtain ⟨K, hK⟩ : ∃ K, K = r * 2 ^ (52 - r.log2) := ⟨_, rfl⟩
    rw [← hK] at e2 e3 t1 t2 s1 s2 ⊢
    refine ⟨K, r.log2 + 1, by omega, by omega, e3, by omega, by omega, t2, by omega, by omega, by omega, by omega, s2, s1⟩
  · rw [if_neg c, if_neg c]
    have hm : magOf r = 4503599627370496 + r % 4503599627370496 := by unfold magOf; rw [if_neg c]
    have hu : upOf r = r / 4503599627370496 - 1 := by unfold upOf; rw [if_neg c]
    obtain ⟨s1, _, s2⟩ := tz_spec (m := magOf r) (by omega) (by omega)
    exact ⟨magOf r, r / 4503599627370496, rfl, by omega, by omega, by omega, by omega, rfl, by omega, h, by omega, by omega, s2, s1⟩

theorem eq_zero {T : Tab} {t : TypeId} {x y : Operand} {s : Bool} {r : Nat} (h0 : r ≠ 0) (hr : r ≤ 9218868437227405312) : binA T .eql t x y (.float .f64 (D.word s r)) (.float .f64 0) = some (.bool false) := by
  have ho := order_word (s := s) (t := false) (r := r) (q := 0) hr (by omega)
  rw [show D.word false 0 = 0 by rfl, sval_false, V_zero] at ho
  simp only [binA, fArith, if_true]
  rw [show FloatKind.f64.format = D from rfl, ho]
  simp only [ordB, Option.map_some]
  have hp := V_pos (show 0 < r by omega)
  cases s
  · rw [sval_false, compare_gt (by omega)]; rfl
  · rw [sval_true, compare_lt (by omega)]; rfl

theorem word_parts {s : Bool} {y : Nat} (hy : y < 9223372036854775808) : D.word s y / 4503599627370496 % 2048 = y / 4503599627370496 ∧ D.word s y / 9223372036854775808 = s.toNat ∧ D.word s y % 4503599627370496 = y % 4503599627370496 ∧ D.word s y < 18446744073709551616 := by
  unfold Ieee.Format.word
  rw [d_sw]
  cases s
  · rw [if_neg (by decide)]
    exact ⟨by omega, by rw [show (false : Bool).toNat = 0 by rfl]; omega, rfl, by omega⟩
  · simp only [if_true, Bool.toNat_true]
    refine ⟨by omega, by omega, by omega, by omega⟩

theorem pFrexp (M : Addr → Option AV) (H : Heap) {n r K E : Nat} {s : Bool} (hn : n = D.word s r) (h0 : r ≠ 0) (hr : r < 9218868437227405312) (hE : normR r / 4503599627370496 = E) (hK : normR r % 4503599627370496 + 4503599627370496 = K) (hy : normR r < 9218868437227405312) (hE2 : E ≤ 2046) :
    SemF Tryd.prog M 90 [.float .f64 n] H fun v h => v = .tup [.float .f64 (D.word s (1021 * 4503599627370496 + K)), .int .i64 (normE r + E - 1022)] ∧ h = H := by
  have hw := word_neg (s := s) (r := r) (by omega)
  rw [← hn, d_sw] at hw
  have hnn : isNaN .f64 n = false := by rw [isNaN_of, decide_eq_false_iff_not]; omega
  have hi := pIsInf0 M [] hnn
  rw [hw.2, decide_eq_false (by omega)] at hi
  have hq := pIsNaN M [] n
  rw [hnn] at hq
  have hno := pNormalize M [] hn hr
  have hz : ∀ T t x y, binA T .eql t x y (.float .f64 n) (.float .f64 0) = some (.bool false) := by
    intro T t x y
    rw [hn]
    exact eq_zero h0 (by omega)
  have hne : -52 ≤ normE r ∧ normE r ≤ 0 := by unfold normE; split <;> omega
  obtain ⟨y, hyy⟩ : ∃ y, y = normR r := ⟨_, rfl⟩
  rw [← hyy] at hE hK hy hno
  obtain ⟨p1, p2, p3, p4⟩ := word_parts (s := s) (y := y) (by omega)
  have hwn : isNaN .f64 (D.word s y) = false := by
    have := word_neg (s := s) (r := y) (by omega)
    rw [d_sw] at this
    rw [isNaN_of, decide_eq_false_iff_not]; omega
  have w1 := shr52 (b := D.word s y)
  have w2 := and11 (e := D.word s y / 4503599627370496) (by omega)
  rw [p1, hE] at w2
  have w3 := clrE (n := D.word s y) p4
  rw [p2, p3] at w3
  have hs : s.toNat ≤ 1 := by cases s <;> decide
  have w4 := orE (b := s.toNat) (f := y % 4503599627370496) (k := 1022) hs (by omega) (by omega)
  rw [show BitVec.ofNat 64 (1022 * 4503599627370496) = 4602678819172646912#64 by decide] at w4
  have w5 : IntKind.i64.wrap (E : Int) = E := wrap_i64 (by omega) (by omega)
  have w6 : IntKind.i64.wrap ((E : Int) - 1023) = E - 1023 := wrap_i64 (by omega) (by omega)
  have w7 : IntKind.i64.wrap ((E : Int) - 1023 + 1) = E - 1022 := by rw [wrap_i64 (by omega) (by omega)]; omega
  have w8 : IntKind.i64.wrap (normE r + ((E : Int) - 1022)) = normE r + E - 1022 := by rw [wrap_i64 (by omega) (by omega)]; omega
  have e9 : s.toNat * 9223372036854775808 + 1022 * 4503599627370496 + y % 4503599627370496 = D.word s (1021 * 4503599627370496 + K) := by
    unfold Ieee.Format.word
    rw [d_sw]
    cases s
    · simp only [Bool.false_eq_true, if_false, Bool.toNat_false]; omega
    · simp only [if_true, Bool.toNat_true]; omega
  rw [e9] at w4
  obtain ⟨w, hww⟩ : ∃ w, w = D.word s y := ⟨_, rfl⟩
  obtain ⟨x1, hx1⟩ : ∃ x, x = w / 4503599627370496 := ⟨_, rfl⟩
  obtain ⟨x2, hx2⟩ : ∃ x, x = s.toNat * 9223372036854775808 + y % 4503599627370496 := ⟨_, rfl⟩
  obtain ⟨x3, hx3⟩ : ∃ x, x = D.word s (1021 * 4503599627370496 + K) := ⟨_, rfl⟩
  obtain ⟨e0, he0⟩ : ∃ x, x = normE r := ⟨_, rfl⟩
  rw [← hww] at hno w1 w2 w3 hwn
  rw [← hx1] at w1 w2
  rw [← hx2] at w3 w4
  rw [← hx3] at w4 ⊢
  rw [← he0] at hno w8 ⊢
  have h2 : SemF Tryd.prog M 106 [.float .f64 n] [] fun v h => v = .tup [.float .f64 x3, .int .i64 (e0 + E - 1022)] ∧ h = [] := by
    refine fpure rfl rfl (fw Tryd.func106 (by kernel_rfl) rfl (by kernel_rfl) fun C L T hT hS => ?_) []
    simp only [gX,gT,gM,gL,gB,wantedA,evOp,opv,absC,absC0,isAggT,resA,resultA,eqA,eqGuardA,isConstA,isFlatScalar,shiftOp,strOp,ordB,readN,sliceCells,lenA,storeA,newA,buildA,fillA,buildSliceA,boundsA,bndA,sliceA,ptrOK,fieldAddrA,fieldA,indexA,extractA,convA,isIntT,biA,bytesOf,setAll,List.replicate,Nat.reduceAdd,Nat.reduceSub,Nat.reduceMul,Nat.reduceLT,Nat.reduceLeDiff,Nat.reduceEqDiff,Int.reduceEq,Int.reduceLT,Int.reduceLE,Int.reduceNe,Int.reduceAdd,Nat.reduceBEq,reduceCtorEq,lenB_nil,lenB_slice,lenB_oslice,lenB_str,lenB_agg,indexAddrA_slice,indexAddrA_oslice,indexAddrA_ptr,indexAddrA_optr,loadA_ptr,loadA_optr,lenK,indexK,loadK,Int.reduceBEq,Int.reduceBNe,Int.reduceMod,Int.reduceDiv,Int.reduceTDiv,Int.reduceTMod,Int.reduceFDiv,Int.reduceSub,Int.reduceNeg,Int.reduceGT,Int.reduceGE,BitVec.reduceOfInt,BitVec.reduceAnd,BitVec.reduceOr,BitVec.reduceXOr,BitVec.reduceToNat,Int.reduceToNat,Int.reducePow,Int.reduceMul,hT.all,Tryd.f106,hz]
    refine hS.one hi ?_
    simp only [gX,gT,gM,gL,gB,wantedA,evOp,opv,absC,absC0,isAggT,resA,resultA,binA,eqA,eqGuardA,isConstA,isFlatScalar,shiftOp,strOp,ordB,readN,sliceCells,lenA,storeA,newA,buildA,fillA,buildSliceA,boundsA,bndA,sliceA,ptrOK,fieldAddrA,fieldA,indexA,extractA,convA,isIntT,biA,bytesOf,setAll,List.replicate,Nat.reduceAdd,Nat.reduceSub,Nat.reduceMul,Nat.reduceLT,Nat.reduceLeDiff,Nat.reduceEqDiff,Int.reduceEq,Int.reduceLT,Int.reduceLE,Int.reduceNe,Int.reduceAdd,Nat.reduceBEq,reduceCtorEq,lenB_nil,lenB_slice,lenB_oslice,lenB_str,lenB_agg,indexAddrA_slice,indexAddrA_oslice,indexAddrA_ptr,indexAddrA_optr,loadA_ptr,loadA_optr,lenK,indexK,loadK,Int.reduceBEq,Int.reduceBNe,Int.reduceMod,Int.reduceDiv,Int.reduceTDiv,Int.reduceTMod,Int.reduceFDiv,Int.reduceSub,Int.reduceNeg,Int.reduceGT,Int.reduceGE,BitVec.reduceOfInt,BitVec.reduceAnd,BitVec.reduceOr,BitVec.reduceXOr,BitVec.reduceToNat,Int.reduceToNat,Int.reducePow,Int.reduceMul,hT.all]
    refine hS.one hq ?_
    simp only [gX,gT,gM,gL,gB,wantedA,evOp,opv,absC,absC0,isAggT,resA,resultA,binA,eqA,eqGuardA,isConstA,isFlatScalar,shiftOp,strOp,ordB,readN,sliceCells,lenA,storeA,newA,buildA,fillA,buildSliceA,boundsA,bndA,sliceA,ptrOK,fieldAddrA,fieldA,indexA,extractA,convA,isIntT,biA,bytesOf,setAll,List.replicate,Nat.reduceAdd,Nat.reduceSub,Nat.reduceMul,Nat.reduceLT,Nat.reduceLeDiff,Nat.reduceEqDiff,Int.reduceEq,Int.reduceLT,Int.reduceLE,Int.reduceNe,Int.reduceAdd,Nat.reduceBEq,reduceCtorEq,lenB_nil,lenB_slice,lenB_oslice,lenB_str,lenB_agg,indexAddrA_slice,indexAddrA_oslice,indexAddrA_ptr,indexAddrA_optr,loadA_ptr,loadA_optr,lenK,indexK,loadK,Int.reduceBEq,Int.reduceBNe,Int.reduceMod,Int.reduceDiv,Int.reduceTDiv,Int.reduceTMod,Int.reduceFDiv,Int.reduceSub,Int.reduceNeg,Int.reduceGT,Int.reduceGE,BitVec.reduceOfInt,BitVec.reduceAnd,BitVec.reduceOr,BitVec.reduceXOr,BitVec.reduceToNat,Int.reduceToNat,Int.reducePow,Int.reduceMul,hT.all]
    refine hS.one hno ?_
    simp only [gX,gT,gM,gL,gB,wantedA,evOp,opv,absC,absC0,isAggT,resA,resultA,binA,eqA,eqGuardA,isConstA,isFlatScalar,shiftOp,strOp,ordB,readN,sliceCells,lenA,storeA,newA,buildA,fillA,buildSliceA,boundsA,bndA,sliceA,ptrOK,fieldAddrA,fieldA,indexA,extractA,convA,isIntT,biA,bytesOf,setAll,List.replicate,Nat.reduceAdd,Nat.reduceSub,Nat.reduceMul,Nat.reduceLT,Nat.reduceLeDiff,Nat.reduceEqDiff,Int.reduceEq,Int.reduceLT,Int.reduceLE,Int.reduceNe,Int.reduceAdd,Nat.reduceBEq,reduceCtorEq,lenB_nil,lenB_slice,lenB_oslice,lenB_str,lenB_agg,indexAddrA_slice,indexAddrA_oslice,indexAddrA_ptr,indexAddrA_optr,loadA_ptr,loadA_optr,lenK,indexK,loadK,Int.reduceBEq,Int.reduceBNe,Int.reduceMod,Int.reduceDiv,Int.reduceTDiv,Int.reduceTMod,Int.reduceFDiv,Int.reduceSub,Int.reduceNeg,Int.reduceGT,Int.reduceGE,BitVec.reduceOfInt,BitVec.reduceAnd,BitVec.reduceOr,BitVec.reduceXOr,BitVec.reduceToNat,Int.reduceToNat,Int.reducePow,Int.reduceMul,hT.all]
    refine hS.one (pBits M _ hwn) ?_
    simp only [gX,gT,gM,gL,gB,wantedA,evOp,opv,absC,absC0,isAggT,resA,resultA,binA,eqA,eqGuardA,isConstA,isFlatScalar,strOp,ordB,readN,sliceCells,lenA,storeA,newA,buildA,fillA,buildSliceA,boundsA,bndA,sliceA,ptrOK,fieldAddrA,fieldA,indexA,extractA,convA,isIntT,biA,bytesOf,setAll,List.replicate,Nat.reduceAdd,Nat.reduceSub,Nat.reduceMul,Nat.reduceLT,Nat.reduceLeDiff,Nat.reduceEqDiff,Int.reduceEq,Int.reduceLT,Int.reduceLE,Int.reduceNe,Int.reduceAdd,Nat.reduceBEq,reduceCtorEq,lenB_nil,lenB_slice,lenB_oslice,lenB_str,lenB_agg,indexAddrA_slice,indexAddrA_oslice,indexAddrA_ptr,indexAddrA_optr,loadA_ptr,loadA_optr,lenK,indexK,loadK,Int.reduceBEq,Int.reduceBNe,Int.reduceMod,Int.reduceDiv,Int.reduceTDiv,Int.reduceTMod,Int.reduceFDiv,Int.reduceSub,Int.reduceNeg,Int.reduceGT,Int.reduceGE,BitVec.reduceOfInt,BitVec.reduceAnd,BitVec.reduceOr,BitVec.reduceXOr,BitVec.reduceToNat,Int.reduceToNat,Int.reducePow,Int.reduceMul,hT.all,w1,w2,w3,w4,w5,w6,w7,w8]
    refine hS.one (pFrom M _ _) ?_
    simp only [gX,gT,gM,gL,gB,wantedA,evOp,opv,absC,absC0,isAggT,resA,resultA,binA,eqA,eqGuardA,isConstA,isFlatScalar,shiftOp,strOp,ordB,readN,sliceCells,lenA,storeA,newA,buildA,fillA,buildSliceA,boundsA,bndA,sliceA,ptrOK,fieldAddrA,fieldA,indexA,extractA,convA,isIntT,biA,bytesOf,setAll,List.replicate,Nat.reduceAdd,Nat.reduceSub,Nat.reduceMul,Nat.reduceLT,Nat.reduceLeDiff,Nat.reduceEqDiff,Int.reduceEq,Int.reduceLT,Int.reduceLE,Int.reduceNe,Int.reduceAdd,Nat.reduceBEq,reduceCtorEq,lenB_nil,lenB_slice,lenB_oslice,lenB_str,lenB_agg,indexAddrA_slice,indexAddrA_oslice,indexAddrA_ptr,indexAddrA_optr,loadA_ptr,loadA_optr,lenK,indexK,loadK,Int.reduceBEq,Int.reduceBNe,Int.reduceMod,Int.reduceDiv,Int.reduceTDiv,Int.reduceTMod,Int.reduceFDiv,Int.reduceSub,Int.reduceNeg,Int.reduceGT,Int.reduceGE,BitVec.reduceOfInt,BitVec.reduceAnd,BitVec.reduceOr,BitVec.reduceXOr,BitVec.reduceToNat,Int.reduceToNat,Int.reducePow,Int.reduceMul,hT.all]
  refine fpure rfl rfl (fw Tryd.func90 (by kernel_rfl) rfl (by kernel_rfl) fun C L T hT hS => ?_) H
  simp only [gX,gT,gM,gL,gB,wantedA,evOp,opv,absC,absC0,isAggT,resA,resultA,binA,eqA,eqGuardA,isConstA,isFlatScalar,shiftOp,strOp,ordB,readN,sliceCells,lenA,storeA,newA,buildA,fillA,buildSliceA,boundsA,bndA,sliceA,ptrOK,fieldAddrA,fieldA,indexA,extractA,convA,isIntT,biA,bytesOf,setAll,List.replicate,Nat.reduceAdd,Nat.reduceSub,Nat.reduceMul,Nat.reduceLT,Nat.reduceLeDiff,Nat.reduceEqDiff,Int.reduceEq,Int.reduceLT,Int.reduceLE,Int.reduceNe,Int.reduceAdd,Nat.reduceBEq,reduceCtorEq,lenB_nil,lenB_slice,lenB_oslice,lenB_str,lenB_agg,indexAddrA_slice,indexAddrA_oslice,indexAddrA_ptr,indexAddrA_optr,loadA_ptr,loadA_optr,lenK,indexK,loadK,Int.reduceBEq,Int.reduceBNe,Int.reduceMod,Int.reduceDiv,Int.reduceTDiv,Int.reduceTMod,Int.reduceFDiv,Int.reduceSub,Int.reduceNeg,Int.reduceGT,Int.reduceGE,BitVec.reduceOfInt,BitVec.reduceAnd,BitVec.reduceOr,BitVec.reduceXOr,BitVec.reduceToNat,Int.reduceToNat,Int.reducePow,Int.reduceMul,hT.all,Tryd.f90]
  refine hS.one h2 ?_
  simp only [gX,gT,gM,gL,gB,wantedA,evOp,opv,absC,absC0,isAggT,resA,resultA,binA,eqA,eqGuardA,isConstA,isFlatScalar,shiftOp,strOp,ordB,readN,sliceCells,lenA,storeA,newA,buildA,fillA,buildSliceA,boundsA,bndA,sliceA,ptrOK,fieldAddrA,fieldA,indexA,extractA,convA,isIntT,biA,bytesOf,setAll,List.replicate,Nat.reduceAdd,Nat.reduceSub,Nat.reduceMul,Nat.reduceLT,Nat.reduceLeDiff,Nat.reduceEqDiff,Int.reduceEq,Int.reduceLT,Int.reduceLE,Int.reduceNe,Int.reduceAdd,Nat.reduceBEq,reduceCtorEq,lenB_nil,lenB_slice,lenB_oslice,lenB_str,lenB_agg,indexAddrA_slice,indexAddrA_oslice,indexAddrA_ptr,indexAddrA_optr,loadA_ptr,loadA_optr,lenK,indexK,loadK,Int.reduceBEq,Int.reduceBNe,Int.reduceMod,Int.reduceDiv,Int.reduceTDiv,Int.reduceTMod,Int.reduceFDiv,Int.reduceSub,Int.reduceNeg,Int.reduceGT,Int.reduceGE,BitVec.reduceOfInt,BitVec.reduceAnd,BitVec.reduceOr,BitVec.reduceXOr,BitVec.reduceToNat,Int.reduceToNat,Int.reducePow,Int.reduceMul,hT.all]

/-- What a float falls into. -/
def splitV (s : Bool) (r : Nat) : AV := if r = 0 then .tup [.int .i64 0, .int .i64 0, .int .i64 0] else .tup [.int .i64 (sI s (magOf r / 2 ^ tz (magOf r))), .int .i64 (-1074 + upOf r + tz (magOf r)), .int .i64 0]

theorem toInt_word {s : Bool} {K : Nat} (h1 : 4503599627370496 ≤ K) (h2 : K < 9007199254740992) : Ieee.Datum.toInt .zero (FloatKind.decode .f64 (D.word s (1074 * 4503599627370496 + K))) = some (sI s K) := by
  have e := mag_up (e := 1074) (k := K) h1 (by omega)
  show Ieee.Datum.toInt .zero (D.read (D.word s (1074 * 4503599627370496 + K))) = _
  rw [read_word (by omega), e.1, e.2]
  rw [show (-1074 + ((1074 : Nat) : Int)) = 0 by decide]
  unfold Ieee.Datum.toInt Ieee.Datum.integral
  simp only
  have hc : Ieee.Toward.zero.cut s (K <<< (0 : Int).toNat) (-0 : Int).toNat = K := by
    unfold Ieee.Toward.cut
    rw [show (0 : Int).toNat = 0 by rfl, show (-0 : Int).toNat = 0 by rfl, Nat.shiftLeft_zero]
    simp
  rw [hc]
  unfold Ieee.signed sI
  rw [Nat.shiftLeft_zero]

theorem sSplit (M : Addr → Option AV) (hM : ∀ a v, tabM a = some v → M a = some v) (H : Heap) {n r : Nat} {s : Bool} (hn : n = D.word s r) (hr : r < 9218868437227405312) :
    SemF Tryd.prog M 66 [.float .f64 n] H fun v h => v = splitV s r ∧ h = H := by
  have hw := word_neg (s := s) (r := r) (by omega)
  rw [← hn, d_sw] at hw
  have hnn : isNaN .f64 n = false := by rw [isNaN_of, decide_eq_false_iff_not]; omega
  have hnl : n < 18446744073709551616 := by have := (word_parts (s := s) (y := r) (by omega)).2.2.2; omega
  have hcl := sClass M [] hnl
  unfold splitV
  by_cases h0 : r = 0
  · rw [if_pos h0]
    have hc : clsW n = 3 := by
      unfold clsW
      rw [hnn, if_neg (by decide), if_neg (by omega), if_pos (by omega)]
    rw [hc] at hcl
    refine fpure rfl rfl (fw Tryd.func66 (by kernel_rfl) rfl (by kernel_rfl) fun C L T hT hS => ?_) H
    simp only [gX,gT,gM,gL,gB,wantedA,evOp,opv,absC,absC0,isAggT,resA,resultA,binA,eqA,eqGuardA,isConstA,isFlatScalar,shiftOp,strOp,ordB,readN,sliceCells,lenA,storeA,newA,buildA,fillA,buildSliceA,boundsA,bndA,sliceA,ptrOK,fieldAddrA,fieldA,indexA,extractA,convA,isIntT,biA,bytesOf,setAll,List.replicate,Nat.reduceAdd,Nat.reduceSub,Nat.reduceMul,Nat.reduceLT,Nat.reduceLeDiff,Nat.reduceEqDiff,Int.reduceEq,Int.reduceLT,Int.reduceLE,Int.reduceNe,Int.reduceAdd,Nat.reduceBEq,reduceCtorEq,lenB_nil,lenB_slice,lenB_oslice,lenB_str,lenB_agg,indexAddrA_slice,indexAddrA_oslice,indexAddrA_ptr,indexAddrA_optr,loadA_ptr,loadA_optr,lenK,indexK,loadK,Int.reduceBEq,Int.reduceBNe,Int.reduceMod,Int.reduceDiv,Int.reduceTDiv,Int.reduceTMod,Int.reduceFDiv,Int.reduceSub,Int.reduceNeg,Int.reduceGT,Int.reduceGE,BitVec.reduceOfInt,BitVec.reduceAnd,BitVec.reduceOr,BitVec.reduceXOr,BitVec.reduceToNat,Int.reduceToNat,Int.reducePow,Int.reduceMul,hT.all,Tryd.f66]
    refine hS.one hcl ?_
    simp only [gX,gT,gM,gL,gB,wantedA,evOp,opv,absC,absC0,isAggT,resA,resultA,binA,eqA,eqGuardA,isConstA,isFlatScalar,shiftOp,strOp,ordB,readN,sliceCells,lenA,storeA,newA,buildA,fillA,buildSliceA,boundsA,bndA,sliceA,ptrOK,fieldAddrA,fieldA,indexA,extractA,convA,isIntT,biA,bytesOf,setAll,List.replicate,Nat.reduceAdd,Nat.reduceSub,Nat.reduceMul,Nat.reduceLT,Nat.reduceLeDiff,Nat.reduceEqDiff,Int.reduceEq,Int.reduceLT,Int.reduceLE,Int.reduceNe,Int.reduceAdd,Nat.reduceBEq,reduceCtorEq,lenB_nil,lenB_slice,lenB_oslice,lenB_str,lenB_agg,indexAddrA_slice,indexAddrA_oslice,indexAddrA_ptr,indexAddrA_optr,loadA_ptr,loadA_optr,lenK,indexK,loadK,Int.reduceBEq,Int.reduceBNe,Int.reduceMod,Int.reduceDiv,Int.reduceTDiv,Int.reduceTMod,Int.reduceFDiv,Int.reduceSub,Int.reduceNeg,Int.reduceGT,Int.reduceGE,BitVec.reduceOfInt,BitVec.reduceAnd,BitVec.reduceOr,BitVec.reduceXOr,BitVec.reduceToNat,Int.reduceToNat,Int.reducePow,Int.reduceMul,hT.all]
  · rw [if_neg h0]
    have hc : clsW n = 4 ∨ clsW n = 5 := by
      unfold clsW
      rw [hnn, if_neg (by decide), if_neg (by omega), if_neg (by omega)]
      split <;> omega
    obtain ⟨c, hcc⟩ : ∃ c, c = clsW n := ⟨_, rfl⟩
    rw [← hcc] at hcl hc
    have b1 : (c == 1) = false := by rw [beq_eq_false_iff_ne]; omega
    have b2 : (c == 2) = false := by rw [beq_eq_false_iff_ne]; omega
    have b3 : (c == 3) = false := by rw [beq_eq_false_iff_ne]; omega
    obtain ⟨K, E, q1, q2, q3, q4, q5, q6, q7, q8, q9, q10, q11, q12⟩ := norm_parts h0 hr
    have hfr := pFrexp M [] hn h0 hr q1 q2 q8 q5
    have e1 := mag_up (e := 1021) (k := K) (by omega) (by omega)
    have hm := mul_pow (s := s) (r := 1021 * 4503599627370496 + K) (k := 53) (by omega) (by omega) (by omega)
    have hra := rung_at (r := 1021 * 4503599627370496 + K) 53 (by omega) (by omega)
    rw [hra, e1.1, e1.2, show (1023 + 53 : Int).toNat * 4503599627370496 = 4845873199050653696 by decide, show (53 + ((1021 : Nat) : Int)).toNat = 1074 by decide, Nat.min_eq_left (by omega)] at hm
    have hmb := mul_bin hm
    have hti := toInt_word (s := s) (K := K) (by omega) q3
    have hir : IntKind.i64.min ≤ sI s K ∧ sI s K ≤ IntKind.i64.max := by
      have h1 : IntKind.i64.min = -9223372036854775808 := by decide
      have h2 : IntKind.i64.max = 9223372036854775807 := by decide
      unfold sI
      rw [h1, h2]
      split <;> omega
    obtain ⟨X, hX⟩ : ∃ X : Nat, X = (if s = true then 18446744073709551616 - K else K) := ⟨_, rfl⟩
    have w1 : IntKind.u64.wrap (sI s K) = X := by
      rw [wU, hX]
      unfold sI
      split <;> omega
    have hX2 : X ≠ 0 ∧ X < 18446744073709551616 ∧ X &&& (18446744073709551616 - X) = 2 ^ tz K := by
      have hl := low_bit64 (x := K) (by omega) (by omega)
      rw [hX]
      split
      · rw [show 18446744073709551616 - (18446744073709551616 - K) = K by omega, Nat.and_comm]
        exact ⟨by omega, by omega, hl⟩
      · exact ⟨by omega, by omega, hl⟩
    have htr := pTrail M hM [] hX2.1 hX2.2.1 hX2.2.2 q11
    have w2 : IntKind.i64.wrap (normE r + E - 1022 - 53) = normE r + E - 1075 := by rw [wrap_i64 (by omega) (by omega)]; omega
    have w3 : IntKind.i64.wrap (normE r + E - 1075 + (tz K : Nat)) = -1074 + upOf r + tz (magOf r) := by rw [wrap_i64 (by omega) (by omega)]; omega
    have w4 : shiftOp .shr .i64 (sI s K) (tz K : Nat) = some (.int .i64 (sI s (magOf r / 2 ^ tz (magOf r)))) := by
      unfold shiftOp
      rw [if_neg (by omega)]
      have e : min (((tz K : Nat) : Int).toNat) (IntKind.bits .i64) = tz K := by
        show min (((tz K : Nat) : Int).toNat) 64 = tz K
        omega
      simp only [e]
      congr 2
      rw [← q6]
      have hp := Nat.two_pow_pos (tz K)
      have hpi : (0 : Int) < 2 ^ tz K := Int.pow_pos (by omega)
      rw [Int.fdiv_eq_ediv_of_nonneg _ (Int.le_of_lt hpi)]
      have e5 : sI s K = sI s (K / 2 ^ tz K) * 2 ^ tz K := by
        have e6 : (K : Int) = (K / 2 ^ tz K : Nat) * 2 ^ tz K := by
          conv => lhs; rw [q12]
          rw [Int.natCast_mul, Int.natCast_pow]; rfl
        unfold sI
        split
        · rw [Int.neg_mul, ← e6]
        · exact e6
      rw [e5]
      exact Int.mul_ediv_cancel _ (by omega)
    obtain ⟨e0, he0⟩ : ∃ x, x = normE r := ⟨_, rfl⟩
    obtain ⟨k, hk⟩ : ∃ x, x = tz K := ⟨_, rfl⟩
    obtain ⟨sk, hsk⟩ : ∃ x, x = sI s K := ⟨_, rfl⟩
    obtain ⟨x1, hx1⟩ : ∃ x, x = D.word s (1021 * 4503599627370496 + K) := ⟨_, rfl⟩
    obtain ⟨x2, hx2⟩ : ∃ x, x = D.word s (1074 * 4503599627370496 + K) := ⟨_, rfl⟩
    obtain ⟨y1, hy1⟩ : ∃ x, x = sI s (magOf r / 2 ^ tz (magOf r)) := ⟨_, rfl⟩
    obtain ⟨y2, hy2⟩ : ∃ x, x = -1074 + (upOf r : Int) + tz (magOf r) := ⟨_, rfl⟩
    rw [← he0] at hfr w2 w3
    rw [← hk] at htr w3 w4
    rw [← hsk] at hti hir w1 w4
    rw [← hx1] at hfr hmb
    rw [← hx2] at hmb hti
    rw [← hy1] at w4 ⊢
    rw [← hy2] at w3 ⊢
    refine fpure rfl rfl (fw Tryd.func66 (by kernel_rfl) rfl (by kernel_rfl) fun C L T hT hS => ?_) H
    simp only [gX,gT,gM,gL,gB,wantedA,evOp,opv,absC,absC0,isAggT,resA,resultA,binA,eqA,eqGuardA,isConstA,isFlatScalar,shiftOp,strOp,ordB,readN,sliceCells,lenA,storeA,newA,buildA,fillA,buildSliceA,boundsA,bndA,sliceA,ptrOK,fieldAddrA,fieldA,indexA,extractA,convA,isIntT,biA,bytesOf,setAll,List.replicate,Nat.reduceAdd,Nat.reduceSub,Nat.reduceMul,Nat.reduceLT,Nat.reduceLeDiff,Nat.reduceEqDiff,Int.reduceEq,Int.reduceLT,Int.reduceLE,Int.reduceNe,Int.reduceAdd,Nat.reduceBEq,reduceCtorEq,lenB_nil,lenB_slice,lenB_oslice,lenB_str,lenB_agg,indexAddrA_slice,indexAddrA_oslice,indexAddrA_ptr,indexAddrA_optr,loadA_ptr,loadA_optr,lenK,indexK,loadK,Int.reduceBEq,Int.reduceBNe,Int.reduceMod,Int.reduceDiv,Int.reduceTDiv,Int.reduceTMod,Int.reduceFDiv,Int.reduceSub,Int.reduceNeg,Int.reduceGT,Int.reduceGE,BitVec.reduceOfInt,BitVec.reduceAnd,BitVec.reduceOr,BitVec.reduceXOr,BitVec.reduceToNat,Int.reduceToNat,Int.reducePow,Int.reduceMul,hT.all,Tryd.f66]
    refine hS.one hcl ?_
    simp only [gX,gT,gM,gL,gB,wantedA,evOp,opv,absC,absC0,isAggT,resA,resultA,binA,eqA,eqGuardA,isConstA,isFlatScalar,shiftOp,strOp,ordB,readN,sliceCells,lenA,storeA,newA,buildA,fillA,buildSliceA,boundsA,bndA,sliceA,ptrOK,fieldAddrA,fieldA,indexA,extractA,convA,isIntT,biA,bytesOf,setAll,List.replicate,Nat.reduceAdd,Nat.reduceSub,Nat.reduceMul,Nat.reduceLT,Nat.reduceLeDiff,Nat.reduceEqDiff,Int.reduceEq,Int.reduceLT,Int.reduceLE,Int.reduceNe,Int.reduceAdd,Nat.reduceBEq,reduceCtorEq,lenB_nil,lenB_slice,lenB_oslice,lenB_str,lenB_agg,indexAddrA_slice,indexAddrA_oslice,indexAddrA_ptr,indexAddrA_optr,loadA_ptr,loadA_optr,lenK,indexK,loadK,Int.reduceBEq,Int.reduceBNe,Int.reduceMod,Int.reduceDiv,Int.reduceTDiv,Int.reduceTMod,Int.reduceFDiv,Int.reduceSub,Int.reduceNeg,Int.reduceGT,Int.reduceGE,BitVec.reduceOfInt,BitVec.reduceAnd,BitVec.reduceOr,BitVec.reduceXOr,BitVec.reduceToNat,Int.reduceToNat,Int.reducePow,Int.reduceMul,hT.all,b1,b2,b3]
    refine hS.one hfr ?_
    simp only [gX,gT,gM,gL,gB,wantedA,evOp,opv,absC,absC0,isAggT,resA,resultA,eqA,eqGuardA,isConstA,isFlatScalar,shiftOp,strOp,ordB,readN,sliceCells,lenA,storeA,newA,buildA,fillA,buildSliceA,boundsA,bndA,sliceA,ptrOK,fieldAddrA,fieldA,indexA,extractA,convA,isIntT,biA,bytesOf,setAll,List.replicate,Nat.reduceAdd,Nat.reduceSub,Nat.reduceMul,Nat.reduceLT,Nat.reduceLeDiff,Nat.reduceEqDiff,Int.reduceEq,Int.reduceLT,Int.reduceLE,Int.reduceNe,Int.reduceAdd,Nat.reduceBEq,reduceCtorEq,lenB_nil,lenB_slice,lenB_oslice,lenB_str,lenB_agg,indexAddrA_slice,indexAddrA_oslice,indexAddrA_ptr,indexAddrA_optr,loadA_ptr,loadA_optr,lenK,indexK,loadK,Int.reduceBEq,Int.reduceBNe,Int.reduceMod,Int.reduceDiv,Int.reduceTDiv,Int.reduceTMod,Int.reduceFDiv,Int.reduceSub,Int.reduceNeg,Int.reduceGT,Int.reduceGE,BitVec.reduceOfInt,BitVec.reduceAnd,BitVec.reduceOr,BitVec.reduceXOr,BitVec.reduceToNat,Int.reduceToNat,Int.reducePow,Int.reduceMul,hT.all,hmb,hti,hir,w1,w2,binA_int]
    refine hS.one htr ?_
    simp only [gX,gT,gM,gL,gB,wantedA,evOp,opv,absC,absC0,isAggT,resA,resultA,binA,eqA,eqGuardA,isConstA,isFlatScalar,strOp,ordB,readN,sliceCells,lenA,storeA,newA,buildA,fillA,buildSliceA,boundsA,bndA,sliceA,ptrOK,fieldAddrA,fieldA,indexA,extractA,convA,isIntT,biA,bytesOf,setAll,List.replicate,Nat.reduceAdd,Nat.reduceSub,Nat.reduceMul,Nat.reduceLT,Nat.reduceLeDiff,Nat.reduceEqDiff,Int.reduceEq,Int.reduceLT,Int.reduceLE,Int.reduceNe,Int.reduceAdd,Nat.reduceBEq,reduceCtorEq,lenB_nil,lenB_slice,lenB_oslice,lenB_str,lenB_agg,indexAddrA_slice,indexAddrA_oslice,indexAddrA_ptr,indexAddrA_optr,loadA_ptr,loadA_optr,lenK,indexK,loadK,Int.reduceBEq,Int.reduceBNe,Int.reduceMod,Int.reduceDiv,Int.reduceTDiv,Int.reduceTMod,Int.reduceFDiv,Int.reduceSub,Int.reduceNeg,Int.reduceGT,Int.reduceGE,BitVec.reduceOfInt,BitVec.reduceAnd,BitVec.reduceOr,BitVec.reduceXOr,BitVec.reduceToNat,Int.reduceToNat,Int.reducePow,Int.reduceMul,hT.all,w3,w4]

/-- The place of a float's last digit. -/
def lastE (r : Nat) : Int := -1074 + upOf r + tz (magOf r)
theorem lastE_range {r : Nat} (hr : r < 9218868437227405312) (h0 : r ≠ 0) : -1074 ≤ lastE r ∧ lastE r ≤ 1100 ∧ (∀ s, sI s (magOf r / 2 ^ tz (magOf r)) ≠ 0) ∧ magOf r / 2 ^ tz (magOf r) < 9007199254740992 := by
  have hu : upOf r ≤ 2046 := by unfold upOf; split <;> omega
  have hm : magOf r < 9007199254740992 ∧ magOf r ≠ 0 := by unfold magOf; split <;> omega
  obtain ⟨t1, t2, t3⟩ := tz_spec hm.2 (by omega)
  have hle : magOf r / 2 ^ tz (magOf r) ≤ magOf r := Nat.div_le_self _ _
  unfold lastE
  refine ⟨by omega, by omega, fun s => ?_, by omega⟩
  unfold sI
  split <;> omega

def exV (r : Nat) (k : Int) : Bool := if r = 0 then true else decide (k ≥ -lastE r)

theorem sExact (M : Addr → Option AV) (hM : ∀ a v, tabM a = some v → M a = some v) (H : Heap) {n r : Nat} {s : Bool} {k : Int} (hn : n = D.word s r) (hr : r < 9218868437227405312) :
    SemF Tryd.prog M 46 [.float .f64 n, .int .i64 k] H fun v h => v = .bool (exV r k) ∧ h = H := by
  have hsp := sSplit M hM [] hn hr
  unfold splitV at hsp
  unfold exV
  by_cases h0 : r = 0
  · rw [if_pos h0] at hsp ⊢
    refine fpure rfl rfl (fw Tryd.func46 (by kernel_rfl) rfl (by kernel_rfl) fun C L T hT hS => ?_) H
    simp only [gX,gT,gM,gL,gB,wantedA,evOp,opv,absC,absC0,isAggT,resA,resultA,binA,eqA,eqGuardA,isConstA,isFlatScalar,shiftOp,strOp,ordB,readN,sliceCells,lenA,storeA,newA,buildA,fillA,buildSliceA,boundsA,bndA,sliceA,ptrOK,fieldAddrA,fieldA,indexA,extractA,convA,isIntT,biA,bytesOf,setAll,List.replicate,Nat.reduceAdd,Nat.reduceSub,Nat.reduceMul,Nat.reduceLT,Nat.reduceLeDiff,Nat.reduceEqDiff,Int.reduceEq,Int.reduceLT,Int.reduceLE,Int.reduceNe,Int.reduceAdd,Nat.reduceBEq,reduceCtorEq,lenB_nil,lenB_slice,lenB_oslice,lenB_str,lenB_agg,indexAddrA_slice,indexAddrA_oslice,indexAddrA_ptr,indexAddrA_optr,loadA_ptr,loadA_optr,lenK,indexK,loadK,Int.reduceBEq,Int.reduceBNe,Int.reduceMod,Int.reduceDiv,Int.reduceTDiv,Int.reduceTMod,Int.reduceFDiv,Int.reduceSub,Int.reduceNeg,Int.reduceGT,Int.reduceGE,BitVec.reduceOfInt,BitVec.reduceAnd,BitVec.reduceOr,BitVec.reduceXOr,BitVec.reduceToNat,Int.reduceToNat,Int.reducePow,Int.reduceMul,hT.all,Tryd.f46]
    refine hS.one hsp ?_
    simp only [gX,gT,gM,gL,gB,wantedA,evOp,opv,absC,absC0,isAggT,resA,resultA,binA,eqA,eqGuardA,isConstA,isFlatScalar,shiftOp,strOp,ordB,readN,sliceCells,lenA,storeA,newA,buildA,fillA,buildSliceA,boundsA,bndA,sliceA,ptrOK,fieldAddrA,fieldA,indexA,extractA,convA,isIntT,biA,bytesOf,setAll,List.replicate,Nat.reduceAdd,Nat.reduceSub,Nat.reduceMul,Nat.reduceLT,Nat.reduceLeDiff,Nat.reduceEqDiff,Int.reduceEq,Int.reduceLT,Int.reduceLE,Int.reduceNe,Int.reduceAdd,Nat.reduceBEq,reduceCtorEq,lenB_nil,lenB_slice,lenB_oslice,lenB_str,lenB_agg,indexAddrA_slice,indexAddrA_oslice,indexAddrA_ptr,indexAddrA_optr,loadA_ptr,loadA_optr,lenK,indexK,loadK,Int.reduceBEq,Int.reduceBNe,Int.reduceMod,Int.reduceDiv,Int.reduceTDiv,Int.reduceTMod,Int.reduceFDiv,Int.reduceSub,Int.reduceNeg,Int.reduceGT,Int.reduceGE,BitVec.reduceOfInt,BitVec.reduceAnd,BitVec.reduceOr,BitVec.reduceXOr,BitVec.reduceToNat,Int.reduceToNat,Int.reducePow,Int.reduceMul,hT.all]
  · rw [if_neg h0] at hsp ⊢
    obtain ⟨g1, g2, g3, _⟩ := lastE_range hr h0
    have hm := g3 s
    rw [show -1074 + (upOf r : Int) + tz (magOf r) = lastE r by rfl] at hsp
    obtain ⟨e, he⟩ : ∃ e, e = lastE r := ⟨_, rfl⟩
    obtain ⟨m, hmm⟩ : ∃ m, m = sI s (magOf r / 2 ^ tz (magOf r)) := ⟨_, rfl⟩
    rw [← he] at hsp g1 g2 ⊢
    rw [← hmm] at hsp hm
    have b0 : (m == 0) = false := by rw [beq_eq_false_iff_ne]; exact hm
    have w1 : IntKind.i64.wrap (0 - e) = -e := by rw [wrap_i64 (by omega) (by omega)]; omega
    have c3 : e ≥ -4000 := by omega
    by_cases c1 : e ≥ 0
    · by_cases c2 : k ≥ 0
      · have c4 : k ≥ -e := by omega
        rw [decide_eq_true c4]
        refine fpure rfl rfl (fw Tryd.func46 (by kernel_rfl) rfl (by kernel_rfl) fun C L T hT hS => ?_) H
        simp only [gX,gT,gM,gL,gB,wantedA,evOp,opv,absC,absC0,isAggT,resA,resultA,binA,eqA,eqGuardA,isConstA,isFlatScalar,shiftOp,strOp,ordB,readN,sliceCells,lenA,storeA,newA,buildA,fillA,buildSliceA,boundsA,bndA,sliceA,ptrOK,fieldAddrA,fieldA,indexA,extractA,convA,isIntT,biA,bytesOf,setAll,List.replicate,Nat.reduceAdd,Nat.reduceSub,Nat.reduceMul,Nat.reduceLT,Nat.reduceLeDiff,Nat.reduceEqDiff,Int.reduceEq,Int.reduceLT,Int.reduceLE,Int.reduceNe,Int.reduceAdd,Nat.reduceBEq,reduceCtorEq,lenB_nil,lenB_slice,lenB_oslice,lenB_str,lenB_agg,indexAddrA_slice,indexAddrA_oslice,indexAddrA_ptr,indexAddrA_optr,loadA_ptr,loadA_optr,lenK,indexK,loadK,Int.reduceBEq,Int.reduceBNe,Int.reduceMod,Int.reduceDiv,Int.reduceTDiv,Int.reduceTMod,Int.reduceFDiv,Int.reduceSub,Int.reduceNeg,Int.reduceGT,Int.reduceGE,BitVec.reduceOfInt,BitVec.reduceAnd,BitVec.reduceOr,BitVec.reduceXOr,BitVec.reduceToNat,Int.reduceToNat,Int.reducePow,Int.reduceMul,hT.all,Tryd.f46]
        refine hS.one hsp ?_
        simp only [gX,gT,gM,gL,gB,wantedA,evOp,opv,absC,absC0,isAggT,resA,resultA,binA,eqA,eqGuardA,isConstA,isFlatScalar,shiftOp,strOp,ordB,readN,sliceCells,lenA,storeA,newA,buildA,fillA,buildSliceA,boundsA,bndA,sliceA,ptrOK,fieldAddrA,fieldA,indexA,extractA,convA,isIntT,biA,bytesOf,setAll,List.replicate,Nat.reduceAdd,Nat.reduceSub,Nat.reduceMul,Nat.reduceLT,Nat.reduceLeDiff,Nat.reduceEqDiff,Int.reduceEq,Int.reduceLT,Int.reduceLE,Int.reduceNe,Int.reduceAdd,Nat.reduceBEq,reduceCtorEq,lenB_nil,lenB_slice,lenB_oslice,lenB_str,lenB_agg,indexAddrA_slice,indexAddrA_oslice,indexAddrA_ptr,indexAddrA_optr,loadA_ptr,loadA_optr,lenK,indexK,loadK,Int.reduceBEq,Int.reduceBNe,Int.reduceMod,Int.reduceDiv,Int.reduceTDiv,Int.reduceTMod,Int.reduceFDiv,Int.reduceSub,Int.reduceNeg,Int.reduceGT,Int.reduceGE,BitVec.reduceOfInt,BitVec.reduceAnd,BitVec.reduceOr,BitVec.reduceXOr,BitVec.reduceToNat,Int.reduceToNat,Int.reducePow,Int.reduceMul,hT.all,b0,w1,c1,c2,c3,c4]
      · refine fpure rfl rfl (fw Tryd.func46 (by kernel_rfl) rfl (by kernel_rfl) fun C L T hT hS => ?_) H
        simp only [gX,gT,gM,gL,gB,wantedA,evOp,opv,absC,absC0,isAggT,resA,resultA,binA,eqA,eqGuardA,isConstA,isFlatScalar,shiftOp,strOp,ordB,readN,sliceCells,lenA,storeA,newA,buildA,fillA,buildSliceA,boundsA,bndA,sliceA,ptrOK,fieldAddrA,fieldA,indexA,extractA,convA,isIntT,biA,bytesOf,setAll,List.replicate,Nat.reduceAdd,Nat.reduceSub,Nat.reduceMul,Nat.reduceLT,Nat.reduceLeDiff,Nat.reduceEqDiff,Int.reduceEq,Int.reduceLT,Int.reduceLE,Int.reduceNe,Int.reduceAdd,Nat.reduceBEq,reduceCtorEq,lenB_nil,lenB_slice,lenB_oslice,lenB_str,lenB_agg,indexAddrA_slice,indexAddrA_oslice,indexAddrA_ptr,indexAddrA_optr,loadA_ptr,loadA_optr,lenK,indexK,loadK,Int.reduceBEq,Int.reduceBNe,Int.reduceMod,Int.reduceDiv,Int.reduceTDiv,Int.reduceTMod,Int.reduceFDiv,Int.reduceSub,Int.reduceNeg,Int.reduceGT,Int.reduceGE,BitVec.reduceOfInt,BitVec.reduceAnd,BitVec.reduceOr,BitVec.reduceXOr,BitVec.reduceToNat,Int.reduceToNat,Int.reducePow,Int.reduceMul,hT.all,Tryd.f46]
        refine hS.one hsp ?_
        simp only [gX,gT,gM,gL,gB,wantedA,evOp,opv,absC,absC0,isAggT,resA,resultA,binA,eqA,eqGuardA,isConstA,isFlatScalar,shiftOp,strOp,ordB,readN,sliceCells,lenA,storeA,newA,buildA,fillA,buildSliceA,boundsA,bndA,sliceA,ptrOK,fieldAddrA,fieldA,indexA,extractA,convA,isIntT,biA,bytesOf,setAll,List.replicate,Nat.reduceAdd,Nat.reduceSub,Nat.reduceMul,Nat.reduceLT,Nat.reduceLeDiff,Nat.reduceEqDiff,Int.reduceEq,Int.reduceLT,Int.reduceLE,Int.reduceNe,Int.reduceAdd,Nat.reduceBEq,reduceCtorEq,lenB_nil,lenB_slice,lenB_oslice,lenB_str,lenB_agg,indexAddrA_slice,indexAddrA_oslice,indexAddrA_ptr,indexAddrA_optr,loadA_ptr,loadA_optr,lenK,indexK,loadK,Int.reduceBEq,Int.reduceBNe,Int.reduceMod,Int.reduceDiv,Int.reduceTDiv,Int.reduceTMod,Int.reduceFDiv,Int.reduceSub,Int.reduceNeg,Int.reduceGT,Int.reduceGE,BitVec.reduceOfInt,BitVec.reduceAnd,BitVec.reduceOr,BitVec.reduceXOr,BitVec.reduceToNat,Int.reduceToNat,Int.reducePow,Int.reduceMul,hT.all,b0,w1,c1,c2,c3]
    · refine fpure rfl rfl (fw Tryd.func46 (by kernel_rfl) rfl (by kernel_rfl) fun C L T hT hS => ?_) H
      simp only [gX,gT,gM,gL,gB,wantedA,evOp,opv,absC,absC0,isAggT,resA,resultA,binA,eqA,eqGuardA,isConstA,isFlatScalar,shiftOp,strOp,ordB,readN,sliceCells,lenA,storeA,newA,buildA,fillA,buildSliceA,boundsA,bndA,sliceA,ptrOK,fieldAddrA,fieldA,indexA,extractA,convA,isIntT,biA,bytesOf,setAll,List.replicate,Nat.reduceAdd,Nat.reduceSub,Nat.reduceMul,Nat.reduceLT,Nat.reduceLeDiff,Nat.reduceEqDiff,Int.reduceEq,Int.reduceLT,Int.reduceLE,Int.reduceNe,Int.reduceAdd,Nat.reduceBEq,reduceCtorEq,lenB_nil,lenB_slice,lenB_oslice,lenB_str,lenB_agg,indexAddrA_slice,indexAddrA_oslice,indexAddrA_ptr,indexAddrA_optr,loadA_ptr,loadA_optr,lenK,indexK,loadK,Int.reduceBEq,Int.reduceBNe,Int.reduceMod,Int.reduceDiv,Int.reduceTDiv,Int.reduceTMod,Int.reduceFDiv,Int.reduceSub,Int.reduceNeg,Int.reduceGT,Int.reduceGE,BitVec.reduceOfInt,BitVec.reduceAnd,BitVec.reduceOr,BitVec.reduceXOr,BitVec.reduceToNat,Int.reduceToNat,Int.reducePow,Int.reduceMul,hT.all,Tryd.f46]
      refine hS.one hsp ?_
      simp only [gX,gT,gM,gL,gB,wantedA,evOp,opv,absC,absC0,isAggT,resA,resultA,binA,eqA,eqGuardA,isConstA,isFlatScalar,shiftOp,strOp,ordB,readN,sliceCells,lenA,storeA,newA,buildA,fillA,buildSliceA,boundsA,bndA,sliceA,ptrOK,fieldAddrA,fieldA,indexA,extractA,convA,isIntT,biA,bytesOf,setAll,List.replicate,Nat.reduceAdd,Nat.reduceSub,Nat.reduceMul,Nat.reduceLT,Nat.reduceLeDiff,Nat.reduceEqDiff,Int.reduceEq,Int.reduceLT,Int.reduceLE,Int.reduceNe,Int.reduceAdd,Nat.reduceBEq,reduceCtorEq,lenB_nil,lenB_slice,lenB_oslice,lenB_str,lenB_agg,indexAddrA_slice,indexAddrA_oslice,indexAddrA_ptr,indexAddrA_optr,loadA_ptr,loadA_optr,lenK,indexK,loadK,Int.reduceBEq,Int.reduceBNe,Int.reduceMod,Int.reduceDiv,Int.reduceTDiv,Int.reduceTMod,Int.reduceFDiv,Int.reduceSub,Int.reduceNeg,Int.reduceGT,Int.reduceGE,BitVec.reduceOfInt,BitVec.reduceAnd,BitVec.reduceOr,BitVec.reduceXOr,BitVec.reduceToNat,Int.reduceToNat,Int.reducePow,Int.reduceMul,hT.all,b0,w1,c1,c3]

end Go.Proofs.YtaaecodkdgkjoaaDoor.SC
