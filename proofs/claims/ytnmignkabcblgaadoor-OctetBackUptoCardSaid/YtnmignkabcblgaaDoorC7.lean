/- Part of a claim: eight bytes at once; the library's ValidString. -/
import Derived.Test.YtnmignkabcblgaaDoorC6
set_option linter.unusedSimpArgs false
set_option linter.unusedVariables false
set_option maxRecDepth 100000
set_option maxHeartbeats 10000000
namespace Go.Proofs.YtnmignkabcblgaaDoor.C
open Go Go.RowKit Go.Proofs.YtnmignkabcblgaaDoor.E Go.Proofs.YtnmignkabcblgaaDoor.B

theorem wrap_bv (x : BitVec 64) : IntKind.u64.wrap (x.toNat : Int) = x.toNat := wrap_u64 (by omega) (by have := x.isLt; omega)
theorem ofInt_bv (x : BitVec 64) : BitVec.ofInt 64 (x.toNat : Int) = x := by simp

theorem wrap_mod (x : Int) : IntKind.u64.wrap x = x % 18446744073709551616 := rfl

theorem byte_bv (b : UInt8) : IntKind.u64.wrap (b.toNat : Int) = ((b.toBitVec.setWidth 64).toNat : Int) := by
  have : b.toNat < 256 := b.toNat_lt
  rw [wrap_u64 (by omega) (by omega)]
  simp

theorem shl_bv (x : BitVec 64) (k : Nat) : IntKind.u64.wrap ((x.toNat : Int) * (2 ^ k : Nat)) = ((x <<< k).toNat : Int) := by
  rw [wrap_mod, BitVec.toNat_shiftLeft, Nat.shiftLeft_eq, ← Int.natCast_mul]
  rfl

def wordB (b0 b1 b2 b3 b4 b5 b6 b7 : UInt8) : BitVec 64 :=
  b0.toBitVec.setWidth 64 ||| b1.toBitVec.setWidth 64 <<< 8 ||| b2.toBitVec.setWidth 64 <<< 16 ||| b3.toBitVec.setWidth 64 <<< 24 ||| b4.toBitVec.setWidth 64 <<< 32 ||| b5.toBitVec.setWidth 64 <<< 40 ||| b6.toBitVec.setWidth 64 <<< 48 ||| b7.toBitVec.setWidth 64 <<< 56

theorem word (M : Addr → Option AV) (H : Heap) (b0 b1 b2 b3 b4 b5 b6 b7 : UInt8) (r : List UInt8) : SemF Tryd.prog M 68 [.str (b0 :: b1 :: b2 :: b3 :: b4 :: b5 :: b6 :: b7 :: r)] H fun v h => v = .int .u64 (wordB b0 b1 b2 b3 b4 b5 b6 b7).toNat ∧ h = H := by
  refine fw Tryd.func68 (by kernel_rfl) rfl (by kernel_rfl) fun C L T hT hS => ?_
  have s1 := fun x => shl_bv x 8
  have s2 := fun x => shl_bv x 16
  have s3 := fun x => shl_bv x 24
  have s4 := fun x => shl_bv x 32
  have s5 := fun x => shl_bv x 40
  have s6 := fun x => shl_bv x 48
  have s7 := fun x => shl_bv x 56
  simp only [Nat.reducePow, Int.cast_ofNat_Int] at s1 s2 s3 s4 s5 s6 s7
  simp only [gX,gM,gL,gB,List.map_cons,List.map_nil,wantedA,evOp,opv,absC,absC0,isAggT,resA,resultA,binA,eqA,eqGuardA,isConstA,isFlatScalar,shiftOp,strOp,ordB,readN,sliceCells,lenA,storeA,newA,buildA,fillA,buildSliceA,boundsA,bndA,sliceA,ptrOK,fieldAddrA,fieldA,indexA,extractA,convA,isIntT,biA,bytesOf,setAll,List.replicate,List.cons.injEq,exists_eq_left',exists_eq_left,exists_eq_right',eq_self,Option.map_some,Option.map_none,Option.bind_some,Option.bind_none,Option.some.injEq,Prod.mk.injEq,Nat.reduceAdd,Nat.reduceSub,Nat.reduceMul,Nat.reduceLT,Nat.reduceLeDiff,Nat.reduceEqDiff,Int.reduceEq,Int.reduceLT,Int.reduceLE,Int.reduceNe,Int.reduceAdd,beq_self_eq_true,Option.bind_eq_bind,Option.pure_def,bind_pure_comp,Option.map_eq_map,decide_eq_true_eq,ne_eq,not_false_eq_true,not_true_eq_false,Nat.lt_irrefl,Nat.reduceBEq,if_true,if_false,ite_true,ite_false,reduceCtorEq,Bool.false_eq_true,lenB_nil,lenB_slice,lenB_oslice,lenB_str,lenB_agg,indexAddrA_slice,indexAddrA_oslice,indexAddrA_ptr,indexAddrA_optr,loadA_ptr,loadA_optr,lenK,indexK,loadK,Option.toList_some,Option.toList_none,Int.reduceBEq,Int.reduceBNe,Int.reduceMod,Int.reduceDiv,Int.reduceTDiv,Int.reduceTMod,Int.reduceFDiv,Int.reduceSub,Int.reduceNeg,Int.reduceGT,Int.reduceGE,BitVec.reduceOfInt,BitVec.reduceAnd,BitVec.reduceOr,BitVec.reduceXOr,BitVec.reduceToNat,Int.cast_ofNat_Int,Int.reduceToNat,Int.reducePow,Nat.min_eq_left,Int.reduceMul,List.mapM_cons,List.mapM_nil,hT.all,Tryd.f68,byte_bv,s1,s2,s3,s4,s5,s6,s7,ofInt_bv,wrap_bv]
  rfl

theorem bit7 (b : UInt8) (h : b.toBitVec.getLsbD 7 = false) : b.toNat < 128 := by
  have h1 : b.toBitVec.toNat.testBit 7 = false := h
  have h2 : b.toBitVec.toNat = b.toNat := rfl
  have h3 : b.toNat < 256 := b.toNat_lt
  rw [h2] at h1
  rw [Nat.testBit_eq_decide_div_mod_eq] at h1
  simp at h1
  omega

theorem word_bits (b0 b1 b2 b3 b4 b5 b6 b7 : UInt8) : (wordB b0 b1 b2 b3 b4 b5 b6 b7).getLsbD 7 = b0.toBitVec.getLsbD 7 ∧ (wordB b0 b1 b2 b3 b4 b5 b6 b7).getLsbD 15 = b1.toBitVec.getLsbD 7 ∧ (wordB b0 b1 b2 b3 b4 b5 b6 b7).getLsbD 23 = b2.toBitVec.getLsbD 7 ∧ (wordB b0 b1 b2 b3 b4 b5 b6 b7).getLsbD 31 = b3.toBitVec.getLsbD 7 ∧
    (wordB b0 b1 b2 b3 b4 b5 b6 b7).getLsbD 39 = b4.toBitVec.getLsbD 7 ∧ (wordB b0 b1 b2 b3 b4 b5 b6 b7).getLsbD 47 = b5.toBitVec.getLsbD 7 ∧ (wordB b0 b1 b2 b3 b4 b5 b6 b7).getLsbD 55 = b6.toBitVec.getLsbD 7 ∧ (wordB b0 b1 b2 b3 b4 b5 b6 b7).getLsbD 63 = b7.toBitVec.getLsbD 7 := by
  have z : ∀ (b : UInt8) (i : Nat), 8 ≤ i → b.toBitVec.getLsbD i = false := fun b i hi => BitVec.getLsbD_of_ge _ _ hi
  unfold wordB
  refine ⟨?_, ?_, ?_, ?_, ?_, ?_, ?_, ?_⟩ <;> simp [z]

theorem mask_bits (x : BitVec 64) (h : (x &&& 9259542123273814144#64) = 0#64) (i : Nat) (hi : i < 8) : x.getLsbD (8 * i + 7) = false := by
  have h1 := congrArg (fun y => y.getLsbD (8 * i + 7)) h
  simp only [BitVec.getLsbD_and, BitVec.getLsbD_zero] at h1
  have h2 : (9259542123273814144#64).getLsbD (8 * i + 7) = true := by
    have : i = 0 ∨ i = 1 ∨ i = 2 ∨ i = 3 ∨ i = 4 ∨ i = 5 ∨ i = 6 ∨ i = 7 := by omega
    rcases this with rfl | rfl | rfl | rfl | rfl | rfl | rfl | rfl <;> decide
  rw [h2, Bool.and_true] at h1
  exact h1

theorem word_ascii {b0 b1 b2 b3 b4 b5 b6 b7 : UInt8} (h : ∀ i, i < 8 → (wordB b0 b1 b2 b3 b4 b5 b6 b7).getLsbD (8 * i + 7) = false) (r : List UInt8) : validU (b0 :: b1 :: b2 :: b3 :: b4 :: b5 :: b6 :: b7 :: r) = validU r := by
  obtain ⟨w0, w1, w2, w3, w4, w5, w6, w7⟩ := word_bits b0 b1 b2 b3 b4 b5 b6 b7
  have one : ∀ (b : UInt8) (r : List UInt8), b.toNat < 128 → validU (b :: r) = validU r := fun b r hb => by
    rw [validU_cons (by simp)]
    have : seqLen (b :: r) = 1 := by unfold seqLen; simp [hb]
    simp [this]
  rw [one _ _ (bit7 _ (w0 ▸ h 0 (by omega))), one _ _ (bit7 _ (w1 ▸ h 1 (by omega))), one _ _ (bit7 _ (w2 ▸ h 2 (by omega))), one _ _ (bit7 _ (w3 ▸ h 3 (by omega))),
    one _ _ (bit7 _ (w4 ▸ h 4 (by omega))), one _ _ (bit7 _ (w5 ▸ h 5 (by omega))), one _ _ (bit7 _ (w6 ▸ h 6 (by omega))), one _ _ (bit7 _ (w7 ▸ h 7 (by omega)))]

def wordS : List UInt8 → BitVec 64
  | b0 :: b1 :: b2 :: b3 :: b4 :: b5 :: b6 :: b7 :: _ => wordB b0 b1 b2 b3 b4 b5 b6 b7
  | _ => 0

theorem eight : ∀ s : List UInt8, 8 ≤ s.length → ∃ b0 b1 b2 b3 b4 b5 b6 b7 r, s = b0 :: b1 :: b2 :: b3 :: b4 :: b5 :: b6 :: b7 :: r
  | b0 :: b1 :: b2 :: b3 :: b4 :: b5 :: b6 :: b7 :: r, _ => ⟨b0, b1, b2, b3, b4, b5, b6, b7, r, rfl⟩
  | [], h | [_], h | [_, _], h | [_, _, _], h | [_, _, _, _], h | [_, _, _, _, _], h | [_, _, _, _, _, _], h | [_, _, _, _, _, _, _], h => by simp at h

theorem wordStr (M : Addr → Option AV) (H : Heap) {s : List UInt8} (hs : 8 ≤ s.length) : SemF Tryd.prog M 68 [.str s] H fun v h => v = .int .u64 (wordS s).toNat ∧ h = H := by
  obtain ⟨b0, b1, b2, b3, b4, b5, b6, b7, r, rfl⟩ := eight s hs
  exact word M H b0 b1 b2 b3 b4 b5 b6 b7 r

/-- No byte of eight is 128 or more. -/
def low8 (x : BitVec 64) : Prop := ∀ i, i < 8 → x.getLsbD (8 * i + 7) = false

theorem low8_mask {x : BitVec 64} (h : (x &&& 9259542123273814144#64) = 0#64) : low8 x := fun i hi => mask_bits x h i hi
theorem low8_or {x y : BitVec 64} (h : low8 (x ||| y)) : low8 x ∧ low8 y := by
  constructor <;> intro i hi <;> have := h i hi <;> rw [BitVec.getLsbD_or, Bool.or_eq_false_iff] at this
  · exact this.1
  · exact this.2

theorem ascii8 {s : List UInt8} (hs : 8 ≤ s.length) (h : low8 (wordS s)) : validU s = validU (s.drop 8) := by
  obtain ⟨b0, b1, b2, b3, b4, b5, b6, b7, r, rfl⟩ := eight s hs
  rw [word_ascii h]; rfl

theorem ascii16 {s : List UInt8} (hs : 16 ≤ s.length) (h : low8 (wordS s ||| wordS (s.drop 8))) : validU s = validU (s.drop 16) := by
  obtain ⟨h1, h2⟩ := low8_or h
  rw [ascii8 (by omega) h1, ascii8 (by simp; omega) h2, List.drop_drop]

theorem ascii32 {s : List UInt8} (hs : 32 ≤ s.length) (h : low8 ((wordS s ||| wordS (s.drop 8)) ||| (wordS (s.drop 16) ||| wordS (s.drop 24)))) : validU s = validU (s.drop 32) := by
  obtain ⟨h1, h2⟩ := low8_or h
  obtain ⟨h3, h4⟩ := low8_or h2
  rw [ascii16 (by omega) h1, ascii8 (by simp; omega) h3, List.drop_drop, ascii8 (by simp; omega) h4, List.drop_drop]

/-- The mask's test, as the walk meets it. -/
theorem mask_zero (x : BitVec 64) : (((x &&& 9259542123273814144#64).toNat : Int) == 0) = decide ((x &&& 9259542123273814144#64) = 0#64) := by
  rw [Bool.eq_iff_iff]
  simp [BitVec.toNat_eq]

end Go.Proofs.YtnmignkabcblgaaDoor.C
