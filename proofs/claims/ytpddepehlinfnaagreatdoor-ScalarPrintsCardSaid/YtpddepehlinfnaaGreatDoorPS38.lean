/- Part of a claim: the document's decimal; the program's Print. -/
import Derived.Test.YtpddepehlinfnaaGreatDoorPS37
set_option linter.unusedSimpArgs false
set_option linter.unusedVariables false
set_option maxRecDepth 100000
set_option maxHeartbeats 10000000
namespace Go.Proofs.YtpddepehlinfnaaGreatDoor.B
open Go Go.RowKit Go.Proofs.YtpddepehlinfnaaGreatDoor.E Go.Proofs.YtpddepehlinfnaaGreatDoor.FL

def digs : List UInt8 := [48, 49, 50, 51, 52, 53, 54, 55, 56, 57, 97, 98, 99, 100, 101, 102]
theorem strMid {T : Tab} (hT : Ty T) {H : Heap} {s : List UInt8} {n m : Nat} (h1 : n ≤ m) (h : m ≤ s.length) : sliceA T H 9 (.str s) (some (.int .i64 (n : Int))) (some (.int .i64 (m : Int))) none = some (.str ((s.take m).drop n)) := by
  have hb : 0 ≤ (n : Int) ∧ (n : Int) ≤ (m : Int) := ⟨by omega, by omega⟩
  have hb2 : 0 ≤ (m : Int) ∧ (m : Int) ≤ (s.length : Int) := ⟨by omega, by omega⟩
  simp [sliceA, hT.ty9, boundsA, bndA, hb, hb2, h, h1]
theorem digs_mid {d : Nat} (h : d < 10) : (digs.take (d + 1)).drop d = [UInt8.ofNat (48 + d)] := by
  have : ∀ d : Fin 10, (digs.take (d.val + 1)).drop d.val = [UInt8.ofNat (48 + d.val)] := by decide
  exact this ⟨d, h⟩
theorem digs_hx {d : Nat} (h : d < 16) : (digs.take (d + 1)).drop d = [UInt8.ofNat (hx d)] := by
  have : ∀ d : Fin 16, (digs.take (d.val + 1)).drop d.val = [UInt8.ofNat (hx d.val)] := by decide
  exact this ⟨d, h⟩
theorem dec_len (n : Nat) : (Lib.decDigits n).length ≤ n + 1 := by
  induction n using Nat.strongRecOn with
  | _ n ih =>
    rw [Lib.decDigits]
    split
    · simp
    · have := ih (n / 10) (by omega)
      rw [List.length_append, List.length_singleton]
      omega
theorem addS {T : Tab} {t : TypeId} {o p : Operand} {a b : List UInt8} (h : a.length + b.length ≤ 1000000) : binA T .add t o p (.str a) (.str b) = some (.str (a ++ b)) := by
  simp only [binA, strOp]
  rw [if_pos (by omega)]

theorem rDecimal (M : Addr → Option AV) (n : Nat) : n ≤ 100000 → ∀ H, SemF Tryz.prog M 78 [.int .i64 (n : Int)] H fun v h => v = .str (Lib.decDigits n) ∧ h = H := by
  induction n using Nat.strongRecOn with
  | _ n ih =>
    intro hn H
    by_cases c : n < 10
    · have b1 : decide ((n : Int) < 10) = true := decide_eq_true (by omega)
      have i1 : IntKind.i64.wrap ((n : Int) + 1) = ((n + 1 : Nat) : Int) := by rw [wrap_i64 (by omega) (by omega)]; omega
      rw [Lib.decDigits, dif_pos c]
      refine fpure rfl rfl (fq Tryz.func78 (by kernel_rfl) rfl (by kernel_rfl) fun C L T hT hS => ?_) H
      have t1 : ∀ H, sliceA T H 9 (.str [48, 49, 50, 51, 52, 53, 54, 55, 56, 57, 97, 98, 99, 100, 101, 102]) (some (.int .i64 (n : Int))) (some (.int .i64 ((n + 1 : Nat) : Int))) none = some (.str [UInt8.ofNat (48 + n)]) := fun H => by
        rw [← digs_mid c]; exact strMid hT (by omega) (by show n + 1 ≤ 16; omega)
      simp only [gX,gT,gM,gL,gB,wantedA,evOp,opv,absC,absC0,isAggT,resA,resultA,binA,eqA,eqGuardA,isConstA,isFlatScalar,shiftOp,strOp,ordB,readN,sliceCells,lenA,storeA,newA,buildA,fillA,buildSliceA,boundsA,bndA,ptrOK,fieldAddrA,fieldA,indexA,extractA,convA,isIntT,biA,bytesOf,setAll,List.replicate,Nat.reduceAdd,Nat.reduceSub,Nat.reduceMul,Nat.reduceLT,Nat.reduceLeDiff,Nat.reduceEqDiff,Int.reduceEq,Int.reduceLT,Int.reduceLE,Int.reduceNe,Int.reduceAdd,Nat.reduceBEq,reduceCtorEq,lenB_nil,lenB_slice,lenB_oslice,lenB_str,lenB_agg,indexAddrA_slice,indexAddrA_oslice,indexAddrA_ptr,indexAddrA_optr,loadA_ptr,loadA_optr,lenK,indexK,loadK,Int.reduceBEq,Int.reduceBNe,Int.reduceMod,Int.reduceDiv,Int.reduceTDiv,Int.reduceTMod,Int.reduceFDiv,Int.reduceSub,Int.reduceNeg,Int.reduceGT,Int.reduceGE,BitVec.reduceOfInt,BitVec.reduceAnd,BitVec.reduceOr,BitVec.reduceXOr,BitVec.reduceToNat,Int.reduceToNat,Int.reducePow,Int.reduceMul,hT.all,Tryz.f78,b1,i1,t1]
    · have b1 : decide ((n : Int) < 10) = false := decide_eq_false (by omega)
      have q1 : (n : Int).tdiv 10 = ((n / 10 : Nat) : Int) := by rw [Int.tdiv_eq_ediv_of_nonneg (by omega)]; omega
      have q2 : (n : Int).tmod 10 = ((n % 10 : Nat) : Int) := by rw [Int.tmod_eq_emod_of_nonneg (by omega)]; omega
      have i1 : IntKind.i64.wrap ((n / 10 : Nat) : Int) = ((n / 10 : Nat) : Int) := wrap_i64 (by omega) (by omega)
      have i2 : IntKind.i64.wrap ((n % 10 : Nat) : Int) = ((n % 10 : Nat) : Int) := wrap_i64 (by omega) (by omega)
      have i3 : IntKind.i64.wrap (((n % 10 : Nat) : Int) + 1) = ((n % 10 + 1 : Nat) : Int) := by rw [wrap_i64 (by omega) (by omega)]; omega
      have hr := ih (n / 10) (by omega) (by omega) []
      have hl := dec_len (n / 10)
      rw [Lib.decDigits, dif_neg c]
      obtain ⟨dd, hdd⟩ : ∃ dd, dd = Lib.decDigits (n / 10) := ⟨_, rfl⟩
      rw [← hdd] at hr hl ⊢
      refine fpure rfl rfl (fq Tryz.func78 (by kernel_rfl) rfl (by kernel_rfl) fun C L T hT hS => ?_) H
      have t1 : ∀ H, sliceA T H 9 (.str [48, 49, 50, 51, 52, 53, 54, 55, 56, 57, 97, 98, 99, 100, 101, 102]) (some (.int .i64 ((n % 10 : Nat) : Int))) (some (.int .i64 ((n % 10 + 1 : Nat) : Int))) none = some (.str [UInt8.ofNat (48 + n % 10)]) := fun H => by
        rw [← digs_mid (d := n % 10) (by omega)]; exact strMid hT (by omega) (by show n % 10 + 1 ≤ 16; omega)
      have ad : dd.length + 1 ≤ 9223372036854775807 := by omega
      obtain ⟨w, hw⟩ : ∃ w, w = n / 10 := ⟨_, rfl⟩
      obtain ⟨u, hu⟩ : ∃ u, u = n % 10 := ⟨_, rfl⟩
      rw [← hw] at q1 i1 hr
      rw [← hu] at q2 i2 i3 t1 ⊢
      simp only [gX,gT,gM,gL,gB,wantedA,evOp,opv,absC,absC0,isAggT,resA,resultA,binA,eqA,eqGuardA,isConstA,isFlatScalar,shiftOp,strOp,ordB,readN,sliceCells,lenA,storeA,newA,buildA,fillA,buildSliceA,boundsA,bndA,sliceA,ptrOK,fieldAddrA,fieldA,indexA,extractA,convA,isIntT,biA,bytesOf,setAll,List.replicate,Nat.reduceAdd,Nat.reduceSub,Nat.reduceMul,Nat.reduceLT,Nat.reduceLeDiff,Nat.reduceEqDiff,Int.reduceEq,Int.reduceLT,Int.reduceLE,Int.reduceNe,Int.reduceAdd,Nat.reduceBEq,reduceCtorEq,lenB_nil,lenB_slice,lenB_oslice,lenB_str,lenB_agg,indexAddrA_slice,indexAddrA_oslice,indexAddrA_ptr,indexAddrA_optr,loadA_ptr,loadA_optr,lenK,indexK,loadK,Int.reduceBEq,Int.reduceBNe,Int.reduceMod,Int.reduceDiv,Int.reduceTDiv,Int.reduceTMod,Int.reduceFDiv,Int.reduceSub,Int.reduceNeg,Int.reduceGT,Int.reduceGE,BitVec.reduceOfInt,BitVec.reduceAnd,BitVec.reduceOr,BitVec.reduceXOr,BitVec.reduceToNat,Int.reduceToNat,Int.reducePow,Int.reduceMul,hT.all,Tryz.f78,b1,q1,i1]
      refine hS.ex hr ?_
      simp only [gX,gT,gM,gL,gB,wantedA,evOp,opv,absC,absC0,isAggT,resA,resultA,binA,eqA,eqGuardA,isConstA,isFlatScalar,shiftOp,strOp,ordB,readN,sliceCells,lenA,storeA,newA,buildA,fillA,buildSliceA,boundsA,bndA,ptrOK,fieldAddrA,fieldA,indexA,extractA,convA,isIntT,biA,bytesOf,setAll,List.replicate,Nat.reduceAdd,Nat.reduceSub,Nat.reduceMul,Nat.reduceLT,Nat.reduceLeDiff,Nat.reduceEqDiff,Int.reduceEq,Int.reduceLT,Int.reduceLE,Int.reduceNe,Int.reduceAdd,Nat.reduceBEq,reduceCtorEq,lenB_nil,lenB_slice,lenB_oslice,lenB_str,lenB_agg,indexAddrA_slice,indexAddrA_oslice,indexAddrA_ptr,indexAddrA_optr,loadA_ptr,loadA_optr,lenK,indexK,loadK,Int.reduceBEq,Int.reduceBNe,Int.reduceMod,Int.reduceDiv,Int.reduceTDiv,Int.reduceTMod,Int.reduceFDiv,Int.reduceSub,Int.reduceNeg,Int.reduceGT,Int.reduceGE,BitVec.reduceOfInt,BitVec.reduceAnd,BitVec.reduceOr,BitVec.reduceXOr,BitVec.reduceToNat,Int.reduceToNat,Int.reducePow,Int.reduceMul,hT.all,q2,i2,i3,t1,ad]
      try rfl

/-- A float's first letters: sign, 0x1, the fraction. -/
def hdN (neg : Bool) (f : Nat) : List Nat := sgN neg ++ [48, 120, 49] ++ (if f = 0 then [] else 46 :: hexF 13 f)

theorem hexF_112 : ∀ (n f : Nat), ∀ x ∈ hexF n f, f < 4503599627370496 → 48 ≤ x ∧ x < 112
  | 0, _, x, h, _ => by simp [hexF] at h
  | n + 1, f, x, h, hf => by
    unfold hexF at h
    split at h
    · simp at h
    · rcases List.mem_cons.1 h with rfl | h
      · have : f / 281474976710656 < 16 := by omega
        unfold hx; split <;> omega
      · exact hexF_112 n _ x h (by omega)
theorem hdN_len (neg : Bool) (f : Nat) : (hdN neg f).length ≤ 18 := by
  have := hexF_len 13 f
  have h2 : (sgN neg).length ≤ 1 := by unfold sgN; split <;> simp
  unfold hdN
  rw [List.length_append, List.length_append]
  split
  · simp; omega
  · simp; omega
theorem hdN_mem {neg : Bool} {f : Nat} (hf : f < 4503599627370496) : (112 : UInt8) ∉ tx (hdN neg f) := by
  intro h
  obtain ⟨x, hx, e⟩ := List.mem_map.1 h
  have h2 : x < 256 ∧ x ≠ 112 := by
    unfold hdN sgN at hx
    simp only [List.mem_append, List.mem_cons, List.not_mem_nil, or_false] at hx
    rcases hx with (hx | hx) | hx
    · split at hx
      · simp at hx; omega
      · simp at hx
    · omega
    · split at hx
      · simp at hx
      · rcases List.mem_cons.1 hx with rfl | hx
        · omega
        · have := hexF_112 13 f x hx hf; omega
  have h3 : (UInt8.ofNat x).toNat = (112 : UInt8).toNat := congrArg UInt8.toNat e
  rw [UInt8.toNat_ofNat', Nat.mod_eq_of_lt h2.1] at h3
  exact h2.2 h3
theorem outX_cut (neg : Bool) (f : Nat) (eneg : Bool) (n : Nat) : tx (outX neg f eneg n) = tx (hdN neg f) ++ 112 :: ((if eneg then 45 else 43) :: tx (dgN n)) := by
  have e : outX neg f eneg n = hdN neg f ++ 112 :: ((if eneg then 45 else 43) :: dgN n) := by
    unfold outX hdN expN
    simp
  rw [e]
  unfold tx
  rw [List.map_append, List.map_cons, List.map_cons]
  cases eneg <;> rfl
theorem dgN_ok {n : Nat} (h : n ≤ 1100) : (∀ c ∈ dgN n, 48 ≤ c ∧ c ≤ 57) ∧ 1 ≤ (dgN n).length ∧ (dgN n).length ≤ 4 ∧ num (dgN n) = n := by
  unfold dgN
  by_cases c1 : n < 100
  · rw [if_pos c1]
    refine ⟨?_, by simp, by simp, ?_⟩
    · intro c hc
      simp only [List.mem_cons, List.not_mem_nil, or_false] at hc
      omega
    · show (0 * 10 + (n / 10 + 48 - 48)) * 10 + (n % 10 + 48 - 48) = n
      omega
  · rw [if_neg c1]
    by_cases c2 : n < 1000
    · rw [if_pos c2]
      refine ⟨?_, by simp, by simp, ?_⟩
      · intro c hc
        simp only [List.mem_cons, List.not_mem_nil, or_false] at hc
        omega
      · show ((0 * 10 + (n / 100 + 48 - 48)) * 10 + (n / 10 % 10 + 48 - 48)) * 10 + (n % 10 + 48 - 48) = n
        omega
    · rw [if_neg c2]
      refine ⟨?_, by simp, by simp, ?_⟩
      · intro c hc
        simp only [List.mem_cons, List.not_mem_nil, or_false] at hc
        omega
      · show (((0 * 10 + (n / 1000 + 48 - 48)) * 10 + (n / 100 % 10 + 48 - 48)) * 10 + (n / 10 % 10 + 48 - 48)) * 10 + (n % 10 + 48 - 48) = n
        omega

theorem itoa_len {n : Int} (h : n.natAbs ≤ 100000) : (Lib.itoa n).length ≤ 100002 := by
  unfold Lib.itoa
  split
  · have := dec_len n.natAbs
    simp; omega
  · have := dec_len n.toNat
    omega

end Go.Proofs.YtpddepehlinfnaaGreatDoor.B
