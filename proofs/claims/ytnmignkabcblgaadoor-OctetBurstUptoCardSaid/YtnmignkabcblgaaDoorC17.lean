/- Part of a claim: bursts: a sum tells one to 32 neighbouring bits. -/
import Derived.Test.YtnmignkabcblgaaDoorC16
set_option linter.unusedSimpArgs false
set_option linter.unusedVariables false
namespace Go.Proofs.YtnmignkabcblgaaDoor.C
open Go Go.RowKit Go.Proofs.YtnmignkabcblgaaDoor.E Go.Proofs.YtnmignkabcblgaaDoor.B

theorem crcStep_xor (x y : BitVec 32) : crcStep (x ^^^ y) = crcStep x ^^^ crcStep y := by
  unfold crcStep
  rw [BitVec.getLsbD_xor, BitVec.ushiftRight_xor_distrib]
  have c1 : ∀ X Y P : BitVec 32, (X ^^^ P) ^^^ Y = (X ^^^ Y) ^^^ P := fun X Y P => by rw [BitVec.xor_assoc, BitVec.xor_comm P, BitVec.xor_assoc]
  have c2 : ∀ X Y P : BitVec 32, (X ^^^ P) ^^^ (Y ^^^ P) = X ^^^ Y := fun X Y P => by rw [c1, ← BitVec.xor_assoc, BitVec.xor_assoc, BitVec.xor_self, BitVec.xor_zero]
  cases x.getLsbD 0 <;> cases y.getLsbD 0
  · rfl
  · exact BitVec.xor_assoc _ _ _
  · exact (c1 _ _ _).symm
  · exact (c2 _ _ _).symm

theorem crcSteps_xor : ∀ (n : Nat) (x y : BitVec 32), crcSteps n (x ^^^ y) = crcSteps n x ^^^ crcSteps n y
  | 0, _, _ => rfl
  | n + 1, x, y => by rw [crcSteps, crcStep_xor, crcSteps_xor n]; rfl

theorem crcSteps_add : ∀ (m n : Nat) (x : BitVec 32), crcSteps (m + n) x = crcSteps n (crcSteps m x)
  | 0, n, x => by rw [Nat.zero_add]; rfl
  | m + 1, n, x => by rw [show m + 1 + n = (m + n) + 1 by omega, crcSteps, crcSteps_add m n]; rfl

theorem crcStep_ne {x : BitVec 32} (h : x ≠ 0#32) : crcStep x ≠ 0#32 := by
  intro h0
  unfold crcStep at h0
  split at h0
  · have h1 := congrArg (fun z : BitVec 32 => z.getLsbD 31) h0
    simp at h1
  · rename_i hb
    refine h (BitVec.eq_of_getLsbD_eq fun i hi => ?_)
    cases i with
    | zero => simpa using hb
    | succ i =>
      have h1 := congrArg (fun z : BitVec 32 => z.getLsbD i) h0
      simp only [BitVec.getLsbD_ushiftRight, BitVec.getLsbD_zero] at h1
      rw [Nat.add_comm] at h1
      rw [h1, BitVec.getLsbD_zero]

theorem crcSteps_ne : ∀ (n : Nat) {x : BitVec 32}, x ≠ 0#32 → crcSteps n x ≠ 0#32
  | 0, _, h => h
  | n + 1, _, h => crcSteps_ne n (crcStep_ne h)

theorem crcSteps_two : ∀ (i : Nat), i < 32 → crcSteps i (1#32 <<< i) = 1#32
  | 0, _ => rfl
  | i + 1, h => by
    have : crcStep (1#32 <<< (i + 1)) = 1#32 <<< i := by
      unfold crcStep
      rw [if_neg (by simp)]
      refine BitVec.eq_of_getLsbD_eq fun j hj => ?_
      simp only [BitVec.getLsbD_ushiftRight, BitVec.getLsbD_shiftLeft, BitVec.getLsbD_one]
      by_cases h1 : j = i
      · subst h1; simp [hj, show 1 + j < 32 by omega, show j + 1 = 1 + j by omega]
      · by_cases h2 : j < i
        · simp [h2]
          omega
        · have : j - i ≠ 0 := by omega
          have : 1 + j - (i + 1) ≠ 0 := by omega
          simp [*]
    rw [crcSteps, this, crcSteps_two i (by omega)]

theorem fold_xor : ∀ (bs : List UInt8) (x y : BitVec 32), bs.foldl crcByte (x ^^^ y) = bs.foldl crcByte x ^^^ crcSteps (8 * bs.length) y
  | [], _, _ => rfl
  | b :: bs, x, y => by
    have h : crcByte (x ^^^ y) b = crcByte x b ^^^ crcSteps 8 y := by
      unfold crcByte
      rw [← crcSteps_xor]
      congr 1
      rw [BitVec.xor_assoc, BitVec.xor_assoc, BitVec.xor_comm y]
    rw [List.foldl_cons, h, fold_xor bs, List.foldl_cons, List.length_cons, show 8 * (bs.length + 1) = 8 + 8 * bs.length by omega, crcSteps_add]

/-- One bit turned. -/
theorem crc_flip (bs : List UInt8) (k j : Nat) (hk : k < bs.length) (hj : j < 8) (b' : UInt8) (hb : b'.toBitVec.setWidth 32 = bs[k].toBitVec.setWidth 32 ^^^ 1#32 <<< j) : crcRaw (bs.set k b') = crcRaw bs ^^^ crcSteps (8 * bs.length - (8 * k + j)) 1#32 := by
  have e1 : bs = bs.take k ++ bs[k] :: bs.drop (k + 1) := by rw [← List.drop_eq_getElem_cons hk, List.take_append_drop]
  have e2 : bs.set k b' = bs.take k ++ b' :: bs.drop (k + 1) := by rw [List.set_eq_take_append_cons_drop, if_pos hk]
  unfold crcRaw
  rw [e2]
  conv => rhs; rw [e1]
  rw [List.foldl_append, List.foldl_append, List.foldl_cons, List.foldl_cons]
  obtain ⟨x, hx⟩ : ∃ x, x = (bs.take k).foldl crcByte 4294967295#32 := ⟨_, rfl⟩
  rw [← hx]
  have h : crcByte x b' = crcByte x bs[k] ^^^ crcSteps (8 - j) 1#32 := by
    unfold crcByte
    rw [hb, ← BitVec.xor_assoc, crcSteps_xor]
    congr 1
    have : 8 = j + (8 - j) := by omega
    conv => lhs; rw [this]
    rw [crcSteps_add, crcSteps_two j (by omega)]
  rw [h, fold_xor, ← crcSteps_add]
  congr 2
  simp only [List.length_append, List.length_cons, List.length_drop, List.length_take]
  omega

/-- The bytes of two sums are the same only if the sums are. -/
theorem leI_inj {x y : BitVec 32} (h : leI (x.toNat : Int) 4 = leI (y.toNat : Int) 4) : x = y := by
  have hx := x.isLt
  have hy := y.isLt
  simp only [leI, byteI, List.cons.injEq, Int.fdiv_eq_ediv_of_nonneg _ (show (0 : Int) ≤ 256 by omega)] at h
  obtain ⟨h1, h2, h3, h4, _⟩ := h
  have k1 := congrArg UInt8.toNat h1
  have k2 := congrArg UInt8.toNat h2
  have k3 := congrArg UInt8.toNat h3
  have k4 := congrArg UInt8.toNat h4
  simp only [UInt8.toNat_ofNat'] at k1 k2 k3 k4
  refine BitVec.eq_of_toNat_eq ?_
  omega

/-- What a seal with turned bits opens to. -/
theorem open_turned {bs bs' : List UInt8} (hl : bs'.length = bs.length) : openErr (bs' ++ leI (crc bs).toNat 4) = if crcRaw bs' = crcRaw bs then 0 else 13 := by
  unfold openErr
  have h1 : (bs' ++ leI (crc bs).toNat 4).length = bs'.length + 4 := by simp [leI_length]
  rw [h1, if_neg (by omega)]
  have h2 : (bs' ++ leI (crc bs).toNat 4).take (bs'.length + 4 - 4) = bs' := by
    rw [show bs'.length + 4 - 4 = bs'.length by omega, List.take_left']; rfl
  rw [h2]
  by_cases h : crcRaw bs' = crcRaw bs
  · rw [if_pos h, if_pos]
    unfold sealB crc
    rw [h]
  · rw [if_neg h, if_neg]
    intro hs
    unfold sealB at hs
    have h3 := leI_inj (List.append_cancel_left hs)
    unfold crc at h3
    exact h (by simpa using congrArg (~~~ ·) h3)

end Go.Proofs.YtnmignkabcblgaaDoor.C
