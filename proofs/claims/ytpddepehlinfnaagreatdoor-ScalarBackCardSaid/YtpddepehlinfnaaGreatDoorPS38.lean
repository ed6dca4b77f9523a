/- Part of a claim: the document's decimal; the program's Print. -/
import Derived.Test.YtpddepehlinfnaaGreatDoorPS37
set_option linter.unusedSimpArgs false
set_option linter.unusedVariables false
set_option maxRecDepth 100000
set_option maxHeartbeats 10000000
namespace Go.Proofs.YtpddepehlinfnaaGreatDoor.B
open Go Go.RowKit Go.Proofs.YtpddepehlinfnaaGreatDoor.E Go.Proofs.YtpddepehlinfnaaGreatDoor.FL

theorem dec_len (n : Nat) : (Lib.decDigits n).length ≤ n + 1 := by
  induction n using Nat.strongRecOn with
  | _ n ih =>
    rw [Lib.decDigits]
    split
    · simp
    · have := ih (n / 10) (by omega)
      rw [List.length_append, List.length_singleton]
      omega
theorem addS {T : Tab} {t : TypeId} {o p : Operand} {a b : List UInt8} (h : a.length + b.length ≤ 1000000) : binA T .add t o p (.str a) (.str b) = some (.str (a ++ b)) := by
  simp only [binA, strOp]
  rw [if_pos (by omega)]

/-- A float's first letters: sign, 0x1, the fraction. -/
def hdN (neg : Bool) (f : Nat) : List Nat := sgN neg ++ [48, 120, 49] ++ (if f = 0 then [] else 46 :: hexF 13 f)

theorem hexF_112 : ∀ (n f : Nat), ∀ x ∈ hexF n f, f < 4503599627370496 → 48 ≤ x ∧ x < 112
  | 0, _, x, h, _ => by simp [hexF] at h
  | n + 1, f, x, h, hf => by
    unfold hexF at h
    split at h
    · simp at h
    · rcases List.mem_cons.1 h with rfl | h
      · have : f / 281474976710656 < 16 := by omega
        unfold hx; split <;> omega
      · exact hexF_112 n _ x h (by omega)
theorem hdN_len (neg : Bool) (f : Nat) : (hdN neg f).length ≤ 18 := by
  have := hexF_len 13 f
  have h2 : (sgN neg).length ≤ 1 := by unfold sgN; split <;> simp
  unfold hdN
  rw [List.length_append, List.length_append]
  split
  · simp; omega
  · simp; omega
theorem hdN_mem {neg : Bool} {f : Nat} (hf : f < 4503599627370496) : (112 : UInt8) ∉ tx (hdN neg f) := by
  intro h
  obtain ⟨x, hx, e⟩ := List.mem_map.1 h
  have h2 : x < 256 ∧ x ≠ 112 := by
    unfold hdN sgN at hx
    simp only [List.mem_append, List.mem_cons, List.not_mem_nil, or_false] at hx
    rcases hx with (hx | hx) | hx
    · split at hx
      · simp at hx; omega
      · simp at hx
    · omega
    · split at hx
      · simp at hx
      · rcases List.mem_cons.1 hx with rfl | hx
        · omega
        · have := hexF_112 13 f x hx hf; omega
  have h3 : (UInt8.ofNat x).toNat = (112 : UInt8).toNat := congrArg UInt8.toNat e
  rw [UInt8.toNat_ofNat', Nat.mod_eq_of_lt h2.1] at h3
  exact h2.2 h3
theorem outX_cut (neg : Bool) (f : Nat) (eneg : Bool) (n : Nat) : tx (outX neg f eneg n) = tx (hdN neg f) ++ 112 :: ((if eneg then 45 else 43) :: tx (dgN n)) := by
  have e : outX neg f eneg n = hdN neg f ++ 112 :: ((if eneg then 45 else 43) :: dgN n) := by
    unfold outX hdN expN
    simp
  rw [e]
  unfold tx
  rw [List.map_append, List.map_cons, List.map_cons]
  cases eneg <;> rfl
theorem dgN_ok {n : Nat} (h : n ≤ 1100) : (∀ c ∈ dgN n, 48 ≤ c ∧ c ≤ 57) ∧ 1 ≤ (dgN n).length ∧ (dgN n).length ≤ 4 ∧ num (dgN n) = n := by
  unfold dgN
  by_cases c1 : n < 100
  · rw [if_pos c1]
    refine ⟨?_, by simp, by simp, ?_⟩
    · intro c hc
      simp only [List.mem_cons, List.not_mem_nil, or_false] at hc
      omega
    · show (0 * 10 + (n / 10 + 48 - 48)) * 10 + (n % 10 + 48 - 48) = n
      omega
  · rw [if_neg c1]
    by_cases c2 : n < 1000
    · rw [if_pos c2]
      refine ⟨?_, by simp, by simp, ?_⟩
      · intro c hc
        simp only [List.mem_cons, List.not_mem_nil, or_false] at hc
        omega
      · show ((0 * 10 + (n / 100 + 48 - 48)) * 10 + (n / 10 % 10 + 48 - 48)) * 10 + (n % 10 + 48 - 48) = n
        omega
    · rw [if_neg c2]
      refine ⟨?_, by simp, by simp, ?_⟩
      · intro c hc
        simp only [List.mem_cons, List.not_mem_nil, or_false] at hc
        omega
      · show (((0 * 10 + (n / 1000 + 48 - 48)) * 10 + (n / 100 % 10 + 48 - 48)) * 10 + (n / 10 % 10 + 48 - 48)) * 10 + (n % 10 + 48 - 48) = n
        omega

theorem itoa_len {n : Int} (h : n.natAbs ≤ 100000) : (Lib.itoa n).length ≤ 100002 := by
  unfold Lib.itoa
  split
  · have := dec_len n.natAbs
    simp; omega
  · have := dec_len n.toNat
    omega

end Go.Proofs.YtpddepehlinfnaaGreatDoor.B
