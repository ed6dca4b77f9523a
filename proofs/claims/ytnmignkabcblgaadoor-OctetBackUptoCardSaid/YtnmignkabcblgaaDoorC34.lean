/- Part of a claim: a piece that was written is read again. -/
import Derived.Test.YtnmignkabcblgaaDoorC33
set_option linter.unusedSimpArgs false
set_option linter.unusedVariables false
namespace Go.Proofs.YtnmignkabcblgaaDoor.C
open Go Go.RowKit Go.Proofs.YtnmignkabcblgaaDoor.E Go.Proofs.YtnmignkabcblgaaDoor.B

theorem gV_leI (v : Int) (n : Nat) (r : List UInt8) (h : n ≤ 8) : ((gV (leI v n ++ r) n).toNat : Int) = v % 256 ^ n ∧ gE (leI v n ++ r) n = 0 ∧ gR (leI v n ++ r) n = r := by
  have hl : ¬ (leI v n ++ r).length < n := by rw [List.length_append, leI_length]; omega
  refine ⟨?_, by unfold gE; rw [if_neg hl], ?_⟩
  · unfold gV; rw [if_neg hl]; exact numB_leI v n r n (Nat.le_refl _) h
  · unfold gR; rw [if_neg hl, List.drop_append_of_le_length (by rw [leI_length]; omega), List.drop_of_length_le (by rw [leI_length]; omega)]; rfl

theorem nan64 : isNaN .f64 9221120237041090561 = true := by kernel_rfl
theorem nan32 : isNaN .f32 2143289344 = true := by kernel_rfl

theorem bits64_back {f : Nat} (hf : f < 2 ^ 64) : bits64 ((bits64 f) % 256 ^ 8).toNat = bits64 f := by
  have e : (256 : Int) ^ 8 = 18446744073709551616 := by decide
  rw [e]
  unfold bits64
  cases h : isNaN .f64 f with
  | true =>
    rw [if_pos rfl]
    rw [show ((9221120237041090561 : Int) % 18446744073709551616).toNat = 9221120237041090561 by decide, nan64, if_pos rfl]
  | false =>
    rw [if_neg Bool.false_ne_true]
    have : ((f : Int) % 18446744073709551616).toNat = f := by omega
    rw [this, h, if_neg Bool.false_ne_true]

theorem bits32_back {g : Nat} (hg : g < 2 ^ 32) : bits32 (IntKind.u32.wrap ((IntKind.u64.wrap (bits32 g)) % 256 ^ 4)).toNat = bits32 g := by
  have e : (256 : Int) ^ 4 = 4294967296 := by decide
  rw [e]
  have w : ∀ x : Int, IntKind.u64.wrap x = x % 18446744073709551616 := fun _ => rfl
  have w2 : ∀ x : Int, IntKind.u32.wrap x = x % 4294967296 := fun _ => rfl
  rw [w, w2]
  unfold bits32
  cases h : isNaN .f32 g with
  | true =>
    rw [if_pos rfl]
    rw [show ((2143289344 : Int) % 18446744073709551616 % 4294967296 % 4294967296).toNat = 2143289344 by decide, nan32, if_pos rfl]
  | false =>
    rw [if_neg Bool.false_ne_true]
    have : ((g : Int) % 18446744073709551616 % 4294967296 % 4294967296).toNat = g := by omega
    rw [this, h, if_neg Bool.false_ne_true]

theorem text_back {s : List UInt8} (h : textErr s = 0) (r : List UInt8) : tE (textBytes s ++ r) = 0 ∧ tS (textBytes s ++ r) = s ∧ tR (textBytes s ++ r) = r := by
  have h1 : ¬ 4096 < s.length := by intro h1; unfold textErr at h; rw [if_pos h1] at h; cases h
  have h2 : validU s = true := by
    unfold textErr at h
    rw [if_neg h1] at h
    cases hv : validU s with
    | true => rfl
    | false => rw [hv] at h; cases h
  have hb : textBytes s = leI s.length 2 ++ s := by unfold textBytes; rw [if_neg h1, if_pos h2]
  rw [hb, List.append_assoc]
  obtain ⟨e1, e2, e3⟩ := gV_leI s.length 2 (s ++ r) (by omega)
  have hn : tN (leI s.length 2 ++ (s ++ r)) = s.length := by
    unfold tN
    have e : (256 : Int) ^ 2 = 65536 := by decide
    rw [e] at e1
    omega
  have hd : (leI s.length 2 ++ (s ++ r)).drop 2 = s ++ r := by
    rw [List.drop_append_of_le_length (by rw [leI_length]; omega), List.drop_of_length_le (by rw [leI_length]; omega)]; rfl
  have ht : tE (leI s.length 2 ++ (s ++ r)) = 0 := by
    unfold tE
    rw [if_neg (by rw [List.length_append, leI_length]; omega), hn, if_neg h1, hd, if_neg (by rw [List.length_append]; omega), List.take_left' rfl, if_pos h2]
  refine ⟨ht, ?_, ?_⟩
  · unfold tS; rw [ht, if_pos rfl, hd, hn, List.take_left' rfl]
  · unfold tR; rw [ht, if_pos rfl, hd, hn, List.drop_left' rfl]

end Go.Proofs.YtnmignkabcblgaaDoor.C
