/- Part of a claim: the document reads a dyad. -/
import Derived.Test.YtaaecodkdgkjoaaDoorPT11
import Derived.Test.YtaaecodkdgkjoaaDoorPT9
set_option linter.unusedSimpArgs false
set_option linter.unusedVariables false
namespace Go.Proofs.YtaaecodkdgkjoaaDoor.B
open Go Go.RowKit Go.Proofs.YtaaecodkdgkjoaaDoor.E

/-! ### A written text, place by place (plain) -/
theorem not_dig {c : UInt8} (h : c.toNat < 48 ∨ 57 < c.toNat) : isD c = false := by
  cases hc : isD c
  · rfl
  · have := isD_iff.1 hc; omega
theorem sgB_dig (b : Int) : isD (sgB b) = false := not_dig (by unfold sgB; split <;> simp)

/-- What stands where in a written text: the first number, the second, the stroke. -/
theorem wr_at {a b : Int} {e : Nat} {s : List UInt8} (hs : s = wr a b e) (ng : Bool) (hng : ng = true ↔ ∃ r, s = 45 :: r) :
    ng = decide (a < 0) ∧ (s.drop ng.toNat).takeWhile isD = Lib.decDigits a.natAbs ∧ s[ng.toNat + (Lib.decDigits a.natAbs).length]? = some (sgB b) ∧
    (s.drop (ng.toNat + (Lib.decDigits a.natAbs).length + 1)).takeWhile isD = Lib.decDigits b.natAbs ∧
    s.length = ng.toNat + (Lib.decDigits a.natAbs).length + 1 + (Lib.decDigits b.natAbs).length + 1 + (if e = 0 then 0 else 1 + (Lib.decDigits (2 ^ e)).length) ∧
    (e ≠ 0 → (s.drop (ng.toNat + (Lib.decDigits a.natAbs).length + 1 + (Lib.decDigits b.natAbs).length + 2)).takeWhile isD = Lib.decDigits (2 ^ e)) := by
  obtain ⟨z, hz⟩ : ∃ z, z = (if e = 0 then [] else 47 :: Lib.decDigits (2 ^ e)) := ⟨_, rfl⟩
  have e1 : s = (if a < 0 then [45] else []) ++ (Lib.decDigits a.natAbs ++ sgB b :: (Lib.decDigits b.natAbs ++ 105 :: z)) := by
    rw [hs, hz]
    unfold wr
    by_cases c : a < 0
    · rw [if_pos c, itoa_neg c]; simp
    · rw [if_neg c, itoa_nonneg (by omega)]; simp
  have hda := (dec_ok a.natAbs).1
  have hdb := (dec_ok b.natAbs).1
  have hde := (dec_ok (2 ^ e)).1
  obtain ⟨A, hA⟩ : ∃ A, A = Lib.decDigits a.natAbs := ⟨_, rfl⟩
  obtain ⟨B, hB⟩ : ∃ B, B = Lib.decDigits b.natAbs := ⟨_, rfl⟩
  obtain ⟨Z, hZ⟩ : ∃ Z, Z = Lib.decDigits (2 ^ e) := ⟨_, rfl⟩
  rw [← hA, ← hB] at e1
  rw [← hZ] at hz
  rw [← hA] at hda
  rw [← hB] at hdb
  rw [← hZ] at hde
  rw [← hA, ← hB, ← hZ]
  have hn : ng = decide (a < 0) := by
    by_cases c : a < 0
    · rw [decide_eq_true c]
      rw [if_pos c] at e1
      exact hng.2 ⟨_, e1⟩
    · rw [decide_eq_false c]
      cases hng2 : ng
      · rfl
      · obtain ⟨r, hr⟩ := hng.1 hng2
        rw [if_neg c, List.nil_append] at e1
        obtain ⟨d, q, hd1, hd2⟩ := dec_cons a.natAbs
        rw [← hA] at hd1
        rw [e1, hd1] at hr
        injection hr with h1 _
        rw [h1] at hd2
        cases hd2
  have e2 : s.drop ng.toNat = A ++ sgB b :: (B ++ 105 :: z) := by
    rw [hn, e1]
    by_cases c : a < 0
    · rw [decide_eq_true c, if_pos c]; rfl
    · rw [decide_eq_false c, if_neg c]; rfl
  have hlen : s.length = ng.toNat + (A ++ sgB b :: (B ++ 105 :: z)).length := by
    rw [hn, e1]
    by_cases c : a < 0
    · rw [decide_eq_true c, if_pos c, List.length_append]; rfl
    · rw [decide_eq_false c, if_neg c, List.length_append]; rfl
  have e3 : s.drop (ng.toNat + A.length + 1) = B ++ 105 :: z := by
    rw [show ng.toNat + A.length + 1 = ng.toNat + (A.length + 1) by omega, ← List.drop_drop, e2, ← List.drop_drop, List.drop_left]; rfl
  have e4 : s.drop (ng.toNat + A.length + 1 + B.length + 1) = z := by
    rw [show ng.toNat + A.length + 1 + B.length + 1 = ng.toNat + A.length + 1 + (B.length + 1) by omega, ← List.drop_drop, e3, ← List.drop_drop, List.drop_left]; rfl
  refine ⟨hn, ?_, ?_, ?_, ?_, ?_⟩
  · rw [e2]; exact tw_stop hda (sgB_dig b)
  · have : (s.drop ng.toNat)[A.length]? = some (sgB b) := by rw [e2, List.getElem?_append_right (Nat.le_refl _), Nat.sub_self]; rfl
    rw [List.getElem?_drop] at this
    exact this
  · rw [e3]; exact tw_stop hdb (not_dig (.inr (by decide)))
  · rw [hlen, hz]
    simp only [List.length_append, List.length_cons]
    by_cases c : e = 0
    · rw [if_pos c, if_pos c]; simp; omega
    · rw [if_neg c, if_neg c]; simp; omega
  · intro c
    rw [show ng.toNat + A.length + 1 + B.length + 2 = ng.toNat + A.length + 1 + B.length + 1 + 1 by omega, ← List.drop_drop, e4, hz, if_neg c]
    exact tw_all hde

theorem dec_okN {n : Nat} (h : n < 9223372036854775808) : okN (Lib.decDigits n) := ⟨(dec_ok n).2.1, decD_len (by omega), by rw [(dec_ok n).2.2]; exact h⟩

end Go.Proofs.YtaaecodkdgkjoaaDoor.B
