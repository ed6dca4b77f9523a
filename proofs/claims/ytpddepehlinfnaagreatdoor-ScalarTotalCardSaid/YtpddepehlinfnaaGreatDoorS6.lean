/- Part of a claim: the order of floats, in plain numbers. -/
import Derived.Test.YtpddepehlinfnaaGreatDoorS5
set_option linter.unusedSimpArgs false
set_option linter.unusedVariables false
namespace Go.Proofs.YtpddepehlinfnaaGreatDoor.B
open Go Go.RowKit Go.Proofs.YtpddepehlinfnaaGreatDoor.E Go.Proofs.YtpddepehlinfnaaGreatDoor.FL

theorem cmpW_range (a b : Nat) : -1 ≤ cmpW a b ∧ cmpW a b ≤ 1 := by unfold cmpW; split <;> (try split) <;> omega
theorem cmpW_turn (a b : Nat) : cmpW b a = -cmpW a b := by unfold cmpW; repeat' split <;> omega
theorem cmpW_trans {a b c : Nat} (h1 : cmpW a b ≤ 0) (h2 : cmpW b c ≤ 0) : cmpW a c ≤ 0 := by
  unfold cmpW at h1 h2 ⊢
  split at h1 <;> split at h2 <;> split <;> (try split) <;> (try split at h1) <;> (try split at h2) <;> omega
theorem cmpW_zero {a b : Nat} : cmpW a b = 0 ↔ plR a = plR b := by
  unfold cmpW
  split
  · omega
  · split <;> omega

theorem plR_inj {a b : Nat} (ha : a < 18446744073709551616) (hb : b < 18446744073709551616) : plR a = plR b ↔ Bw a = Bw b := by
  cases na : isNaN .f64 a <;> cases nb : isNaN .f64 b
  · have la := num_lt na
    have lb := num_lt nb
    rw [Bw_num na, Bw_num nb]
    unfold plR
    rw [na, nb]
    simp only [Bool.false_eq_true, if_false]
    split <;> split <;> omega
  · have la := num_lt na
    have pa := plR_num ha na
    rw [Bw_num na, Bw_nan nb, plR_nan nb]
    omega
  · have lb := num_lt nb
    have pb := plR_num hb nb
    rw [Bw_nan na, Bw_num nb, plR_nan na]
    omega
  · rw [Bw_nan na, Bw_nan nb, plR_nan na, plR_nan nb]
    exact ⟨fun _ => rfl, fun _ => rfl⟩

theorem cmpW_same {a b : Nat} (ha : a < 18446744073709551616) (hb : b < 18446744073709551616) : (cmpW a b == 0) = sameW a b := by
  unfold sameW
  by_cases h : Bw a = Bw b
  · rw [h, beq_self_eq_true, beq_iff_eq, cmpW_zero, plR_inj ha hb]; exact h
  · have e1 : (((Bw a : Nat) : Int) == (Bw b : Nat)) = false := by rw [beq_eq_false_iff_ne]; omega
    have e2 : (cmpW a b == 0) = false := by
      rw [beq_eq_false_iff_ne]
      intro e
      rw [cmpW_zero, plR_inj ha hb] at e
      exact h e
    rw [e1, e2]

theorem plS_range {n : Nat} (h : n < 18446744073709551616) (hn : isNaN .f64 n = false) : -9218868437227405313 ≤ plS n ∧ plS n ≤ 9218868437227405312 := (plR_num h hn).2
theorem atP_plS {n : Nat} (h : n < 18446744073709551616) : atP (plS n) = n := by
  unfold atP plS; split <;> split <;> omega
theorem plS_atP {q : Int} (h1 : -9218868437227405313 ≤ q) (h2 : q ≤ 9218868437227405312) : plS (atP q) = q ∧ atP q < 18446744073709551616 ∧ isNaN .f64 (atP q) = false := by
  have e : ∃ m : Nat, atP q = m ∧ (q < 0 ∧ (m : Int) = 9223372036854775807 - q ∨ 0 ≤ q ∧ (m : Int) = q) := by
    refine ⟨_, rfl, ?_⟩
    unfold atP
    split
    · left; omega
    · right; omega
  obtain ⟨m, hm, hc⟩ := e
  rw [hm, isNaN_of, decide_eq_false_iff_not]
  unfold plS
  split <;> omega

theorem edge_num {up : Bool} {n : Nat} (he : edge up n = false) : isNaN .f64 n = false := by
  unfold edge at he; rw [Bool.or_eq_false_iff] at he; exact he.1

/-- A step up, and the way back. -/
theorem next_up {n : Nat} (h : n < 18446744073709551616) (he : edge true n = false) :
    nextW true n < 18446744073709551616 ∧ isNaN .f64 (nextW true n) = false ∧ plS (nextW true n) = plS n + 1 ∧ nextW false (nextW true n) = n := by
  have hn := edge_num he
  have hr := plS_range h hn
  have h1 : ¬ n = 9218868437227405312 := by
    unfold edge at he
    rw [hn, Bool.false_or] at he
    exact of_decide_eq_false he
  have h2 : plS n < 9218868437227405312 := by
    have := num_lt hn
    unfold plS at hr ⊢
    split <;> omega
  have e : nextW true n = atP (plS n + 1) := by
    unfold nextW; rw [he]; rfl
  obtain ⟨k1, k2, k3⟩ := plS_atP (q := plS n + 1) (by omega) (by omega)
  rw [← e] at k1 k2 k3
  refine ⟨k2, k3, k1, ?_⟩
  have hf : edge false (nextW true n) = false := by
    unfold edge
    rw [k3, Bool.false_or]
    refine decide_eq_false fun hh => ?_
    rw [hh] at k1
    have : plS 18442240474082181120 = -9218868437227405313 := by decide
    omega
  have e2 : nextW false (nextW true n) = atP (plS (nextW true n) - 1) := by
    unfold nextW at hf ⊢; rw [hf]; rfl
  rw [e2, k1, show plS n + 1 - 1 = plS n by omega, atP_plS h]

end Go.Proofs.YtpddepehlinfnaaGreatDoor.B
