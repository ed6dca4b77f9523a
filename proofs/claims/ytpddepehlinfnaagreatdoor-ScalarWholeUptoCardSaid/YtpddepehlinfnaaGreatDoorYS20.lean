/- Part of a claim: the sum that is rounded once: in any order, with all signs turned, with two that make nought put in. Nothing of a program stands here. -/
import Derived.Test.YtpddepehlinfnaaGreatDoorYS19
set_option linter.unusedSimpArgs false
set_option linter.unusedVariables false
namespace Go.Proofs.YtpddepehlinfnaaGreatDoor.FL
open Go Ieee

theorem any_perm {l l' : List Nat} (h : l.Perm l') (f : Nat → Bool) : l.any f = l'.any f := by
  rw [Bool.eq_iff_iff, List.any_eq_true, List.any_eq_true]
  exact ⟨fun ⟨x, a, b⟩ => ⟨x, h.mem_iff.1 a, b⟩, fun ⟨x, a, b⟩ => ⟨x, h.mem_iff.2 a, b⟩⟩
theorem all_perm {l l' : List Nat} (h : l.Perm l') (f : Nat → Bool) : l.all f = l'.all f := by
  rw [Bool.eq_iff_iff, List.all_eq_true, List.all_eq_true]
  exact ⟨fun a x hx => a x (h.mem_iff.2 hx), fun a x hx => a x (h.mem_iff.1 hx)⟩
theorem tot_perm {l l' : List Nat} (h : l.Perm l') : tot l = tot l' := by
  induction h with
  | nil => rfl
  | cons x _ ih => rw [tot, tot, ih]
  | swap x y l => rw [tot, tot, tot, tot]; omega
  | trans _ _ a b => exact a.trans b
theorem empty_perm {l l' : List Nat} (h : l.Perm l') : l.isEmpty = l'.isEmpty := by
  have := h.length_eq
  cases l <;> cases l' <;> simp_all

theorem whole_perm {l l' : List Nat} (h : l.Perm l') : wholeW l = wholeW l' := by
  unfold wholeW
  rw [any_perm h, any_perm h, any_perm h, all_perm h, tot_perm h, empty_perm h]

/-- A row read backwards from some place on. -/
def turned (l : List Nat) (k : Nat) : List Nat := l.reverse.drop k ++ l.reverse.take k
theorem turned_perm (l : List Nat) (k : Nat) : (turned l k).Perm l := by
  refine List.perm_append_comm.trans ?_
  rw [List.take_append_drop]
  exact List.reverse_perm l
theorem turned_length (l : List Nat) (k : Nat) : (turned l k).length = l.length := (turned_perm l k).length_eq
theorem turned_get {l : List Nat} {k i : Nat} (hk : k < l.length) (hi : i < l.length) : (turned l k)[i]? = l[l.length - 1 - (k + i) % l.length]? := by
  unfold turned
  by_cases c : i < l.length - k
  · rw [List.getElem?_append_left (by simp; omega), List.getElem?_drop, List.getElem?_reverse (by omega), Nat.mod_eq_of_lt (by omega)]
  · rw [List.getElem?_append_right (by simp; omega), List.length_drop, List.length_reverse, List.getElem?_take, if_pos (by omega), List.getElem?_reverse (by omega)]
    congr 2
    rw [show k + i = l.length + (i - (l.length - k)) by omega, Nat.add_mod_left, Nat.mod_eq_of_lt (by omega)]

/-- The other sign. -/
def negW (n : Nat) : Nat := D.word (!decide (9223372036854775808 ≤ n)) (n % 9223372036854775808)
theorem negW_eq {n : Nat} (h : n < 18446744073709551616) : negW n = if n < 9223372036854775808 then n + 9223372036854775808 else n - 9223372036854775808 := by
  unfold negW Ieee.Format.word
  rw [d_sw]
  by_cases c : 9223372036854775808 ≤ n
  · rw [decide_eq_true c, if_neg (show ¬ n < 9223372036854775808 by omega), Bool.not_true]
    simp only [Bool.false_eq_true, if_false]; omega
  · rw [decide_eq_false c, if_pos (show n < 9223372036854775808 by omega), Bool.not_false]
    simp only [if_true]; omega
theorem negW_lt {n : Nat} (h : n < 18446744073709551616) : negW n < 18446744073709551616 := by rw [negW_eq h]; split <;> omega
theorem negW_mod {n : Nat} (h : n < 18446744073709551616) : negW n % 9223372036854775808 = n % 9223372036854775808 := by rw [negW_eq h]; split <;> omega
theorem sv_neg {n : Nat} (h : n < 18446744073709551616) : svW (negW n) = -svW n := by
  unfold svW
  rw [negW_mod h]
  split
  · by_cases c : 9223372036854775808 ≤ n
    · rw [decide_eq_true c, decide_eq_false (by rw [negW_eq h]; split <;> omega), sval_true, sval_false]; omega
    · rw [decide_eq_false c, decide_eq_true (by rw [negW_eq h]; split <;> omega), sval_true, sval_false]
  · rfl

theorem tot_neg : ∀ {l : List Nat}, (∀ x ∈ l, x < 18446744073709551616) → tot (l.map negW) = -tot l
  | [], _ => rfl
  | x :: l, h => by
    rw [List.map_cons, tot, tot, tot_neg fun y hy => h y (by simp [hy]), sv_neg (h x (by simp))]; omega

theorem any_map {l : List Nat} {f g : Nat → Bool} (h : ∀ x ∈ l, f (negW x) = g x) : (l.map negW).any f = l.any g := by
  induction l with
  | nil => rfl
  | cons x l ih => rw [List.map_cons, List.any_cons, List.any_cons, h x (by simp), ih fun y hy => h y (by simp [hy])]

/-- What is told of a float, a nought's sign taken away. -/
def tellW (n : Nat) : Nat := if nanW n = true then 9221120237041090561 else if n = 9223372036854775808 then 0 else n

theorem word_true {r : Nat} : D.word true r = 9223372036854775808 + r := by
  unfold Ieee.Format.word; rw [d_sw, if_pos rfl]
theorem word_false' {r : Nat} : D.word false r = r := by
  unfold Ieee.Format.word; rw [if_neg (by decide)]

/-- The rounded sum of numbers alone. -/
def sumW (t : Int) : Nat := D.word (decide (t < 0)) (rung t.natAbs (-1074))
theorem sumW_lt (t : Int) : sumW t < 18446744073709551616 := by
  have := rung_le t.natAbs (-1074)
  unfold sumW
  cases decide (t < 0)
  · rw [word_false']; omega
  · rw [word_true]; omega
theorem rung_0 (i : Int) : rung 0 i = 0 := by unfold rung; rw [if_pos rfl]
theorem sumW_zero : sumW 0 = 0 := by
  unfold sumW
  rw [decide_eq_false (by omega), word_false']
  exact rung_0 _

theorem tell_zero {n : Nat} (h : n % 9223372036854775808 = 0) (h2 : n < 18446744073709551616) : tellW n = 0 := by
  unfold tellW nanW
  rw [if_neg (by rw [decide_eq_true_eq]; omega)]
  split <;> omega

theorem tell_sum (t : Int) : tellW (sumW (-t)) = tellW (negW (sumW t)) := by
  by_cases h0 : t = 0
  · subst h0
    rw [Int.neg_zero, sumW_zero, tell_zero (by decide) (by decide), tell_zero (by rw [negW_mod (by decide)]) (negW_lt (by decide))]
  · congr 1
    unfold negW
    have hl := rung_le t.natAbs (-1074)
    unfold sumW
    rw [Int.natAbs_neg]
    by_cases c : t < 0
    · rw [decide_eq_true c, decide_eq_false (show ¬ -t < 0 by omega), word_true, decide_eq_true (by omega), Bool.not_true, Nat.add_mod_left, Nat.mod_eq_of_lt (by omega)]
    · rw [decide_eq_false c, decide_eq_true (show -t < 0 by omega), word_false', decide_eq_false (by omega), Bool.not_false, Nat.mod_eq_of_lt (by omega)]

theorem all_zero {l : List Nat} (h : l.all (· == 9223372036854775808) = true) : tot l = 0 := by
  induction l with
  | nil => rfl
  | cons x l ih =>
    rw [List.all_cons, Bool.and_eq_true, beq_iff_eq] at h
    rw [tot, ih h.2, h.1]; rfl

/-- What wholeW is, but for a nought's sign. -/
def wholeP (l : List Nat) : Nat :=
  if l.any nanW || (l.any (· == 9218868437227405312) && l.any (· == 18442240474082181120)) then 9221120237041090561
  else if l.any (· == 9218868437227405312) then 9218868437227405312
  else if l.any (· == 18442240474082181120) then 18442240474082181120
  else sumW (tot l)

theorem tell_whole (l : List Nat) : tellW (wholeW l) = tellW (wholeP l) := by
  unfold wholeW wholeP
  split
  · rfl
  · split
    · rfl
    · split
      · rfl
      · split
        · rename_i h
          rw [Bool.and_eq_true] at h
          rw [all_zero h.2, sumW_zero]; decide
        · rfl

theorem tell_neg_whole (l : List Nat) : tellW (negW (wholeW l)) = tellW (negW (wholeP l)) := by
  unfold wholeW wholeP
  split
  · rfl
  · split
    · rfl
    · split
      · rfl
      · split
        · rename_i h
          rw [Bool.and_eq_true] at h
          rw [all_zero h.2, sumW_zero]; decide
        · rfl

theorem whole_neg {l : List Nat} (h : ∀ x ∈ l, x < 18446744073709551616) : tellW (wholeW (l.map negW)) = tellW (negW (wholeW l)) := by
  rw [tell_whole, tell_neg_whole]
  have n1 : (l.map negW).any nanW = l.any nanW := any_map fun x hx => by unfold nanW; rw [negW_mod (h x hx)]
  have n2 : (l.map negW).any (· == 9218868437227405312) = l.any (· == 18442240474082181120) := any_map fun x hx => by
    rw [Bool.eq_iff_iff, beq_iff_eq, beq_iff_eq, negW_eq (h x hx)]; split <;> omega
  have n3 : (l.map negW).any (· == 18442240474082181120) = l.any (· == 9218868437227405312) := any_map fun x hx => by
    rw [Bool.eq_iff_iff, beq_iff_eq, beq_iff_eq, negW_eq (h x hx)]; have := h x hx; split <;> omega
  unfold wholeP
  rw [n1, n2, n3, tot_neg h]
  cases l.any nanW <;> cases l.any (· == 9218868437227405312) <;> cases l.any (· == 18442240474082181120) <;>
    simp only [Bool.or_true, Bool.true_or, Bool.false_or, Bool.and_self, Bool.and_true, Bool.true_and, Bool.and_false, Bool.false_and, Bool.false_eq_true, if_true, if_false] <;> first | exact tell_sum _ | decide

theorem whole_both {l : List Nat} {y : Nat} (hy : y % 9223372036854775808 < 9218868437227405312) (hy2 : y < 18446744073709551616) : tellW (wholeW (l ++ [y, negW y])) = tellW (wholeW l) := by
  rw [tell_whole, tell_whole]
  congr 1
  have e : negW y % 9223372036854775808 = y % 9223372036854775808 := negW_mod hy2
  have a1 : nanW y = false := decide_eq_false (by omega)
  have a2 : nanW (negW y) = false := decide_eq_false (by omega)
  have b1 : (y == 9218868437227405312) = false := by rw [beq_eq_false_iff_ne]; omega
  have b2 : (negW y == 9218868437227405312) = false := by rw [beq_eq_false_iff_ne]; omega
  have c1 : (y == 18442240474082181120) = false := by rw [beq_eq_false_iff_ne]; omega
  have c2 : (negW y == 18442240474082181120) = false := by rw [beq_eq_false_iff_ne]; omega
  unfold wholeP
  rw [tot_append]
  simp only [List.any_append, List.any_cons, List.any_nil, a1, a2, b1, b2, c1, c2, Bool.or_false, tot, sv_neg hy2]
  rw [show tot l + (svW y + (-svW y + 0)) = tot l by omega]

end Go.Proofs.YtpddepehlinfnaaGreatDoor.FL
