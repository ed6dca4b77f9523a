/- Part of a claim: the lowest bit of a number taken away; sums over bits. Nothing of a program stands here. -/
import Derived.Test.YtecfmnldanahiaaDoorPC
set_option linter.unusedSimpArgs false
set_option linter.unusedVariables false
namespace Go.Proofs.YtecfmnldanahiaaDoor.PC
open Go

/-- A bit of a word. -/
def bt (x q : Nat) : Nat := x / 2 ^ q % 2
theorem bt_lt (x q : Nat) : bt x q < 2 := Nat.mod_lt _ (by decide)
theorem bt_test (x q : Nat) : x.testBit q = decide (bt x q = 1) := Nat.testBit_eq_decide_div_mod_eq
theorem bt_zero {x q : Nat} : bt x q = 0 ↔ x.testBit q = false := by
  have := bt_lt x q
  rw [bt_test, decide_eq_false_iff_not]
  omega
theorem bt_one {x q : Nat} : bt x q = 1 ↔ x.testBit q = true := by rw [bt_test, decide_eq_true_eq]
theorem bt_succ (x q : Nat) : bt x (q + 1) = bt (x / 2) q := by
  unfold bt
  rw [Nat.pow_succ, Nat.mul_comm, Nat.div_div_eq_div_mul]
theorem bt_0 (x : Nat) : bt x 0 = x % 2 := by unfold bt; rw [Nat.pow_zero, Nat.div_one]
theorem bt_ext {x y : Nat} (h : ∀ q, bt x q = bt y q) : x = y := by
  refine Nat.eq_of_testBit_eq fun i => ?_
  rw [bt_test, bt_test, h i]
theorem bt_or (x y q : Nat) : bt (x ||| y) q = if bt x q = 1 ∨ bt y q = 1 then 1 else 0 := by
  have h := bt_lt (x ||| y) q
  have e := Nat.testBit_or x y q
  rw [bt_test, bt_test, bt_test] at e
  by_cases c : bt x q = 1 ∨ bt y q = 1
  · rw [if_pos c]
    have : (decide (bt x q = 1) || decide (bt y q = 1)) = true := by rw [← Bool.decide_or]; exact decide_eq_true c
    rw [this] at e
    exact of_decide_eq_true e
  · rw [if_neg c]
    have : (decide (bt x q = 1) || decide (bt y q = 1)) = false := by rw [← Bool.decide_or]; exact decide_eq_false c
    rw [this] at e
    have := of_decide_eq_false e
    omega
theorem bt_and (x y q : Nat) : bt (x &&& y) q = if bt x q = 1 ∧ bt y q = 1 then 1 else 0 := by
  have h := bt_lt (x &&& y) q
  have e := Nat.testBit_and x y q
  rw [bt_test, bt_test, bt_test] at e
  by_cases c : bt x q = 1 ∧ bt y q = 1
  · rw [if_pos c]
    have : (decide (bt x q = 1) && decide (bt y q = 1)) = true := by rw [← Bool.decide_and]; exact decide_eq_true c
    rw [this] at e
    exact of_decide_eq_true e
  · rw [if_neg c]
    have : (decide (bt x q = 1) && decide (bt y q = 1)) = false := by rw [← Bool.decide_and]; exact decide_eq_false c
    rw [this] at e
    have := of_decide_eq_false e
    omega
theorem bt_xor (x y q : Nat) : bt (x ^^^ y) q = if bt x q = bt y q then 0 else 1 := by
  have h := bt_lt (x ^^^ y) q
  have h1 := bt_lt x q
  have h2 := bt_lt y q
  have e := Nat.testBit_xor x y q
  rw [bt_test, bt_test, bt_test] at e
  have k1 : bt x q = 0 ∨ bt x q = 1 := by omega
  have k2 : bt y q = 0 ∨ bt y q = 1 := by omega
  rcases k1 with a | a <;> rcases k2 with b | b <;> rw [a, b] at e ⊢ <;> simp at e <;> simp <;> omega

/-- How many twos a number bears. -/
def tzF : Nat → Nat → Nat
  | 0, _ => 0
  | n + 1, m => if m % 2 = 0 then tzF n (m / 2) + 1 else 0
theorem tzF_lt : ∀ (n m : Nat), m ≠ 0 → m < 2 ^ n → tzF n m < n ∧ bt m (tzF n m) = 1
  | 0, m, h0, h => by omega
  | n + 1, m, h0, h => by
    unfold tzF
    by_cases c : m % 2 = 0
    · rw [if_pos c]
      rw [Nat.pow_succ] at h
      obtain ⟨h1, h2⟩ := tzF_lt n (m / 2) (by omega) (by omega)
      rw [bt_succ]
      exact ⟨by omega, h2⟩
    · rw [if_neg c, bt_0]
      exact ⟨by omega, by omega⟩

theorem and_compl {n y : Nat} (h : y < 2 ^ n) : y &&& (2 ^ n - (y + 1)) = 0 := by
  refine Nat.eq_of_testBit_eq fun i => ?_
  rw [Nat.testBit_and, Nat.testBit_two_pow_sub_succ h, Nat.zero_testBit]
  cases y.testBit i <;> simp

/-- The lowest bit. -/
theorem low_bit : ∀ (n x : Nat), x ≠ 0 → x < 2 ^ n → x &&& (2 ^ n - x) = 2 ^ tzF n x
  | 0, x, h0, h => by omega
  | n + 1, x, h0, h => by
    rw [and_step]
    unfold tzF
    rw [Nat.pow_succ] at h ⊢
    by_cases c : x % 2 = 0
    · rw [if_pos c, if_neg (by omega), show (2 ^ n * 2 - x) / 2 = 2 ^ n - x / 2 by omega, low_bit n (x / 2) (by omega) (by omega), Nat.pow_succ]
      omega
    · rw [if_neg c, if_pos (by omega), show (2 ^ n * 2 - x) / 2 = 2 ^ n - (x / 2 + 1) by omega, and_compl (by omega)]

/-- A number without its lowest bit. -/
theorem bt_clear : ∀ (n x q : Nat), x ≠ 0 → x < 2 ^ n → bt (x &&& (x - 1)) q = if q = tzF n x then 0 else bt x q
  | 0, x, q, h0, h => by omega
  | n + 1, x, q, h0, h => by
    rw [and_step]
    unfold tzF
    rw [Nat.pow_succ] at h
    by_cases c : x % 2 = 0
    · rw [if_pos c, if_neg (by omega), Nat.add_zero, show (x - 1) / 2 = x / 2 - 1 by omega]
      cases q with
      | zero => rw [if_neg (by omega), bt_0, bt_0]; omega
      | succ q =>
        rw [bt_succ, bt_succ, show 2 * (x / 2 &&& x / 2 - 1) / 2 = (x / 2 &&& x / 2 - 1) by omega, bt_clear n (x / 2) q (by omega) (by omega)]
        by_cases e : q = tzF n (x / 2)
        · rw [if_pos e, if_pos (by omega)]
        · rw [if_neg e, if_neg (by omega)]
    · rw [if_neg c, if_neg (by omega), Nat.add_zero, show (x - 1) / 2 = x / 2 by omega, Nat.and_self]
      cases q with
      | zero => rw [if_pos rfl, bt_0]; omega
      | succ q => rw [if_neg (by omega), bt_succ, bt_succ, show 2 * (x / 2) / 2 = x / 2 by omega]

theorem clear_lt {x : Nat} (h0 : x ≠ 0) : x &&& (x - 1) < x := Nat.lt_of_le_of_lt Nat.and_le_right (by omega)

/-- A sum. -/
def sumTo (g : Nat → Nat) : Nat → Nat
  | 0 => 0
  | k + 1 => sumTo g k + g k
theorem sumTo_congr {g h : Nat → Nat} : ∀ {k : Nat}, (∀ q, q < k → g q = h q) → sumTo g k = sumTo h k
  | 0, _ => rfl
  | k + 1, e => by rw [sumTo, sumTo, sumTo_congr fun q hq => e q (by omega), e k (by omega)]
theorem sumTo_le {g : Nat → Nat} {m : Nat} : ∀ (k : Nat), (∀ q, q < k → g q ≤ m) → sumTo g k ≤ m * k
  | 0, _ => Nat.zero_le _
  | k + 1, h => by
    have := sumTo_le k fun q hq => h q (by omega)
    have := h k (by omega)
    rw [sumTo, Nat.mul_succ]
    omega
theorem sumTo_add (g h : Nat → Nat) : ∀ k : Nat, sumTo (fun q => g q + h q) k = sumTo g k + sumTo h k
  | 0 => rfl
  | k + 1 => by
    have := sumTo_add g h k
    simp only [sumTo]
    omega
/-- One summand taken away. -/
theorem sumTo_at {g h : Nat → Nat} {t a : Nat} (he : ∀ q, q ≠ t → g q = h q) (ht : g t = h t + a) : ∀ k : Nat, sumTo g k = sumTo h k + (if t < k then a else 0)
  | 0 => rfl
  | k + 1 => by
    have ih := sumTo_at he ht k
    rw [sumTo, sumTo, ih]
    by_cases c : k = t
    · subst c
      rw [ht, if_neg (by omega), if_pos (by omega)]
      omega
    · rw [he k c]
      by_cases c2 : t < k
      · rw [if_pos c2, if_pos (by omega)]; omega
      · rw [if_neg c2, if_neg (by omega)]; omega

theorem cnt_succ (n x : Nat) : cnt (n + 1) x = cnt n x + bt x n := by
  have e : cnt 1 (x / 2 ^ n) = bt x n := by simp [cnt, bt]
  rw [cnt_add n 1, e]
theorem cnt_sum (x : Nat) : ∀ n, cnt n x = sumTo (bt x) n
  | 0 => rfl
  | n + 1 => by rw [cnt_succ, sumTo, cnt_sum x n]

end Go.Proofs.YtecfmnldanahiaaDoor.PC
