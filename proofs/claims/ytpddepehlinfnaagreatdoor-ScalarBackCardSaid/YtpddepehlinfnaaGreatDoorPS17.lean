/- Part of a claim: sums in words of 32 bits. Nothing of a program stands here. -/
import Derived.Test.YtpddepehlinfnaaGreatDoorPS16
set_option linter.unusedSimpArgs false
set_option linter.unusedVariables false
namespace Go.Proofs.YtpddepehlinfnaaGreatDoor.FL

/-- What words stand for, the lowest first. -/
def lim : List Int → Int
  | [] => 0
  | x :: l => x + 4294967296 * lim l

theorem lim_append : ∀ (a b : List Int), lim (a ++ b) = lim a + 4294967296 ^ a.length * lim b
  | [], b => by simp [lim]
  | x :: a, b => by
    rw [List.cons_append, lim, lim_append a b, lim, List.length_cons, Int.pow_succ, Int.mul_add]
    rw [← Int.mul_assoc, Int.mul_comm 4294967296 (4294967296 ^ a.length)]
    omega

/-- Digits, all of 32 bits, lie below the next power. -/
theorem lim_lt : ∀ (w : List Int), (∀ x ∈ w, 0 ≤ x ∧ x < 4294967296) → 0 ≤ lim w ∧ lim w < 4294967296 ^ w.length
  | [], _ => by simp [lim]
  | x :: l, h => by
    have ih := lim_lt l fun y hy => h y (by simp [hy])
    have hx := h x (by simp)
    rw [lim, List.length_cons, Int.pow_succ, Int.mul_comm (4294967296 ^ l.length)]
    generalize (4294967296 : Int) ^ l.length = P at *
    omega

/-- A word turned. -/
theorem lim_set : ∀ (w : List Int) (i : Nat) (x y : Int), w[i]? = some y → lim (w.set i (y + x)) = lim w + 4294967296 ^ i * x
  | [], i, x, y, h => by simp at h
  | z :: l, 0, x, y, h => by
    simp only [List.getElem?_cons_zero, Option.some.injEq] at h
    subst h
    rw [List.set_cons_zero, lim, lim, Int.pow_zero]; omega
  | z :: l, i + 1, x, y, h => by
    have ih := lim_set l i x y (by simpa using h)
    have e : (4294967296 : Int) ^ (i + 1) * x = 4294967296 * (4294967296 ^ i * x) := by rw [Int.pow_succ, Int.mul_comm (4294967296 ^ i) 4294967296, Int.mul_assoc]
    rw [List.set_cons_succ, lim, lim, ih, e]
    generalize (4294967296 : Int) ^ i * x = q
    omega

theorem getD_some {w : List Int} {i : Nat} (h : i < w.length) : w[i]? = some (w.getD i 0) := by
  rw [List.getElem?_eq_getElem h, List.getD_eq_getElem?_getD, List.getElem?_eq_getElem h]; rfl

/-- One word carried into the next. -/
def step (w : List Int) (i : Nat) : List Int := (w.set i (w.getD i 0 % 4294967296)).set (i + 1) (w.getD (i + 1) 0 + w.getD i 0 / 4294967296)

theorem step_length (w : List Int) (i : Nat) : (step w i).length = w.length := by simp [step]

theorem lim_step (w : List Int) (i : Nat) (h : i + 1 < w.length) : lim (step w i) = lim w := by
  have h1 : (w.set i (w.getD i 0 % 4294967296))[i + 1]? = some (w.getD (i + 1) 0) := by
    rw [List.getElem?_set_ne (by omega)]; exact getD_some h
  have h2 : w.getD i 0 % 4294967296 = w.getD i 0 + (w.getD i 0 % 4294967296 - w.getD i 0) := by omega
  unfold step
  rw [lim_set _ _ _ _ h1, h2, lim_set _ _ _ _ (getD_some (by omega))]
  have e : (4294967296 : Int) ^ (i + 1) * (w.getD i 0 / 4294967296) = 4294967296 ^ i * (4294967296 * (w.getD i 0 / 4294967296)) := by rw [Int.pow_succ, Int.mul_assoc]
  rw [e, Int.add_assoc, ← Int.mul_add, show w.getD i 0 % 4294967296 - w.getD i 0 + 4294967296 * (w.getD i 0 / 4294967296) = 0 by omega, Int.mul_zero, Int.add_zero]

/-- What holds of the words after i steps: the first i lie in 32 bits; the others are small yet. -/
structure Carried (w0 w : List Int) (i : Nat) (b : Int) : Prop where
  len : w.length = w0.length
  val : lim w = lim w0
  low : ∀ k x, k < i → w[k]? = some x → 0 ≤ x ∧ x < 4294967296
  at_ : ∀ x, w[i]? = some x → -b - 2147483648 ≤ x ∧ x ≤ b + 2147483648
  high : ∀ k x, i < k → w[k]? = some x → -b ≤ x ∧ x ≤ b

theorem Carried.start {w : List Int} {b : Int} (h : ∀ x ∈ w, -b ≤ x ∧ x ≤ b) : Carried w w 0 b :=
  ⟨rfl, rfl, fun k x hk => absurd hk (by omega), fun x hx => by have := h x (List.mem_of_getElem? hx); omega, fun k x _ hx => h x (List.mem_of_getElem? hx)⟩

theorem Carried.next {w0 w : List Int} {i : Nat} {b : Int} (c : Carried w0 w i b) (hb : b ≤ 4611686018427387904) (h : i + 1 < w.length) : Carried w0 (step w i) (i + 1) b := by
  have gi := getD_some (w := w) (i := i) (by omega)
  have gj := getD_some (w := w) (i := i + 1) h
  have ha := c.at_ _ gi
  have hh := c.high (i + 1) _ (by omega) gj
  refine ⟨by rw [step_length]; exact c.len, by rw [lim_step _ _ h]; exact c.val, fun k x hk hx => ?_, fun x hx => ?_, fun k x hk hx => ?_⟩
  · unfold step at hx
    rw [List.getElem?_set_ne (by omega), List.getElem?_set] at hx
    split at hx
    · split at hx
      · cases hx; omega
      · cases hx
    · exact c.low k x (by omega) hx
  · unfold step at hx
    rw [List.getElem?_set_self (by simpa using h)] at hx
    cases hx
    omega
  · unfold step at hx
    rw [List.getElem?_set_ne (by omega), List.getElem?_set_ne (by omega)] at hx
    exact c.high k x (by omega) hx

end Go.Proofs.YtpddepehlinfnaaGreatDoor.FL
